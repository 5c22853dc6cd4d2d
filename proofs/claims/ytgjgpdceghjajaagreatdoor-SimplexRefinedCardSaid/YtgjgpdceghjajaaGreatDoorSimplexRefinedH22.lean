/- What functions of the program answer at given values, part 22. Conditions: those that each theorem names. -/
import Derived.Test.YtgjgpdceghjajaaGreatDoorSimplexRefinedH21
import Derived.Test.YtgjgpdceghjajaaGreatDoorSimplexRefinedH20
import Derived.Test.YtgjgpdceghjajaaGreatDoorSimplexRefinedH15
import Derived.Test.YtgjgpdceghjajaaGreatDoorSimplexRefinedH13
set_option linter.unusedSimpArgs false
set_option linter.unusedVariables false
set_option maxHeartbeats 8000000
set_option maxRecDepth 100000
section
namespace Go.Proofs.YtgjgpdceghjajaaGreatDoor
open Go Go.V Go.Nb
def nearZ (q : Rat) (s : Nat) : Int := (q.num * ((s * 2 : Nat) : Int) + q.den) / ((q.den * 2 : Nat) : Int)
theorem near_r (x : Rat) (s : Nat) (hx : S9 30000000 x.num) (hxd : (mg 1000000000 x.den).length ≤ 30000000) (hs : (mg 1000000000 s).length ≤ 30000000) : Called Tryz.prog 113 [rtD x, .ints .u32 (mg 1000000000 s)] (itD (nearZ x s)) := by
 have h2 : (mg 1000000000 2).length ≤ 1 := by decide
 have t1 := jcv s 2 (by omega) (by omega)
 have l1 := jbE (B := 1000000000) (by omega) s 2
 have s1 := jdg x.num (s * 2) (hx.mono (by omega)) (by omega)
 have s2 := jaW x.den false
 rw [if_neg (by simp)] at s2
 have z1 : S9 60000001 (x.num * ((s * 2 : Nat) : Int)) := hx.mul (l := 30000001) (S9.nat.2 (by omega))
 have z2 : S9 60000001 (x.den : Int) := S9.nat.2 (by omega)
 have s3 := sum_c9 _ _ (z1.mono (by omega)) (z2.mono (by omega))
 have t2 := jcv x.den 2 (by omega) (by omega)
 have l2 := jbE (B := 1000000000) (by omega) x.den 2
 have s4 := floor_c (x.num * ((s * 2 : Nat) : Int) + x.den) (x.den * 2) (by have := x.den_pos; omega) ((z1.add z2).mono (by omega)) (by omega)
 unfold nearZ
 clear z1 z2
 generalize x.num * ((s * 2 : Nat) : Int) + x.den = top at *
 refine V.en tbOk Tryz.func113 ?_
 (conv => whnf)
 refine V.st ?_
 refine ⟨(V.tk [0,1,2,3,6,7] (.ev (.cons 4 [7,6,1,0] (.ev (.cons 5 [7,6] (.ev (.cons 8 [] (.ev (.cons 9 [] (V.e1 10 [] (V.e1 11 [] .done)) (.cons 10 [] (V.e1 9 [] (V.e1 11 [] .done)) .nil))) (.cons 10 [7,6] (V.e1 8 [] (V.e1 9 [] (V.e1 11 [] .done))) .nil))) (.cons 10 [7,6,1,0] (V.e1 5 [7,6] (V.e1 8 [] (V.e1 9 [] (V.e1 11 [] .done)))) .nil))) (.cons 10 [7,6,3,2,1,0] (V.e1 4 [7,6,1,0] (V.e1 5 [7,6] (V.e1 8 [] (V.e1 9 [] (V.e1 11 [] .done))))) .nil)))), [], V.pok, ?_⟩
 refine jab [(6, .box 6 0), (5, .ints .u32 [2]), (7, .ints .u32 [2])] [(6, .box [.ints .u32 (mg 1000000000 top.natAbs), .bool (decide (top < 0))]), (7, .gone)] ?_ ?_
 ·exact V.d4 @jif t1 s1 s2 s3
 refine V.st ?_
 refine ⟨(V.tk [0,1,2,3] (V.e1 4 [0] (V.e1 5 [] (V.e1 6 [] .done)))), [], V.pok, .go (jad ?_)⟩
 (conv => whnf)
 refine V.st ?_
 repeat ((try ((with_reducible refine .ext ?_); (conv => whnf))); (with_reducible refine jaa (r := ?_) ?_ ?_); rotate_left; (focus (first | exact (t2) | exact (s4))); (conv => whnf); refine V.st ?_)
 exact Fin.of rfl
theorem jcT (n : Int) (d : Nat) (hd : 0 < d) (h : Nat.Coprime n.natAbs d) : (Rat.divInt n d).num = n ∧ (Rat.divInt n d).den = d := by
 have h1 : Int.gcd (d : Int) n = 1 := by rw [Int.gcd_comm]; exact h
 rw [Rat.num_divInt, Rat.den_divInt, if_neg (by omega), jiG (by omega), jiE, h1]
 simp
theorem jfc {a b c : Nat} (h : Nat.Coprime a b) (hc : c ∣ a) : Nat.Coprime c b := Nat.Coprime.coprime_dvd_left hc h
theorem cop_dvd' {a b c : Nat} (h : Nat.Coprime a b) (hc : c ∣ b) : Nat.Coprime a c := Nat.Coprime.coprime_dvd_right hc h
theorem sum_cop {xn yn : Int} {R L xb : Nat} (hx : Nat.Coprime xn.natAbs xb) (hR : R ∣ xb) (hRL : Nat.Coprime R L) : Nat.Coprime (xn * L + yn * R).natAbs R := by
 have h1 : Nat.gcd (xn * L + yn * R).natAbs R ∣ R := Nat.gcd_dvd_right _ _
 have h2 : Nat.gcd (xn * L + yn * R).natAbs R ∣ (xn * L + yn * R).natAbs := Nat.gcd_dvd_left _ _
 obtain ⟨d, hd⟩ : ∃ d, d = Nat.gcd (xn * L + yn * R).natAbs R := ⟨_, rfl⟩
 rw [← hd] at h1 h2
 have h3 : (d : Int) ∣ xn * L + yn * R := Int.ofNat_dvd_left.2 h2
 have h4 : (d : Int) ∣ yn * R := Int.dvd_trans (Int.ofNat_dvd.2 h1) (Int.dvd_mul_left _ _)
 have h5 : (d : Int) ∣ xn * L := by
  have := Int.dvd_sub h3 h4
  rwa [Int.add_sub_cancel] at this
 have h6 : d ∣ xn.natAbs * L := by
  have := Int.ofNat_dvd_left.1 h5
  rwa [Int.natAbs_mul, jix] at this
 have h7 : Nat.Coprime d L := jfc hRL h1
 have h8 : d ∣ xn.natAbs := Nat.Coprime.dvd_of_dvd_mul_right h7 h6
 have h9 : d ∣ Nat.gcd xn.natAbs xb := Nat.dvd_gcd h8 (Nat.dvd_trans h1 hR)
 rw [hx.gcd_eq_one] at h9
 show Nat.gcd _ _ = 1
 rw [← hd]
 exact Nat.dvd_one.1 h9
theorem add_parts (x y : Rat) :
  let g := Nat.gcd x.den y.den; let L := y.den / g; let R := x.den / g; let top := x.num * L + y.num * R; let h := Nat.gcd top.natAbs g
  (x + y).num = top / h ∧ (x + y).den = R * (y.den / h) := by
 intro g L R top h
 have hg : 0 < g := Nat.gcd_pos_of_pos_left _ x.den_pos
 have ex : x.den = R * g := (Nat.div_mul_cancel (Nat.gcd_dvd_left _ _)).symm
 have ey : y.den = L * g := (Nat.div_mul_cancel (Nat.gcd_dvd_right _ _)).symm
 have hRL : Nat.Coprime R L := Nat.coprime_div_gcd_div_gcd hg
 have c1 : Nat.Coprime top.natAbs R := sum_cop x.reduced (by rw [ex]; exact Nat.dvd_mul_right _ _) hRL
 have c2 : Nat.Coprime top.natAbs L := by
  have := sum_cop (xn := y.num) (yn := x.num) (R := L) (L := R) y.reduced (by rw [ey]; exact Nat.dvd_mul_right _ _) hRL.symm
  rwa [Int.add_comm] at this
 have hh : 0 < h := Nat.gcd_pos_of_pos_right _ hg
 have hht : h ∣ top.natAbs := Nat.gcd_dvd_left _ _
 have hhg : h ∣ g := Nat.gcd_dvd_right _ _
 have hT : ((h : Nat) : Int) ∣ top := Int.ofNat_dvd_left.2 hht
 obtain ⟨t, ht⟩ := hT
 obtain ⟨q, hq⟩ := hhg
 have hyq : y.den / h = L * q := by
  rw [ey, hq, jil h q, ← Nat.mul_assoc, Nat.mul_div_cancel _ hh]
 have htn : top.natAbs = h * t.natAbs := by rw [ht, Int.natAbs_mul, jix]
 have hcq : Nat.Coprime t.natAbs q := by
  have h1 : Nat.Coprime (top.natAbs / h) (g / h) := Nat.coprime_div_gcd_div_gcd hh
  rwa [htn, hq, Nat.mul_div_cancel_left _ hh, Nat.mul_div_cancel_left _ hh] at h1
 have htd : t.natAbs ∣ top.natAbs := by rw [htn]; exact Nat.dvd_mul_left _ _
 have hcop : Nat.Coprime t.natAbs (R * (y.den / h)) := by
  rw [hyq]
  exact Nat.Coprime.mul_right (jfc c1 htd) (Nat.Coprime.mul_right (jfc c2 htd) hcq)
 have hqp : 0 < q := Nat.pos_of_ne_zero fun e => by rw [e] at hq; omega
 have hLp : 0 < L := Nat.pos_of_ne_zero fun e => by have := y.den_pos; rw [ey, e] at this; omega
 have hRp : 0 < R := Nat.pos_of_ne_zero fun e => by have := x.den_pos; rw [ex, e] at this; omega
 have hsum : x + y = Rat.divInt t ((R * (y.den / h) : Nat) : Int) := by
  conv => lhs; rw [← jiH x, ← jiH y]
  rw [Rat.divInt_add_divInt _ _ (by have := x.den_pos; omega) (by have := y.den_pos; omega)]
  have hyp := y.den_pos
  have hxp := x.den_pos
  rw [Rat.divInt_eq_divInt_iff (by have := Nat.mul_pos hxp hyp; rw [← jis]; omega) (by have : 0 < R * (y.den / h) := by { rw [hyq]; exact Nat.mul_pos hRp (Nat.mul_pos hLp hqp) }; omega)]
  rw [hyq, ex, ey, hq]
  have e1 : x.num * ((L * (h * q) : Nat) : Int) + y.num * ((R * (h * q) : Nat) : Int) = (h * q : Nat) * top := by
   show _ = ((h * q : Nat) : Int) * (x.num * (L : Int) + y.num * (R : Int))
   simp only [jis, jit]
   congr 1 <;> ac_rfl
  rw [e1, ht]
  simp only [jis]
  ac_rfl
 have hp : 0 < R * (y.den / h) := by rw [hyq]; exact Nat.mul_pos hRp (Nat.mul_pos hLp hqp)
 obtain ⟨p1, p2⟩ := jcT t (R * (y.den / h)) hp hcop
 rw [hsum, p1, p2, ht, Int.mul_ediv_cancel_left _ (by omega)]
 exact ⟨rfl, rfl⟩
theorem mul_parts (x y : Rat) :
  let g := Nat.gcd x.num.natAbs y.den; let h := Nat.gcd y.num.natAbs x.den
  (x * y).num.natAbs = (x.num.natAbs / g) * (y.num.natAbs / h) ∧ (x * y).den = (x.den / h) * (y.den / g) := by
 intro g h
 have hg : 0 < g := Nat.gcd_pos_of_pos_right _ y.den_pos
 have hh : 0 < h := Nat.gcd_pos_of_pos_right _ x.den_pos
 obtain ⟨a, ha⟩ : g ∣ x.num.natAbs := Nat.gcd_dvd_left _ _
 obtain ⟨b, hb⟩ : g ∣ y.den := Nat.gcd_dvd_right _ _
 obtain ⟨c, hc⟩ : h ∣ y.num.natAbs := Nat.gcd_dvd_left _ _
 obtain ⟨d, hd⟩ : h ∣ x.den := Nat.gcd_dvd_right _ _
 have k1 : x.num.natAbs / g = a := by rw [ha, Nat.mul_div_cancel_left _ hg]
 have k2 : y.den / g = b := by rw [hb, Nat.mul_div_cancel_left _ hg]
 have k3 : y.num.natAbs / h = c := by rw [hc, Nat.mul_div_cancel_left _ hh]
 have k4 : x.den / h = d := by rw [hd, Nat.mul_div_cancel_left _ hh]
 have c1 : Nat.Coprime a b := by
  have : Nat.Coprime (x.num.natAbs / g) (y.den / g) := Nat.coprime_div_gcd_div_gcd hg
  rwa [k1, k2] at this
 have c2 : Nat.Coprime c d := by
  have : Nat.Coprime (y.num.natAbs / h) (x.den / h) := Nat.coprime_div_gcd_div_gcd hh
  rwa [k3, k4] at this
 have c3 : Nat.Coprime a d := jfc (cop_dvd' x.reduced (by rw [hd]; exact Nat.dvd_mul_left _ _)) (by rw [ha]; exact Nat.dvd_mul_left _ _)
 have c4 : Nat.Coprime c b := jfc (cop_dvd' y.reduced (by rw [hb]; exact Nat.dvd_mul_left _ _)) (by rw [hc]; exact Nat.dvd_mul_left _ _)
 have hcop : Nat.Coprime (a * c) (d * b) := Nat.Coprime.mul_right (Nat.Coprime.mul_left c3 c2) (Nat.Coprime.mul_left c1 c4)
 obtain ⟨u, hu⟩ : ((g : Nat) : Int) ∣ x.num := Int.ofNat_dvd_left.2 ⟨a, ha⟩
 obtain ⟨v, hv⟩ : ((h : Nat) : Int) ∣ y.num := Int.ofNat_dvd_left.2 ⟨c, hc⟩
 have hua : u.natAbs = a := by
  have := ha; rw [hu, Int.natAbs_mul, jix] at this
  exact Nat.eq_of_mul_eq_mul_left hg this
 have hvc : v.natAbs = c := by
  have := hc; rw [hv, Int.natAbs_mul, jix] at this
  exact Nat.eq_of_mul_eq_mul_left hh this
 have hbp : 0 < b := Nat.pos_of_ne_zero fun e => by have := y.den_pos; rw [hb, e] at this; omega
 have hdp : 0 < d := Nat.pos_of_ne_zero fun e => by have := x.den_pos; rw [hd, e] at this; omega
 have hp : 0 < d * b := Nat.mul_pos hdp hbp
 have hprod : x * y = Rat.divInt (u * v) ((d * b : Nat) : Int) := by
  conv => lhs; rw [← jiH x, ← jiH y]
  rw [Rat.divInt_mul_divInt]
  have hyp := y.den_pos
  have hxp := x.den_pos
  rw [Rat.divInt_eq_divInt_iff (by have := Nat.mul_pos hxp hyp; rw [← jis]; omega) (by omega), hb, hd]
  conv => lhs; rw [hu, hv]
  simp only [jis]
  ac_rfl
 obtain ⟨p1, p2⟩ := jcT (u * v) (d * b) hp (by rw [Int.natAbs_mul, hua, hvc]; exact hcop)
 rw [hprod, p1, p2, Int.natAbs_mul, hua, hvc, k1, k2, k3, k4]
 exact ⟨rfl, rfl⟩
theorem mul_sign (x y : Rat) : decide ((x * y).num < 0) = ((decide (x.num < 0) != decide (y.num < 0)) && !decide ((x * y).num = 0)) := by
 have hg : 0 < Nat.gcd (x.num * y.num).natAbs (x.den * y.den) := Nat.gcd_pos_of_pos_right _ (Nat.mul_pos x.den_pos y.den_pos)
 obtain ⟨t, ht⟩ : ((Nat.gcd (x.num * y.num).natAbs (x.den * y.den) : Nat) : Int) ∣ x.num * y.num := Int.ofNat_dvd_left.2 (Nat.gcd_dvd_left _ _)
 have key : (x * y).num = t := by
  rw [Rat.mul_def, Rat.normalize_eq]
  show x.num * y.num / ((Nat.gcd (x.num * y.num).natAbs (x.den * y.den) : Nat) : Int) = t
  conv => lhs; lhs; rw [ht]
  exact Int.mul_ediv_cancel_left _ (by omega)
 rw [key]
 generalize Nat.gcd (x.num * y.num).natAbs (x.den * y.den) = g at *
 have hs : (t < 0 ↔ x.num * y.num < 0) ∧ (t = 0 ↔ x.num * y.num = 0) := by
  rw [ht]
  constructor
  ·constructor
   ·intro h; exact Int.mul_neg_of_pos_of_neg (by omega) h
   ·intro h
    rcases Int.lt_or_le t 0 with h2 | h2
    ·exact h2
    ·have := jie (a := (g : Int)) (by omega) h2; omega
  ·constructor
   ·intro h; rw [h, Int.mul_zero]
   ·intro h; rcases Int.mul_eq_zero.1 h with h2 | h2 <;> omega
 by_cases h1 : x.num < 0 <;> by_cases h2 : y.num < 0 <;> by_cases h3 : t = 0
 all_goals
  have h4 := hs.1
  have h5 := hs.2
  simp only [h1, h2, h3, decide_true, decide_false, bne_self_eq_false, Bool.false_and, Bool.not_true, Bool.and_false, Bool.not_false, Bool.and_true]
 ·rfl
 ·rw [decide_eq_false_iff_not, h4]
  have := Int.mul_pos_of_neg_of_neg h1 h2; omega
 ·simp
 ·have h6 : x.num * y.num ≠ 0 := fun e => h3 (h5.2 e)
  have h7 : x.num * y.num ≤ 0 := Int.mul_nonpos_of_nonpos_of_nonneg (by omega) (by omega)
  simp only [h4]
  simp; omega
 ·simp
 ·have h6 : x.num * y.num ≠ 0 := fun e => h3 (h5.2 e)
  have h7 : x.num * y.num ≤ 0 := Int.mul_nonpos_of_nonneg_of_nonpos (by omega) (by omega)
  simp only [h4]
  simp; omega
 ·rfl
 ·rw [decide_eq_false_iff_not, h4]
  have := jie (a := x.num) (b := y.num) (by omega) (by omega); omega
def Q9 (k : Nat) (q : Rat) : Prop := S9 k q.num ∧ (mg 1000000000 q.den).length ≤ k
theorem Q9.mono {k l : Nat} {q : Rat} (h : Q9 k q) (hl : k ≤ l) : Q9 l q := ⟨h.1.mono hl, jiq h.2 hl⟩
theorem Q9.neg {k : Nat} {q : Rat} (h : Q9 k q) : Q9 k (-q) := ⟨by rw [Rat.neg_num]; exact h.1.neg, by rw [Rat.neg_den]; exact h.2⟩
theorem div_sign (t : Int) (h : Nat) (hd : h ∣ t.natAbs) : (if decide (t < 0) = true then -((t.natAbs / h : Nat) : Int) else ((t.natAbs / h : Nat) : Int)) = t / h := by
 have e : t = t.sign * (t.natAbs : Int) := (Int.sign_mul_natAbs t).symm
 by_cases hz : t < 0
 ·rw [decide_eq_true hz, if_pos rfl]
  have e2 : t = -(t.natAbs : Int) := by omega
  conv => rhs; rw [e2]
  rw [Int.neg_ediv_of_dvd (Int.ofNat_dvd.2 hd), Int.natCast_ediv]
 ·rw [decide_eq_false hz, if_neg (by simp)]
  have e2 : t = (t.natAbs : Int) := by omega
  conv => rhs; rw [e2]
  rw [Int.natCast_ediv]
theorem negated_c (q : Rat) : Called Tryz.prog 170 [rtD q] (rtD (-q)) := by
 have h1 := jfy q.num
 have e : rtD (-q) = .agg [.ints .u32 (mg 1000000000 (-q.num).natAbs), .bool (decide (-q.num < 0)), .ints .u32 (mg 1000000000 q.den)] := by unfold rtD; rw [Rat.neg_num, Rat.neg_den]
 rw [e]
 refine V.en tbOk Tryz.func170 ?_
 (conv => whnf)
 refine V.st ?_
 refine ⟨(V.tk [0,1,3,4] (V.e1 2 [4,3] (V.tk [5] (V.e1 6 [] .done)))), [], V.pok, .go (jad ?_)⟩
 (conv => whnf)
 refine V.st ?_
 repeat ((try ((with_reducible refine .ext ?_); (conv => whnf))); (with_reducible refine jaa (r := ?_) ?_ ?_); rotate_left; (focus (first | exact (h1))); (conv => whnf); refine V.st ?_)
 exact Fin.of rfl
theorem add_c (x y : Rat) (hx : Q9 20000000 x) (hy : Q9 20000000 y) : Called Tryz.prog 138 [rtD x, rtD y] (rtD (x + y)) := by
 obtain ⟨p1, p2⟩ := add_parts x y
 have g1 := gcd_c x.den y.den (by have := hx.2; omega) (by have := hy.2; omega)
 have hg : 0 < Nat.gcd x.den y.den := Nat.gcd_pos_of_pos_left _ x.den_pos
 have lg := jaf (B := 1000000000) (by omega) (Nat.gcd_le_left y.den x.den_pos)
 generalize Nat.gcd x.den y.den = g at *
 have hx1 := hx.1
 have hy1 := hy.1
 have hx2 := hx.2
 have hy2 := hy.2
 have d1 := ja6 y.den g hg (by omega) (by omega)
 have d2 := ja6 x.den g hg (by omega) (by omega)
 have lL := jaf (B := 1000000000) (by omega) (jiz y.den g)
 have lR := jaf (B := 1000000000) (by omega) (jiz x.den g)
 have s1 := jdg x.num (y.den / g) (hx1.mono (by omega)) (by omega)
 have s2 := jdg y.num (x.den / g) (hy1.mono (by omega)) (by omega)
 have z1 : S9 40000000 (x.num * ((y.den / g : Nat) : Int)) := hx1.mul (l := 20000000) (S9.nat.2 (by omega))
 have z2 : S9 40000000 (y.num * ((x.den / g : Nat) : Int)) := hy1.mul (l := 20000000) (S9.nat.2 (by omega))
 have s3 := sum_c9 _ _ (z1.mono (by omega)) (z2.mono (by omega))
 have z3 := z1.add z2
 generalize x.num * ((y.den / g : Nat) : Int) + y.num * ((x.den / g : Nat) : Int) = top at *
 unfold S9 at z3
 have g2 := gcd_c top.natAbs g (by omega) (by omega)
 have hh : 0 < Nat.gcd top.natAbs g := Nat.gcd_pos_of_pos_right _ hg
 have lh := jaf (B := 1000000000) (by omega) (Nat.gcd_le_right top.natAbs hg)
 have hdv : Nat.gcd top.natAbs g ∣ top.natAbs := Nat.gcd_dvd_left _ _
 generalize Nat.gcd top.natAbs g = h at *
 have d3 := ja6 top.natAbs h hh (by omega) (by omega)
 have d4 := ja6 y.den h hh (by omega) (by omega)
 have lT := jaf (B := 1000000000) (by omega) (jiz y.den h)
 have t1 := jcv (x.den / g) (y.den / h) (by omega) (by omega)
 have m1 := jaW (top.natAbs / h) (decide (top < 0))
 rw [div_sign top h hdv, ← p1] at m1
 rw [← p2] at t1
 refine V.en tbOk Tryz.func138 ?_
 (conv => whnf)
 refine V.st ?_
 repeat ((try ((with_reducible refine .ext ?_); (conv => whnf))); (with_reducible refine jaa (r := ?_) ?_ ?_); rotate_left; (focus (first | exact (g1) | exact (d1) | exact (d2))); (conv => whnf); refine V.st ?_)
 refine ⟨(V.tk [0,1,2,4,5,6] (.ev (.cons 3 [6,5,4] (.ev (.cons 7 [] (.ev (.cons 8 [] (V.e1 9 [] (V.e1 10 [] .done)) (.cons 9 [] (V.e1 8 [] (V.e1 10 [] .done)) .nil))) (.cons 9 [6,5,4] (V.e1 7 [] (V.e1 8 [] (V.e1 10 [] .done))) .nil))) (.cons 9 [6,5,4,2,1,0] (V.e1 3 [6,5,4] (V.e1 7 [] (V.e1 8 [] (V.e1 10 [] .done)))) .nil)))), [], V.pok, ?_⟩
 refine jab [(10, .box 10 0)] [(10, .box [.ints .u32 (mg 1000000000 top.natAbs), .bool (decide (top < 0))])] ?_ ?_
 ·exact V.d3 @jif s1 s2 s3
 (conv => whnf)
 refine V.st ?_
 repeat ((try ((with_reducible refine .ext ?_); (conv => whnf))); (with_reducible refine jaa (r := ?_) ?_ ?_); rotate_left; (focus (first | exact (g2) | exact (d3) | exact (d4) | exact (m1) | exact (t1))); (conv => whnf); refine V.st ?_)
 exact Fin.of rfl
theorem sub_c (x y : Rat) (hx : Q9 20000000 x) (hy : Q9 20000000 y) : Called Tryz.prog 137 [rtD x, rtD y] (rtD (x - y)) := by
 have h1 := negated_c y
 have h2 := add_c x (-y) hx hy.neg
 rw [← Rat.sub_eq_add_neg] at h2
 refine V.en tbOk Tryz.func137 ?_
 (conv => whnf)
 refine V.st ?_
 refine ⟨(V.tk [0,1] (V.e1 2 [0] (V.e1 3 [] (V.e1 4 [] .done)))), [], V.pok, .go (jad ?_)⟩
 (conv => whnf)
 refine V.st ?_
 repeat ((try ((with_reducible refine .ext ?_); (conv => whnf))); (with_reducible refine jaa (r := ?_) ?_ ?_); rotate_left; (focus (first | exact (h1) | exact (h2))); (conv => whnf); refine V.st ?_)
 exact Fin.of rfl
theorem mul_num (x y : Rat) : (if (decide (x.num < 0) != decide (y.num < 0)) = true then -((x * y).num.natAbs : Int) else ((x * y).num.natAbs : Int)) = (x * y).num := by
 have h := mul_sign x y
 by_cases h0 : (x * y).num = 0
 ·rw [h0]; simp
 ·rw [decide_eq_false h0, Bool.not_false, Bool.and_true] at h
  rw [← h]
  by_cases h1 : (x * y).num < 0
  ·rw [decide_eq_true h1, if_pos rfl]; omega
  ·rw [decide_eq_false h1, if_neg (by simp)]; omega
theorem mul_c (x y : Rat) (hx : Q9 20000000 x) (hy : Q9 20000000 y) : Called Tryz.prog 131 [rtD x, rtD y] (rtD (x * y)) := by
 obtain ⟨p1, p2⟩ := mul_parts x y
 have pn := mul_num x y
 have hx1 := hx.1
 have hy1 := hy.1
 have hx2 := hx.2
 have hy2 := hy.2
 unfold S9 at hx1 hy1
 have g1 := gcd_c x.num.natAbs y.den (by omega) (by omega)
 have g2 := gcd_c y.num.natAbs x.den (by omega) (by omega)
 have hg : 0 < Nat.gcd x.num.natAbs y.den := Nat.gcd_pos_of_pos_right _ y.den_pos
 have hh : 0 < Nat.gcd y.num.natAbs x.den := Nat.gcd_pos_of_pos_right _ x.den_pos
 have lg := jaf (B := 1000000000) (by omega) (Nat.gcd_le_right x.num.natAbs y.den_pos)
 have lh := jaf (B := 1000000000) (by omega) (Nat.gcd_le_right y.num.natAbs x.den_pos)
 generalize Nat.gcd x.num.natAbs y.den = g at *
 generalize Nat.gcd y.num.natAbs x.den = h at *
 have d1 := ja6 x.num.natAbs g hg (by omega) (by omega)
 have d2 := ja6 x.den h hh (by omega) (by omega)
 have d3 := ja6 y.num.natAbs h hh (by omega) (by omega)
 have d4 := ja6 y.den g hg (by omega) (by omega)
 have l1 := jaf (B := 1000000000) (by omega) (jiz x.num.natAbs g)
 have l2 := jaf (B := 1000000000) (by omega) (jiz x.den h)
 have l3 := jaf (B := 1000000000) (by omega) (jiz y.num.natAbs h)
 have l4 := jaf (B := 1000000000) (by omega) (jiz y.den g)
 have t1 := jcv (x.num.natAbs / g) (y.num.natAbs / h) (by omega) (by omega)
 have t2 := jcv (x.den / h) (y.den / g) (by omega) (by omega)
 rw [← p1] at t1
 rw [← p2] at t2
 have m1 := jaW (x * y).num.natAbs (decide (x.num < 0) != decide (y.num < 0))
 rw [pn] at m1
 refine V.en tbOk Tryz.func131 ?_
 (conv => whnf)
 refine V.st ?_
 repeat ((try ((with_reducible refine .ext ?_); (conv => whnf))); (with_reducible refine jaa (r := ?_) ?_ ?_); rotate_left; (focus (first | exact (g1) | exact (g2) | exact (d1) | exact (d2) | exact (d3) | exact (d4))); (conv => whnf); refine V.st ?_)
 refine ⟨(V.tk [0,1,3,4,5,6,7,8,9,11,12] (V.e1 2 [12,11,9,8,7,6,5,4,3] (V.e1 10 [12,11] (V.e1 13 [] (V.tk [14] (V.e1 15 [] .done)))))), [], V.pok, .go (jad ?_)⟩
 (conv => whnf)
 refine V.st ?_
 repeat ((try ((with_reducible refine .ext ?_); (conv => whnf))); (with_reducible refine jaa (r := ?_) ?_ ?_); rotate_left; (focus (first | exact (t1) | exact (m1) | exact (t2))); (conv => whnf); refine V.st ?_)
 exact Fin.of rfl
theorem jgG (q : Rat) (hq : q.num ≠ 0) : q⁻¹.num = (if decide (q.num < 0) = true then -(q.den : Int) else (q.den : Int)) ∧ q⁻¹.den = q.num.natAbs := by
 have hd := q.den_pos
 have hc : Nat.Coprime (if decide (q.num < 0) = true then -(q.den : Int) else (q.den : Int)).natAbs q.num.natAbs := by
  have e : (if decide (q.num < 0) = true then -(q.den : Int) else (q.den : Int)).natAbs = q.den := by
   split <;> simp
  rw [e]
  exact q.reduced.symm
 have e : q⁻¹ = Rat.divInt (if decide (q.num < 0) = true then -(q.den : Int) else (q.den : Int)) (q.num.natAbs : Nat) := by
  rw [Rat.inv_def, Rat.divInt_eq_divInt_iff hq (by omega)]
  by_cases h : q.num < 0
  ·rw [decide_eq_true h, if_pos rfl, show (q.num.natAbs : Int) = -q.num by omega, Int.mul_neg, Int.neg_mul]
  ·rw [decide_eq_false h, if_neg (by simp), show (q.num.natAbs : Int) = q.num by omega]
 obtain ⟨h1, h2⟩ := jcT _ q.num.natAbs (by omega) hc
 rw [e]
 exact ⟨h1, h2⟩
theorem inverse_c (q : Rat) (hq : q.num ≠ 0) : Called Tryz.prog 133 [rtD q] (rtD q⁻¹) := by
 obtain ⟨p1, p2⟩ := jgG q hq
 have m1 := jaW q.den (decide (q.num < 0))
 rw [← p1] at m1
 have e : rtD q⁻¹ = .agg [.ints .u32 (mg 1000000000 q⁻¹.num.natAbs), .bool (decide (q⁻¹.num < 0)), .ints .u32 (mg 1000000000 q.num.natAbs)] := by unfold rtD; rw [p2]
 rw [e]
 refine V.en tbOk Tryz.func133 ?_
 (conv => whnf)
 refine V.st ?_
 refine ⟨(V.tk [0,1,2,3,4,6,7,8] (V.e1 5 [8,7,6] (V.tk [9] (V.e1 10 [] .done)))), [], V.pok, .go (jad ?_)⟩
 (conv => whnf)
 refine V.st ?_
 repeat ((try ((with_reducible refine .ext ?_); (conv => whnf))); (with_reducible refine jaa (r := ?_) ?_ ?_); rotate_left; (focus (first | exact (m1))); (conv => whnf); refine V.st ?_)
 exact Fin.of rfl
theorem lesser_c (x y : Rat) (hx : Q9 20000000 x) (hy : Q9 20000000 y) : Called Tryz.prog 191 [rtD x, rtD y] (rtD (if y < x then y else x)) := by
 have h1 := jf6 x y (hx.1.mono (by omega)) (hy.1.mono (by omega)) (jiq hx.2 (by omega)) (jiq hy.2 (by omega))
 have e : ordQ x y > 0 ↔ y < x := by
  unfold ordQ
  by_cases a : x < y
  ·rw [if_pos a]; exact ⟨fun h => by omega, fun h => absurd h (Rat.not_lt.2 (Rat.le_of_lt a))⟩
  ·rw [if_neg a]
   by_cases b : x = y
   ·rw [if_pos b, b]; exact ⟨fun h => by omega, fun h => absurd h (Rat.lt_irrefl)⟩
   ·rw [if_neg b]; exact ⟨fun _ => Rat.lt_of_le_of_ne (Rat.not_lt.1 a) (Ne.symm b), fun _ => by omega⟩
 refine V.en tbOk Tryz.func191 ?_
 (conv => whnf)
 refine V.st ?_
 repeat ((try ((with_reducible refine .ext ?_); (conv => whnf))); (with_reducible refine jaa (r := ?_) ?_ ?_); rotate_left; (focus (first | exact (h1))); (conv => whnf); refine V.st ?_)
 refine V.br (fun hq => ?_) (fun hq => ?_)
 ·rw [decide_eq_true_eq] at hq
  rw [if_pos (e.1 hq)]
  (conv => whnf)
  refine V.st ?_
  exact Fin.of rfl
 ·rw [decide_eq_false_iff_not] at hq
  rw [if_neg (fun h => hq (e.2 h))]
  (conv => whnf)
  refine V.st ?_
  exact Fin.of rfl
theorem greater_c (x y : Rat) (hx : Q9 20000000 x) (hy : Q9 20000000 y) : Called Tryz.prog 190 [rtD x, rtD y] (rtD (if x < y then y else x)) := by
 have h1 := jf6 x y (hx.1.mono (by omega)) (hy.1.mono (by omega)) (jiq hx.2 (by omega)) (jiq hy.2 (by omega))
 have e : ordQ x y < 0 ↔ x < y := by
  unfold ordQ
  by_cases a : x < y
  ·rw [if_pos a]; exact ⟨fun _ => a, fun _ => by omega⟩
  ·rw [if_neg a]
   by_cases b : x = y
   ·rw [if_pos b]; exact ⟨fun h => by omega, fun h => absurd h a⟩
   ·rw [if_neg b]; exact ⟨fun h => by omega, fun h => absurd h a⟩
 refine V.en tbOk Tryz.func190 ?_
 (conv => whnf)
 refine V.st ?_
 repeat ((try ((with_reducible refine .ext ?_); (conv => whnf))); (with_reducible refine jaa (r := ?_) ?_ ?_); rotate_left; (focus (first | exact (h1))); (conv => whnf); refine V.st ?_)
 refine V.br (fun hq => ?_) (fun hq => ?_)
 ·rw [decide_eq_true_eq] at hq
  rw [if_pos (e.1 hq)]
  (conv => whnf)
  refine V.st ?_
  exact Fin.of rfl
 ·rw [decide_eq_false_iff_not] at hq
  rw [if_neg (fun h => hq (e.2 h))]
  (conv => whnf)
  refine V.st ?_
  exact Fin.of rfl
theorem off {p : Go.Program} {f : Nat} {ys : List D} {c : Bool} (hc : c = false) : c = true → Called p f ys (.int .i64 0) := fun h => by rw [hc] at h; cases h
def okP (s t : List UInt8) : Bool := okW s && okW t && decide (0 < wval t) && decide (Nat.gcd (wval s).natAbs (wval t).natAbs = 1)
def qv (s t : List UInt8) : Rat := Rat.divInt (wval s) (wval t)
theorem jfz {s t : List UInt8} (h : okP s t = true) : okW s = true ∧ okW t = true ∧ 0 < wval t ∧ Nat.gcd (wval s).natAbs (wval t).natAbs = 1 := by
 unfold okP at h
 simp only [jh9, decide_eq_true_eq] at h
 exact ⟨h.1.1.1, h.1.1.2, h.1.2, h.2⟩
theorem jef {s t : List UInt8} (h : okP s t = true) : (qv s t).num = wval s ∧ (qv s t).den = (wval t).natAbs := by
 obtain ⟨h1, h2, h3, h4⟩ := jfz h
 have e : qv s t = Rat.divInt (wval s) ((wval t).natAbs : Nat) := by unfold qv; congr 1; omega
 rw [e]
 exact jcT _ _ (by omega) h4
theorem jf0 {s t : List UInt8} (h : okP s t = true) : Q9 67 (qv s t) := by
 obtain ⟨h1, h2, h3, h4⟩ := jfz h
 obtain ⟨p1, p2⟩ := jef h
 exact ⟨by rw [p1]; exact len9 (jbY h1).2, by rw [p2]; exact len9 (jbY h2).2⟩
theorem rtD_qv {s t : List UInt8} (h : okP s t = true) : rtD (qv s t) = .agg [.ints .u32 (mg 1000000000 (wval s).natAbs), .bool (decide (wval s < 0)), .ints .u32 (mg 1000000000 (wval t).natAbs)] := by
 obtain ⟨p1, p2⟩ := jef h
 unfold rtD
 rw [p1, p2]
theorem jbm (s t : List UInt8) (h : okP s t = true) : Called Tryz.prog 111 [.agg [.str s, .str t]] (.tup [rtD (qv s t), .bool true]) := by
 obtain ⟨h1, h2, h3, h4⟩ := jfz h
 have l1 := jbY h1
 have l2 := jbY h2
 have k1 := len9 l1.2
 have k2 := len9 l2.2
 have c1 := jcb s (by omega)
 have c2 := jcb t (by omega)
 rw [h1, if_pos rfl] at c1
 rw [h2, if_pos rfl] at c2
 have n1 := jcM s h1
 have n2 := jcM t h2
 have s1 := sign_c (wval t)
 rw [jiG h3] at s1
 have g1 := gcd_c (wval s).natAbs (wval t).natAbs (by omega) (by omega)
 rw [h4] at g1
 have o1 := jca 1 1 (by decide) (by decide)
 rw [rtD_qv h]
 refine V.en tbOk Tryz.func111 ?_
 (conv => whnf)
 refine V.st ?_
 repeat ((try ((with_reducible refine .ext ?_); (conv => whnf))); (with_reducible refine jaa (r := ?_) ?_ ?_); rotate_left; (focus (first | exact (c1) | exact (c2))); (conv => whnf); refine V.st ?_)
 refine ⟨(V.tk [0,1,3,4] (.ev (.cons 2 [4,3] (.ev (.cons 5 [] (.ev (.cons 6 [] (V.e1 7 [] (V.e1 8 [] (V.e1 9 [] .done))) (.cons 7 [] (V.e1 6 [] (V.e1 8 [] (V.e1 9 [] .done))) .nil))) (.cons 6 [4,3] (.ev (.cons 5 [] (V.e1 7 [] (V.e1 8 [] (V.e1 9 [] .done))) (.cons 7 [4,3] (V.e1 5 [] (V.e1 8 [] (V.e1 9 [] .done))) .nil))) (.cons 7 [4,3] (.ev (.cons 5 [] (V.e1 6 [] (V.e1 8 [] (V.e1 9 [] .done))) (.cons 6 [4,3] (V.e1 5 [] (V.e1 8 [] (V.e1 9 [] .done))) .nil))) .nil)))) (.cons 6 [4,3,1,0] (.ev (.cons 2 [4,3] (.ev (.cons 5 [] (V.e1 7 [] (V.e1 8 [] (V.e1 9 [] .done))) (.cons 7 [4,3] (V.e1 5 [] (V.e1 8 [] (V.e1 9 [] .done))) .nil))) (.cons 7 [4,3,1,0] (V.e1 2 [4,3] (V.e1 5 [] (V.e1 8 [] (V.e1 9 [] .done)))) .nil))) (.cons 7 [4,3,1,0] (.ev (.cons 2 [4,3] (.ev (.cons 5 [] (V.e1 6 [] (V.e1 8 [] (V.e1 9 [] .done))) (.cons 6 [4,3] (V.e1 5 [] (V.e1 8 [] (V.e1 9 [] .done))) .nil))) (.cons 6 [4,3,1,0] (V.e1 2 [4,3] (V.e1 5 [] (V.e1 8 [] (V.e1 9 [] .done)))) .nil))) .nil))))), [], V.pok, ?_⟩
 refine jab [(4, .box 4 0), (5, .box 5 0)] [(4, .box [.ints .u32 (mg 1000000000 (wval s).natAbs), .bool (decide (wval s < 0))]), (5, .box [.ints .u32 (mg 1000000000 (wval t).natAbs), .bool (decide (wval t < 0))])] ?_ ?_
 ·exact V.d2 @jif n1 n2
 (conv => whnf)
 refine V.st ?_
 repeat ((try ((with_reducible refine .ext ?_); (conv => whnf))); (with_reducible refine jaa (r := ?_) ?_ ?_); rotate_left; (focus (first | exact (s1) | exact (g1) | exact (o1))); (conv => whnf); refine V.st ?_)
 exact Fin.of rfl
theorem read_no (s t : List UInt8) (h : okP s t = false) (hs : s.length ≤ 281474976710656) (ht : t.length ≤ 281474976710656) : Called Tryz.prog 111 [.agg [.str s, .str t]] (.tup [.agg [.any, .any, .any], .bool false]) := by
 have c1 := jcb s hs
 have c2 := jcb t ht
 by_cases h1 : okW s = true
 ·rw [h1, if_pos rfl] at c1
  by_cases h2 : okW t = true
  ·rw [h2, if_pos rfl] at c2
   have l1 := jbY h1
   have l2 := jbY h2
   have k1 := len9 l1.2
   have k2 := len9 l2.2
   have n1 := jcM s h1
   have n2 := jcM t h2
   have s1 := sign_c (wval t)
   have g1 := gcd_c (wval s).natAbs (wval t).natAbs (by omega) (by omega)
   have gl : (mg 1000000000 (Nat.gcd (wval s).natAbs (wval t).natAbs)).length ≤ 67 := by
    rcases jij (wval t).natAbs with e | e
    ·rw [e, Nat.gcd_zero_right]; exact k1
    ·exact jiq (jaf (by omega) (Nat.gcd_le_right _ e)) k2
   have o1 := jca (Nat.gcd (wval s).natAbs (wval t).natAbs) 1 (by omega) (by decide)
   unfold okP at h
   rw [h1, h2, Bool.true_and, Bool.true_and] at h
   by_cases hp : 0 < wval t
   ·rw [decide_eq_true hp, Bool.true_and, decide_eq_false_iff_not] at h
    rw [jiG hp] at s1
    refine V.en tbOk Tryz.func111 ?_
    (conv => whnf)
    refine V.st ?_
    repeat ((try ((with_reducible refine .ext ?_); (conv => whnf))); (with_reducible refine jaa (r := ?_) ?_ ?_); rotate_left; (focus (first | exact (c1) | exact (c2))); (conv => whnf); refine V.st ?_)
    refine ⟨(V.tk [0,1,3,4] (.ev (.cons 2 [4,3] (.ev (.cons 5 [] (.ev (.cons 6 [] (V.e1 7 [] (V.e1 8 [] (V.e1 9 [] .done))) (.cons 7 [] (V.e1 6 [] (V.e1 8 [] (V.e1 9 [] .done))) .nil))) (.cons 6 [4,3] (.ev (.cons 5 [] (V.e1 7 [] (V.e1 8 [] (V.e1 9 [] .done))) (.cons 7 [4,3] (V.e1 5 [] (V.e1 8 [] (V.e1 9 [] .done))) .nil))) (.cons 7 [4,3] (.ev (.cons 5 [] (V.e1 6 [] (V.e1 8 [] (V.e1 9 [] .done))) (.cons 6 [4,3] (V.e1 5 [] (V.e1 8 [] (V.e1 9 [] .done))) .nil))) .nil)))) (.cons 6 [4,3,1,0] (.ev (.cons 2 [4,3] (.ev (.cons 5 [] (V.e1 7 [] (V.e1 8 [] (V.e1 9 [] .done))) (.cons 7 [4,3] (V.e1 5 [] (V.e1 8 [] (V.e1 9 [] .done))) .nil))) (.cons 7 [4,3,1,0] (V.e1 2 [4,3] (V.e1 5 [] (V.e1 8 [] (V.e1 9 [] .done)))) .nil))) (.cons 7 [4,3,1,0] (.ev (.cons 2 [4,3] (.ev (.cons 5 [] (V.e1 6 [] (V.e1 8 [] (V.e1 9 [] .done))) (.cons 6 [4,3] (V.e1 5 [] (V.e1 8 [] (V.e1 9 [] .done))) .nil))) (.cons 6 [4,3,1,0] (V.e1 2 [4,3] (V.e1 5 [] (V.e1 8 [] (V.e1 9 [] .done)))) .nil))) .nil))))), [], V.pok, ?_⟩
    refine jab [(4, .box 4 0), (5, .box 5 0)] [(4, .box [.ints .u32 (mg 1000000000 (wval s).natAbs), .bool (decide (wval s < 0))]), (5, .box [.ints .u32 (mg 1000000000 (wval t).natAbs), .bool (decide (wval t < 0))])] ?_ ?_
    ·exact V.d2 @jif n1 n2
    (conv => whnf)
    refine V.st ?_
    repeat ((try ((with_reducible refine .ext ?_); (conv => whnf))); (with_reducible refine jaa (r := ?_) ?_ ?_); rotate_left; (focus (first | exact (s1) | exact (g1) | exact (o1))); (conv => whnf); refine V.st ?_)
    refine V.br (fun hq => ?_) (fun hq => ?_)
    ·(conv => whnf)
     refine V.st ?_
     exact Fin.tup ⟨Fin.agg ⟨Fin.any' _, Fin.any' _, Fin.any' _, trivial⟩, Fin.of rfl, trivial⟩
    ·exfalso
     simp only [jir, decide_eq_false_iff_not, Decidable.not_not] at hq
     apply h
     have h9 := Int.sign_eq_zero_iff_zero.1 hq.2
     omega
   ·have hs1 : (wval t).sign = 0 ∨ (wval t).sign = -1 := by
     rcases (by omega : wval t = 0 ∨ wval t < 0) with e | e
     ·rw [e]; exact .inl rfl
     ·exact .inr (jiF e)
    rcases hs1 with e | e
    all_goals
     rw [e] at s1
     refine V.en tbOk Tryz.func111 ?_
     (conv => whnf)
     refine V.st ?_
     repeat ((try ((with_reducible refine .ext ?_); (conv => whnf))); (with_reducible refine jaa (r := ?_) ?_ ?_); rotate_left; (focus (first | exact (c1) | exact (c2))); (conv => whnf); refine V.st ?_)
     refine ⟨(V.tk [0,1,3,4] (.ev (.cons 2 [4,3] (.ev (.cons 5 [] (.ev (.cons 6 [] (V.e1 7 [] (V.e1 8 [] (V.e1 9 [] .done))) (.cons 7 [] (V.e1 6 [] (V.e1 8 [] (V.e1 9 [] .done))) .nil))) (.cons 6 [4,3] (.ev (.cons 5 [] (V.e1 7 [] (V.e1 8 [] (V.e1 9 [] .done))) (.cons 7 [4,3] (V.e1 5 [] (V.e1 8 [] (V.e1 9 [] .done))) .nil))) (.cons 7 [4,3] (.ev (.cons 5 [] (V.e1 6 [] (V.e1 8 [] (V.e1 9 [] .done))) (.cons 6 [4,3] (V.e1 5 [] (V.e1 8 [] (V.e1 9 [] .done))) .nil))) .nil)))) (.cons 6 [4,3,1,0] (.ev (.cons 2 [4,3] (.ev (.cons 5 [] (V.e1 7 [] (V.e1 8 [] (V.e1 9 [] .done))) (.cons 7 [4,3] (V.e1 5 [] (V.e1 8 [] (V.e1 9 [] .done))) .nil))) (.cons 7 [4,3,1,0] (V.e1 2 [4,3] (V.e1 5 [] (V.e1 8 [] (V.e1 9 [] .done)))) .nil))) (.cons 7 [4,3,1,0] (.ev (.cons 2 [4,3] (.ev (.cons 5 [] (V.e1 6 [] (V.e1 8 [] (V.e1 9 [] .done))) (.cons 6 [4,3] (V.e1 5 [] (V.e1 8 [] (V.e1 9 [] .done))) .nil))) (.cons 6 [4,3,1,0] (V.e1 2 [4,3] (V.e1 5 [] (V.e1 8 [] (V.e1 9 [] .done)))) .nil))) .nil))))), [], V.pok, ?_⟩
     refine jab [(4, .box 4 0), (5, .box 5 0)] [(4, .box [.ints .u32 (mg 1000000000 (wval s).natAbs), .bool (decide (wval s < 0))]), (5, .box [.ints .u32 (mg 1000000000 (wval t).natAbs), .bool (decide (wval t < 0))])] ?_ ?_
     ·exact V.d2 @jif n1 n2
     (conv => whnf)
     refine V.st ?_
     repeat ((try ((with_reducible refine .ext ?_); (conv => whnf))); (with_reducible refine jaa (r := ?_) ?_ ?_); rotate_left; (focus (first | exact (s1) | exact (g1) | exact (o1))); (conv => whnf); refine V.st ?_)
     refine ⟨.int .i64 0, off rfl, ?_⟩
     (conv => whnf)
     refine V.st ?_
     exact Fin.tup ⟨Fin.agg ⟨Fin.any' _, Fin.any' _, Fin.any' _, trivial⟩, Fin.of rfl, trivial⟩
  ·rw [if_neg h2] at c2
   refine V.en tbOk Tryz.func111 ?_
   (conv => whnf)
   refine V.st ?_
   repeat ((try ((with_reducible refine .ext ?_); (conv => whnf))); (with_reducible refine jaa (r := ?_) ?_ ?_); rotate_left; (focus (first | exact (c1) | exact (c2))); (conv => whnf); refine V.st ?_)
   exact Fin.tup ⟨Fin.agg ⟨Fin.any' _, Fin.any' _, Fin.any' _, trivial⟩, Fin.of rfl, trivial⟩
 ·rw [if_neg h1] at c1
  refine V.en tbOk Tryz.func111 ?_
  (conv => whnf)
  refine V.st ?_
  repeat ((try ((with_reducible refine .ext ?_); (conv => whnf))); (with_reducible refine jaa (r := ?_) ?_ ?_); rotate_left; (focus (first | exact (c1) | exact (c2))); (conv => whnf); refine V.st ?_)
  refine V.br (fun hq => ?_) (fun hq => ?_)
  ·(conv => whnf)
   refine V.st ?_
   exact Fin.tup ⟨Fin.agg ⟨Fin.any' _, Fin.any' _, Fin.any' _, trivial⟩, Fin.of rfl, trivial⟩
  ·simp at hq
theorem fcheck_c (s t : List UInt8) (hs : s.length ≤ 281474976710656) (ht : t.length ≤ 281474976710656) : Called Tryz.prog 78 [.agg [.str s, .str t]] (.int .i64 (if okP s t then 0 else 20)) := by
 by_cases h : okP s t = true
 ·have r1 := jbm s t h
  rw [h, if_pos rfl]
  refine V.en tbOk Tryz.func78 ?_
  (conv => whnf)
  refine V.st ?_
  repeat ((try ((with_reducible refine .ext ?_); (conv => whnf))); (with_reducible refine jaa (r := ?_) ?_ ?_); rotate_left; (focus (first | exact (r1))); (conv => whnf); refine V.st ?_)
  exact Fin.of rfl
 ·have r1 := read_no s t (by simpa using h) hs ht
  rw [if_neg h]
  refine V.en tbOk Tryz.func78 ?_
  (conv => whnf)
  refine V.st ?_
  repeat ((try ((with_reducible refine .ext ?_); (conv => whnf))); (with_reducible refine jaa (r := ?_) ?_ ?_); rotate_left; (focus (first | exact (r1))); (conv => whnf); refine V.st ?_)
  exact Fin.of rfl
theorem qsize {s t : List UInt8} (h : okP s t = true) : Q9 20000000 (qv s t) := (jf0 h).mono (by omega)
theorem qordS {s t : List UInt8} (h : okP s t = true) : S9 40000000 (qv s t).num ∧ (mg 1000000000 (qv s t).den).length ≤ 40000000 := ⟨(jf0 h).1.mono (by omega), jiq (jf0 h).2 (by omega)⟩
theorem fcmp_ok (s t u v : List UInt8) (h : okP s t = true) (g : okP u v = true) : Called Tryz.prog 127 [.agg [.str s, .str t], .agg [.str u, .str v]] (.tup [.int .i64 (ordQ (qv s t) (qv u v)), .int .i64 0]) := by
 have r1 := jbm s t h
 have r2 := jbm u v g
 have o := jf6 (qv s t) (qv u v) (qordS h).1 (qordS g).1 (qordS h).2 (qordS g).2
 have ap : Called Tryz.prog 164 [.agg [.str s, .str t], .agg [.str u, .str v], .fn 165 [] []] (.tup [.int .i64 (ordQ (qv s t) (qv u v)), .int .i64 0]) := by
  refine V.en tbOk Tryz.func164 ?_
  (conv => whnf)
  refine V.st ?_
  repeat ((try ((with_reducible refine .ext ?_); (conv => whnf))); (with_reducible refine jaa (r := ?_) ?_ ?_); rotate_left; (focus (first | exact (r1) | exact (r2) | exact (o))); (conv => whnf); refine V.st ?_)
  exact Fin.of rfl
 refine V.en tbOk Tryz.func127 ?_
 (conv => whnf)
 refine V.st ?_
 repeat ((try ((with_reducible refine .ext ?_); (conv => whnf))); (with_reducible refine jaa (r := ?_) ?_ ?_); rotate_left; (focus (first | exact (ap))); (conv => whnf); refine V.st ?_)
 exact Fin.of rfl
def vb (lo hi : Int) : Bool := decide (-1000000000000000000 ≤ lo) && decide (lo ≤ hi) && decide (hi ≤ 1000000000000000000)
def bD (r : Int × Int × Int) : D := .tup [.agg [.int .i64 r.1, .int .i64 r.2.1], .int .i64 r.2.2]
def mk (lo hi : Int) : Int × Int × Int := if vb lo hi = true then (lo, hi, 0) else (0, 0, 6)
theorem jbw {lo hi : Int} : vb lo hi = true ↔ -1000000000000000000 ≤ lo ∧ lo ≤ hi ∧ hi ≤ 1000000000000000000 := by
 unfold vb; simp only [jh9, decide_eq_true_eq, and_assoc]
theorem jcu (lo hi : Int) : Called Tryz.prog 95 [.int .i64 lo, .int .i64 hi] (.bool (vb lo hi)) := by
 refine V.en tbOk Tryz.func95 ?_
 (conv => whnf)
 refine V.st ?_
 exact Fin.of rfl
theorem made_b (lo hi : Int) : Called Tryz.prog 96 [.int .i64 lo, .int .i64 hi] (bD (mk lo hi)) := by
 have h := jcu lo hi
 unfold mk
 generalize vb lo hi = v at *
 refine V.en tbOk Tryz.func96 ?_
 (conv => whnf)
 refine V.st ?_
 repeat ((try ((with_reducible refine .ext ?_); (conv => whnf))); (with_reducible refine jaa (r := ?_) ?_ ?_); rotate_left; (focus (first | exact (h))); (conv => whnf); refine V.st ?_)
 refine V.br (fun hq => ?_) (fun hq => ?_)
 ·simp only [Bool.not_eq_true'] at hq
  subst hq
  (conv => whnf)
  refine V.st ?_
  exact Fin.of rfl
 ·simp only [Bool.not_eq_false'] at hq
  subst hq
  (conv => whnf)
  refine V.st ?_
  exact Fin.of rfl
theorem ckb3_ok (g : Nat) (p q m n0 : Int) (x y e : Int) (n : Nat) (f : Nat → List D) (a c : Nat → Int) (hf : ∀ j, j < n → f j = [.int .i64 (a j), .int .i64 (c j)]) (hn : n < 1000)
  (hv : ∀ j, j < n → vb (a j) (c j) = true) (hg : Called Tryz.prog g [.ref [.int .i64 m], .ref [.int .i64 n0], .ref [.int .i64 p, .int .i64 q]] (bD (x, y, e))) :
  Called Tryz.prog 93 [.fn g [] [.ref [.int .i64 m], .ref [.int .i64 n0], .ref [.int .i64 p, .int .i64 q]], .slf 2 n f] (bD (x, y, e)) := by
 refine V.en tbOk Tryz.func93 ?_
 (conv => whnf)
 refine V.st ?_
 refine jac (0 : Nat) (fun k => k ≤ n) (fun k => n - k) (fun k => [(11, .int .i64 k)]) (fun _ => []) ?_ ?_ ?_
 ·exact V.wk
 ·exact jib _
 intro k hk
 have hkc : ((k : Int) + 1) = ((k + 1 : Nat) : Int) := by omega
 have hfk := hf k
 have hvk := hv k
 have hvc := jcu (a k) (c k)
 (conv => whnf)
 refine V.st ?_
 refine V.br (fun hq => ?_) (fun hq => ?_)
 ·rw [decide_eq_true_eq] at hq
  rw [hvk (by omega)] at hvc
  (conv => whnf)
  (try simp only [jih, hfk (by omega), hkc])
  repeat ((first | refine V.s1 ?_); (try simp only [jih, hfk (by omega), hkc]))
  (conv => whnf)
  refine And.intro (fun _ => ⟨by omega, by omega⟩) ?_
  refine V.r1 hkc hvc ?_
  exact ⟨k + 1, by omega, by omega, V.wk⟩
 ·rw [decide_eq_false_iff_not] at hq
  (conv => whnf)
  refine V.st ?_
  repeat ((try ((with_reducible refine .ext ?_); (conv => whnf))); (with_reducible refine jaa (r := ?_) ?_ ?_); rotate_left; (focus (first | exact (hg))); (conv => whnf); refine V.st ?_)
  exact Fin.of rfl
theorem ckb3_no (g : Nat) (p q m n0 : Int) (x y e : Int) (n : Nat) (f : Nat → List D) (a c : Nat → Int) (hf : ∀ j, j < n → f j = [.int .i64 (a j), .int .i64 (c j)]) (hn : n < 1000)
  (hv : ∃ j, j < n ∧ vb (a j) (c j) = false) :
  Called Tryz.prog 93 [.fn g [] [.ref [.int .i64 m], .ref [.int .i64 n0], .ref [.int .i64 p, .int .i64 q]], .slf 2 n f] (bD (0, 0, 30)) := by
 refine V.en tbOk Tryz.func93 ?_
 (conv => whnf)
 refine V.st ?_
 refine jac (0 : Nat) (fun k => k ≤ n ∧ ∀ j, j < k → vb (a j) (c j) = true) (fun k => n - k) (fun k => [(11, .int .i64 k)]) (fun _ => []) ?_ ?_ ?_
 ·exact V.wk
 ·exact ⟨jib _, fun j hj => by omega⟩
 intro k hk
 have hkc : ((k : Int) + 1) = ((k + 1 : Nat) : Int) := by omega
 have hfk := hf k
 have hvc := jcu (a k) (c k)
 (conv => whnf)
 refine V.st ?_
 refine V.br (fun hq => ?_) (fun hq => ?_)
 ·rw [decide_eq_true_eq] at hq
  generalize hvv : vb (a k) (c k) = v at *
  (conv => whnf)
  (try simp only [jih, hfk (by omega), hkc])
  repeat ((first | refine V.s1 ?_); (try simp only [jih, hfk (by omega), hkc]))
  (conv => whnf)
  refine And.intro (fun _ => ⟨by omega, by omega⟩) ?_
  refine V.r1 hkc hvc ?_
  refine V.br (fun hz => ?_) (fun hz => ?_)
  ·refine V.r0 hkc ?_
   exact Fin.of rfl
  ·simp only [Bool.not_eq_false'] at hz
   refine V.r0 hkc ?_
   exact ⟨k + 1, ⟨by omega, fun j hj => by
    rcases jip j k with h | h
    ·exact hk.2 j h
    ·rw [show j = k by omega, hvv, hz]⟩, by omega, V.wk⟩
 ·rw [decide_eq_false_iff_not] at hq
  obtain ⟨j, hj, hv⟩ := hv
  rw [hk.2 j (by omega)] at hv
  cases hv
theorem ckb4_ok (g : Nat) (p q p2 q2 m : Int) (x y e : Int) (n : Nat) (f : Nat → List D) (a c : Nat → Int) (hf : ∀ j, j < n → f j = [.int .i64 (a j), .int .i64 (c j)]) (hn : n < 1000)
  (hv : ∀ j, j < n → vb (a j) (c j) = true) (hg : Called Tryz.prog g [.ref [.int .i64 p, .int .i64 q], .ref [.int .i64 p2, .int .i64 q2], .ref [.int .i64 m]] (bD (x, y, e))) :
  Called Tryz.prog 93 [.fn g [] [.ref [.int .i64 p, .int .i64 q], .ref [.int .i64 p2, .int .i64 q2], .ref [.int .i64 m]], .slf 2 n f] (bD (x, y, e)) := by
 refine V.en tbOk Tryz.func93 ?_
 (conv => whnf)
 refine V.st ?_
 refine jac (0 : Nat) (fun k => k ≤ n) (fun k => n - k) (fun k => [(11, .int .i64 k)]) (fun _ => []) ?_ ?_ ?_
 ·exact V.wk
 ·exact jib _
 intro k hk
 have hkc : ((k : Int) + 1) = ((k + 1 : Nat) : Int) := by omega
 have hfk := hf k
 have hvk := hv k
 have hvc := jcu (a k) (c k)
 (conv => whnf)
 refine V.st ?_
 refine V.br (fun hq => ?_) (fun hq => ?_)
 ·rw [decide_eq_true_eq] at hq
  rw [hvk (by omega)] at hvc
  (conv => whnf)
  (try simp only [jih, hfk (by omega), hkc])
  repeat ((first | refine V.s1 ?_); (try simp only [jih, hfk (by omega), hkc]))
  (conv => whnf)
  refine And.intro (fun _ => ⟨by omega, by omega⟩) ?_
  refine V.r1 hkc hvc ?_
  exact ⟨k + 1, by omega, by omega, V.wk⟩
 ·rw [decide_eq_false_iff_not] at hq
  (conv => whnf)
  refine V.st ?_
  repeat ((try ((with_reducible refine .ext ?_); (conv => whnf))); (with_reducible refine jaa (r := ?_) ?_ ?_); rotate_left; (focus (first | exact (hg))); (conv => whnf); refine V.st ?_)
  exact Fin.of rfl
theorem ckb4_no (g : Nat) (p q p2 q2 m : Int) (x y e : Int) (n : Nat) (f : Nat → List D) (a c : Nat → Int) (hf : ∀ j, j < n → f j = [.int .i64 (a j), .int .i64 (c j)]) (hn : n < 1000)
  (hv : ∃ j, j < n ∧ vb (a j) (c j) = false) :
  Called Tryz.prog 93 [.fn g [] [.ref [.int .i64 p, .int .i64 q], .ref [.int .i64 p2, .int .i64 q2], .ref [.int .i64 m]], .slf 2 n f] (bD (0, 0, 30)) := by
 refine V.en tbOk Tryz.func93 ?_
 (conv => whnf)
 refine V.st ?_
 refine jac (0 : Nat) (fun k => k ≤ n ∧ ∀ j, j < k → vb (a j) (c j) = true) (fun k => n - k) (fun k => [(11, .int .i64 k)]) (fun _ => []) ?_ ?_ ?_
 ·exact V.wk
 ·exact ⟨jib _, fun j hj => by omega⟩
 intro k hk
 have hkc : ((k : Int) + 1) = ((k + 1 : Nat) : Int) := by omega
 have hfk := hf k
 have hvc := jcu (a k) (c k)
 (conv => whnf)
 refine V.st ?_
 refine V.br (fun hq => ?_) (fun hq => ?_)
 ·rw [decide_eq_true_eq] at hq
  generalize hvv : vb (a k) (c k) = v at *
  (conv => whnf)
  (try simp only [jih, hfk (by omega), hkc])
  repeat ((first | refine V.s1 ?_); (try simp only [jih, hfk (by omega), hkc]))
  (conv => whnf)
  refine And.intro (fun _ => ⟨by omega, by omega⟩) ?_
  refine V.r1 hkc hvc ?_
  refine V.br (fun hz => ?_) (fun hz => ?_)
  ·refine V.r0 hkc ?_
   exact Fin.of rfl
  ·simp only [Bool.not_eq_false'] at hz
   refine V.r0 hkc ?_
   exact ⟨k + 1, ⟨by omega, fun j hj => by
    rcases jip j k with h | h
    ·exact hk.2 j h
    ·rw [show j = k by omega, hvv, hz]⟩, by omega, V.wk⟩
 ·rw [decide_eq_false_iff_not] at hq
  obtain ⟨j, hj, hv⟩ := hv
  rw [hk.2 j (by omega)] at hv
  cases hv
def bA (p q : Int) : D := .agg [.int .i64 p, .int .i64 q]
def l1 (p q : Int) : Nat → List D := fun j => List.take 2 (List.drop (0 + j * 2) [.int .i64 p, .int .i64 q])
def l2 (p q p2 q2 : Int) : Nat → List D := fun j => List.take 2 (List.drop (0 + j * 2) [.int .i64 p, .int .i64 q, .int .i64 p2, .int .i64 q2])
theorem l1_c (p q : Int) : ∀ j, j < 1 → l1 p q j = [.int .i64 ((fun _ => p) j), .int .i64 ((fun _ => q) j)] := fun j hj => by
 have h0 : j = 0 := by omega
 subst h0; rfl
def sel_o (x y : Int) : Nat → Int := fun j => if j = 0 then x else y
theorem l2_c (p q p2 q2 : Int) : ∀ j, j < 2 → l2 p q p2 q2 j = [.int .i64 (sel_o p p2 j), .int .i64 (sel_o q q2 j)] := fun j hj => by
 rcases (by omega : j = 0 ∨ j = 1) with e | e
 ·subst e; rfl
 ·subst e; rfl
theorem sel_ok {p q p2 q2 : Int} (h : vb p q = true) (h2 : vb p2 q2 = true) : ∀ j, j < 2 → vb (sel_o p p2 j) (sel_o q q2 j) = true := fun j hj => by
 rcases (by omega : j = 0 ∨ j = 1) with e | e
 ·subst e; exact h
 ·subst e; exact h2
theorem sel_no {p q p2 q2 : Int} (h : ¬ (vb p q = true ∧ vb p2 q2 = true)) : ∃ j, j < 2 ∧ vb (sel_o p p2 j) (sel_o q q2 j) = false := by
 by_cases h1 : vb p q = true
 ·have h3 : ¬ vb p2 q2 = true := fun h2 => h ⟨h1, h2⟩
  exact ⟨1, by omega, Bool.eq_false_iff.2 h3⟩
 ·exact ⟨0, by omega, Bool.eq_false_iff.2 h1⟩
theorem one_no {p q : Int} (h : ¬ vb p q = true) : ∃ j, j < 1 ∧ vb ((fun _ => p) j) ((fun _ => q) j) = false := ⟨0, by omega, Bool.eq_false_iff.2 h⟩
end Go.Proofs.YtgjgpdceghjajaaGreatDoor
end
