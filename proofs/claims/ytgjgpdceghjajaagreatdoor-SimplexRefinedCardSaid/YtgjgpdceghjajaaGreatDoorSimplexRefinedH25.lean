/- What functions of the program answer at given values, part 25. Conditions: those that each theorem names. -/
import Derived.Test.YtgjgpdceghjajaaGreatDoorSimplexRefinedH24
import Derived.Test.YtgjgpdceghjajaaGreatDoorSimplexRefinedH15
import Derived.Test.YtgjgpdceghjajaaGreatDoorSimplexRefinedH22
import Derived.Test.YtgjgpdceghjajaaGreatDoorSimplexRefinedH13
set_option linter.unusedSimpArgs false
set_option linter.unusedVariables false
set_option maxHeartbeats 8000000
set_option maxRecDepth 100000
section
namespace Go.Proofs.YtgjgpdceghjajaaGreatDoor
open Go Go.V Go.Nb
theorem split_N {N : Nat} (hN : 0 < N) (P : Int) : ∃ (b : Int) (A : Nat), A < N ∧ P = b * N + A := by
 have h1 := jic P (show (N : Int) ≠ 0 by omega)
 have h2 := jiA P (show (0 : Int) < N by omega)
 have h3 := Int.mul_ediv_add_emod P N
 refine ⟨P / N, (P % N).toNat, by omega, ?_⟩
 rw [jig h1, jiu]
 omega
theorem lv_le {N : Nat} {v w : Int → Int → Int → Rat} {P Q R : Int} (h : ∀ i j k : Int, (∃ t : Nat, t < N ∧ i = (P - 1 - t) / N + 1 ∧ j = (Q - 1 - t) / N + 1 ∧ k = (R - 1 - t) / N + 1) → v i j k ≤ w i j k) : lvF v N P Q R ≤ lvF w N P Q R :=
 sm_le fun t ht => h _ _ _ ⟨t, ht, rfl, rfl, rfl⟩
theorem lv_const (c : Rat) (N : Nat) (P Q R : Int) : lvF (fun _ _ _ => c) N P Q R = ((N : Int) : Rat) * c := jdc c N
theorem lvl_in {N t : Nat} {P m : Int} (hN : 0 < N) (ht : t < N) (h0 : 0 ≤ P) (h1 : P ≤ m * N) : 0 ≤ (P - 1 - t) / N + 1 ∧ (P - 1 - t) / N + 1 ≤ m := by
 have hN' : (0 : Int) < N := by omega
 constructor
 ·have : -1 ≤ (P - 1 - t) / N := (Int.le_ediv_iff_mul_le hN').2 (by omega)
  omega
 ·have : (P - 1 - t) / N < m := (Int.ediv_lt_iff_lt_mul hN').2 (by omega)
  omega
theorem lv_grid {N : Nat} (hN : 0 < N) (v : Int → Int → Int → Rat) (i j k : Int) : lvF v N (i * N) (j * N) (k * N) = ((N : Int) : Rat) * v i j k := by
 have e : ∀ (b : Int) (t : Nat), t < N → (b * N - 1 - t) / N + 1 = b := fun b t ht => by
  have := lvlN (R := 0) (b := b) hN (jib N) ht
  simpa using this
 unfold lvF
 rw [jbr (g := fun _ => v i j k) fun t ht => by rw [e i t ht, e j t ht, e k t ht], jdc]
theorem at_N {N : Nat} {p : Rat} {P s : Int} (hN : 0 < N) (hP : (P : Rat) = ((N : Int) : Rat) * p) (h0 : 0 ≤ P) (h1 : P ≤ (s - 1) * N) (hs : 2 ≤ s) :
  ∃ A : Nat, A ≤ N ∧ P = (min p.floor (s - 2)) * N + A ∧ p - ((min p.floor (s - 2) : Int) : Rat) = ((A : Int) : Rat) / ((N : Int) : Rat) ∧ 0 ≤ min p.floor (s - 2) := by
 obtain ⟨b, B, hB, e⟩ := split_N hN P
 have hz := jcY hN
 have hNp : (0 : Rat) < ((N : Int) : Rat) := by exact_mod_cast (show (0 : Int) < N by omega)
 have hp : p = (P : Rat) / ((N : Int) : Rat) := by
  rw [hP]
  grind
 have hf : p.floor = b := by
  have l1 : (b : Rat) ≤ p := by
   rw [← Rat.not_lt, hp, Rat.div_lt_iff hNp, Rat.not_lt]
   rw [e, Rat.intCast_add, Rat.intCast_mul]
   have : (0 : Rat) ≤ ((B : Int) : Rat) := by exact_mod_cast (show (0 : Int) ≤ B by omega)
   grind
  have l2 : p < ((b + 1 : Int) : Rat) := by
   rw [hp, Rat.div_lt_iff hNp, e, Rat.intCast_add, Rat.intCast_mul, Rat.intCast_add]
   have : ((B : Int) : Rat) < ((N : Int) : Rat) := by exact_mod_cast (show (B : Int) < N by omega)
   grind
  have g1 := Rat.le_floor_iff.2 l1
  have g2 := Rat.floor_lt_iff.2 l2
  omega
 have b0 : 0 ≤ b := by
  rcases Int.lt_or_le b 0 with h | h
  ·exfalso
   have : b * N ≤ -1 * N := jin (by omega) (by omega)
   omega
  ·exact h
 rw [hf]
 by_cases hm : b ≤ s - 2
 ·rw [show min b (s - 2) = b by omega]
  refine ⟨B, by omega, e, ?_, b0⟩
  rw [hp, e, Rat.intCast_add, Rat.intCast_mul]
  grind
 ·have hb : b = s - 1 := by
   have : (s - 1) * (N : Int) ≤ b * N := jin (by omega) (by omega)
   rcases Int.lt_or_le (s - 1) b with h | h
   ·exfalso
    have : (s - 1 + 1) * (N : Int) ≤ b * N := jin (by omega) (by omega)
    rw [jiD, jiE] at this
    omega
   ·omega
  have hB0 : B = 0 := by
   rw [hb] at e
   omega
  rw [show min b (s - 2) = s - 2 by omega]
  refine ⟨N, by omega, ?_, ?_, by omega⟩
  ·rw [e, hb, hB0, show s - 1 = (s - 2) + 1 by omega, jiD, jiE]
   omega
  ·rw [hp, e, hb, hB0, show s - 1 = (s - 2) + 1 by omega, Rat.intCast_add, Rat.intCast_mul, Rat.intCast_add]
   grind
def clQ (x : Rat) : Rat := if 1 < (if x < 0 then 0 else x) then 1 else (if x < 0 then 0 else x)
theorem clQ_bd (x : Rat) : 0 ≤ clQ x ∧ clQ x ≤ 1 := by
 unfold clQ
 have h01 : (0 : Rat) ≤ 1 := by decide
 by_cases h : x < 0
 ·rw [if_pos h]
  by_cases g : (1 : Rat) < 0
  ·rw [if_pos g]; exact ⟨h01, Rat.le_refl⟩
  ·rw [if_neg g]; exact ⟨Rat.le_refl, h01⟩
 ·rw [if_neg h]
  by_cases g : 1 < x
  ·rw [if_pos g]; exact ⟨h01, Rat.le_refl⟩
  ·rw [if_neg g]; exact ⟨Rat.not_lt.1 h, Rat.not_lt.1 g⟩
theorem clQ_id {x : Rat} (h0 : 0 ≤ x) (h1 : x ≤ 1) : clQ x = x := by
 unfold clQ
 rw [if_neg (Rat.not_lt.2 h0), if_neg (Rat.not_lt.2 h1)]
def gp (s : Int) (x : Rat) : Rat := clQ x * ((s - 1 : Int) : Rat)
def spB (s : Int) (x : Rat) : Int := min (gp s x).floor (s - 2)
def spR (s : Int) (x : Rat) : Rat := gp s x - ((spB s x : Int) : Rat)
def evF (s0 s1 s2 : Int) (v : Int → Int → Int → Rat) (x0 x1 x2 : Rat) : Rat :=
 evL v (spB s0 x0, spB s1 x1, spB s2 x2) (spR s0 x0) (spR s1 x1) (spR s2 x2) (ord3 (spR s0 x0) (spR s1 x1) (spR s2 x2))
theorem gp_bd {s : Int} (hs : 2 ≤ s) (x : Rat) : 0 ≤ gp s x ∧ gp s x ≤ ((s - 1 : Int) : Rat) := by
 have h := clQ_bd x
 have h1 : (0 : Rat) ≤ ((s - 1 : Int) : Rat) := by exact_mod_cast (show (0 : Int) ≤ s - 1 by omega)
 unfold gp
 refine ⟨Rat.mul_nonneg h.1 h1, ?_⟩
 have := Rat.mul_nonneg (show 0 ≤ 1 - clQ x by grind) h1
 grind
theorem np_pos {N : Nat} (hN : 0 < N) : (0 : Rat) < ((N : Int) : Rat) := by exact_mod_cast (show (0 : Int) < N by omega)
theorem P_bd {N : Nat} {s P : Int} {x : Rat} (hN : 0 < N) (hs : 2 ≤ s) (hP : (P : Rat) = ((N : Int) : Rat) * gp s x) : 0 ≤ P ∧ P ≤ (s - 1) * N := by
 have h := gp_bd hs x
 have hn := np_pos hN
 constructor
 ·have := Rat.mul_nonneg (Rat.le_of_lt hn) h.1
  rw [← hP] at this
  exact_mod_cast this
 ·have := Rat.mul_nonneg (Rat.le_of_lt hn) (show 0 ≤ ((s - 1 : Int) : Rat) - gp s x by grind)
  have e : (P : Rat) ≤ (((s - 1) * N : Int) : Rat) := by
   rw [Rat.intCast_mul]
   grind
  exact_mod_cast e
theorem ev_lv {N : Nat} {s0 s1 s2 P Q R : Int} {x0 x1 x2 : Rat} (hN : 0 < N) (hs : 2 ≤ s0 ∧ 2 ≤ s1 ∧ 2 ≤ s2) (h0 : (P : Rat) = ((N : Int) : Rat) * gp s0 x0) (h1 : (Q : Rat) = ((N : Int) : Rat) * gp s1 x1) (h2 : (R : Rat) = ((N : Int) : Rat) * gp s2 x2) (v : Int → Int → Int → Rat) :
  ((N : Int) : Rat) * evF s0 s1 s2 v x0 x1 x2 = lvF v N P Q R := by
 have b0 := P_bd hN hs.1 h0
 have b1 := P_bd hN hs.2.1 h1
 have b2 := P_bd hN hs.2.2 h2
 obtain ⟨A0, a0, e0, r0, _⟩ := at_N hN h0 b0.1 b0.2 hs.1
 obtain ⟨A1, a1, e1, r1, _⟩ := at_N hN h1 b1.1 b1.2 hs.2.1
 obtain ⟨A2, a2, e2, r2, _⟩ := at_N hN h2 b2.1 b2.2 hs.2.2
 have m := ev_main (b0 := spB s0 x0) (b1 := spB s1 x1) (b2 := spB s2 x2) hN a0 a1 a2 v
 unfold evF spR
 have f0 : gp s0 x0 - ((spB s0 x0 : Int) : Rat) = ((A0 : Int) : Rat) / ((N : Int) : Rat) := r0
 have f1 : gp s1 x1 - ((spB s1 x1 : Int) : Rat) = ((A1 : Int) : Rat) / ((N : Int) : Rat) := r1
 have f2 : gp s2 x2 - ((spB s2 x2 : Int) : Rat) = ((A2 : Int) : Rat) / ((N : Int) : Rat) := r2
 rw [f0, f1, f2, m]
 have g0 : P = spB s0 x0 * N + A0 := e0
 have g1 : Q = spB s1 x1 * N + A1 := e1
 have g2 : R = spB s2 x2 * N + A2 := e2
 rw [← g0, ← g1, ← g2]
theorem com_den : ∀ l : List Rat, ∃ N : Nat, 0 < N ∧ ∀ p ∈ l, ∃ P : Int, (P : Rat) = ((N : Int) : Rat) * p
 | [] => ⟨1, by decide, fun p hp => by cases hp⟩
 | q :: l => by
  obtain ⟨N, hN, h⟩ := com_den l
  refine ⟨N * q.den, Nat.mul_pos hN q.den_pos, fun p hp => ?_⟩
  rcases jiL.1 hp with e | e
  ·subst e
   refine ⟨N * p.num, ?_⟩
   have hd : ((p.den : Int) : Rat) * p = ((p.num : Int) : Rat) := by
    have h1 := jiH p
    have hz := jcY p.den_pos
    rw [Rat.divInt_eq_div] at h1
    have : p = ((p.num : Int) : Rat) / ((p.den : Int) : Rat) := h1.symm
    conv => lhs; rhs; rw [this]
    rw [Rat.mul_comm, Rat.div_mul_cancel hz]
   rw [Rat.intCast_mul, jis, Rat.intCast_mul, Rat.mul_assoc, hd]
  ·obtain ⟨P, hP⟩ := h p e
   refine ⟨q.den * P, ?_⟩
   rw [Rat.intCast_mul, hP, jis, Rat.intCast_mul]
   grind
theorem com3 (a b c : Rat) : ∃ (N : Nat) (P Q R : Int), 0 < N ∧ (P : Rat) = ((N : Int) : Rat) * a ∧ (Q : Rat) = ((N : Int) : Rat) * b ∧ (R : Rat) = ((N : Int) : Rat) * c := by
 obtain ⟨N, hN, h⟩ := com_den [a, b, c]
 obtain ⟨P, hP⟩ := h a (by simp)
 obtain ⟨Q, hQ⟩ := h b (by simp)
 obtain ⟨R, hR⟩ := h c (by simp)
 exact ⟨N, P, Q, R, hN, hP, hQ, hR⟩
theorem canc {N : Nat} (hN : 0 < N) {a b : Rat} (h : ((N : Int) : Rat) * a = ((N : Int) : Rat) * b) : a = b := by
 have := jcY hN
 grind
theorem cancle {N : Nat} (hN : 0 < N) {a b : Rat} (h : ((N : Int) : Rat) * a ≤ ((N : Int) : Rat) * b) : a ≤ b := by
 rcases (Rat.le_total : a ≤ b ∨ b ≤ a) with g | g
 ·exact g
 ·by_cases e : a = b
  ·rw [e]; exact Rat.le_refl
  ·exfalso
   have hlt : b < a := Rat.lt_of_le_of_ne g fun h => e h.symm
   have := Rat.mul_pos (np_pos hN) (show 0 < a - b by grind)
   grind
theorem jhy {s0 s1 s2 i j k : Int} (hs : 2 ≤ s0 ∧ 2 ≤ s1 ∧ 2 ≤ s2) {x0 x1 x2 : Rat} (h0 : gp s0 x0 = (i : Rat)) (h1 : gp s1 x1 = (j : Rat)) (h2 : gp s2 x2 = (k : Rat)) (v : Int → Int → Int → Rat) : evF s0 s1 s2 v x0 x1 x2 = v i j k := by
 have e : ∀ i : Int, ((i * (1 : Nat) : Int) : Rat) = (((1 : Nat) : Int) : Rat) * (i : Rat) := fun i => by
  rw [Rat.intCast_mul, Rat.mul_comm]
 refine canc (N := 1) (by decide) ?_
 rw [ev_lv (N := 1) (by decide) hs (by rw [h0]; exact e i) (by rw [h1]; exact e j) (by rw [h2]; exact e k), lv_grid (by decide)]
theorem ev_bd {s0 s1 s2 : Int} (hs : 2 ≤ s0 ∧ 2 ≤ s1 ∧ 2 ≤ s2) {v : Int → Int → Int → Rat} {m M : Rat} (h : ∀ i j k : Int, 0 ≤ i ∧ i ≤ s0 - 1 → 0 ≤ j ∧ j ≤ s1 - 1 → 0 ≤ k ∧ k ≤ s2 - 1 → m ≤ v i j k ∧ v i j k ≤ M) (x0 x1 x2 : Rat) : m ≤ evF s0 s1 s2 v x0 x1 x2 ∧ evF s0 s1 s2 v x0 x1 x2 ≤ M := by
 obtain ⟨N, P, Q, R, hN, hP, hQ, hR⟩ := com3 (gp s0 x0) (gp s1 x1) (gp s2 x2)
 have b0 := P_bd hN hs.1 hP
 have b1 := P_bd hN hs.2.1 hQ
 have b2 := P_bd hN hs.2.2 hR
 have key : ∀ i j k : Int, (∃ t : Nat, t < N ∧ i = (P - 1 - t) / N + 1 ∧ j = (Q - 1 - t) / N + 1 ∧ k = (R - 1 - t) / N + 1) → m ≤ v i j k ∧ v i j k ≤ M := fun i j k hh => by
  obtain ⟨t, ht, rfl, rfl, rfl⟩ := hh
  exact h _ _ _ (lvl_in hN ht b0.1 b0.2) (lvl_in hN ht b1.1 b1.2) (lvl_in hN ht b2.1 b2.2)
 constructor
 ·refine cancle hN ?_
  rw [ev_lv hN hs hP hQ hR, ← lv_const m N P Q R]
  exact lv_le fun i j k hh => (key i j k hh).1
 ·refine cancle hN ?_
  rw [ev_lv hN hs hP hQ hR, ← lv_const M N P Q R]
  exact lv_le fun i j k hh => (key i j k hh).2
theorem jd3 {n m : Int} (hn : -9223372036854775807 ≤ n ∧ n ≤ 9223372036854775807) (hm : 1 ≤ m ∧ m ≤ 9223372036854775807) : Called Tryz.prog 58 [.int .i64 n, .int .i64 m] (frT (Rat.divInt n m)) := by
 have c := y_of hn hm
 unfold frT at *
 generalize Rat.divInt n m = q at *
 refine V.en tbOk Tryz.func58 ?_
 (conv => whnf)
 refine V.st ?_
 repeat ((try ((with_reducible refine .ext ?_); (conv => whnf))); (with_reducible refine jaa (r := ?_) ?_ ?_); rotate_left; (focus (first | exact (c))); (conv => whnf); refine V.st ?_)
 exact Fin.of rfl
theorem int_q (n : Int) : Rat.divInt n 1 = (n : Rat) := by rw [Rat.divInt_eq_div]; grind
theorem jaq {n : Int} (hn : -9223372036854775807 ≤ n ∧ n ≤ 9223372036854775807) : Called Tryz.prog 86 [.int .i64 n] (frT (n : Rat)) := by
 have c := jd3 (n := n) (m := 1) hn (by omega)
 rw [int_q] at c
 unfold frT at *
 generalize (n : Rat) = q at *
 refine V.en tbOk Tryz.func86 ?_
 (conv => whnf)
 refine V.st ?_
 repeat ((try ((with_reducible refine .ext ?_); (conv => whnf))); (with_reducible refine jaa (r := ?_) ?_ ?_); rotate_left; (focus (first | exact (c))); (conv => whnf); refine V.st ?_)
 exact Fin.of rfl
theorem q9_of {n : Nat} {q : Rat} (h : Fq n q) (h0 : 0 < n ∧ n ≤ 600) : Q9 20000000 q := by
 obtain ⟨h1, e1⟩ := jaM (h.ok h0.1 h0.2)
 have := qsize h1
 rw [e1] at this
 exact this
theorem rd_q {n : Nat} {q : Rat} (h : Fq n q) (h0 : 0 < n ∧ n ≤ 600) : Called Tryz.prog 111 [frT q] (.tup [rtD q, .bool true]) := by
 obtain ⟨h1, e1⟩ := jaM (h.ok h0.1 h0.2)
 have r1 := jbm _ _ h1
 rw [e1] at r1
 exact r1
theorem fq_cl {n : Nat} {q : Rat} (h : Fq n q) (h0 : 0 < n) : Fq n (clQ q) := by
 have z : Fq n 0 := (show Fq 1 0 from ⟨by decide, by decide⟩).mono h0
 have o : Fq n 1 := y_one.mono h0
 unfold clQ
 by_cases h1 : q < 0
 ·rw [if_pos h1]
  split
  ·exact o
  ·exact z
 ·rw [if_neg h1]
  split
  ·exact o
  ·exact h
theorem fclamp_c {n : Nat} {q : Rat} (h : Fq n q) (h0 : 0 < n ∧ n ≤ 600) : Called Tryz.prog 160 [frT q, frT 0, frT 1] (.tup [frT (clQ q), .int .i64 0]) := by
 have fz : Fq 1 0 := ⟨by decide, by decide⟩
 have r0 := rd_q h h0
 have r1 := rd_q fz (by omega)
 have r2 := rd_q y_one (by omega)
 have q0 := q9_of h h0
 have q1 := q9_of fz (by omega)
 have q2 := q9_of y_one (by omega)
 have od := jf6 0 1 (q1.1.mono (by omega)) (q2.1.mono (by omega)) (by have := q1.2; omega) (by have := q2.2; omega)
 have e : ordQ 0 1 = -1 := by decide +kernel
 rw [e] at od
 have g := greater_c q 0 q0 q1
 have q3 : Q9 20000000 (if q < 0 then 0 else q) := by
  split
  ·exact q1
  ·exact q0
 have l := lesser_c (if q < 0 then 0 else q) 1 q3 q2
 have fc := fq_cl h h0.1
 have ec : (if 1 < (if q < 0 then 0 else q) then 1 else (if q < 0 then 0 else q)) = clQ q := rfl
 rw [ec] at l
 have qc := q9_of fc h0
 have w := jdG (clQ q) (by have := qc.1; unfold S9 at this; omega) (by have := qc.2; omega)
 rw [jd7 (fc.ok h0.1 h0.2)] at w
 clear h fc ec e q0 q1 q2 q3 qc fz
 generalize clQ q = c at *
 generalize (if q < 0 then 0 else q) = u at *
 generalize (0 : Rat) = zz at *
 generalize (1 : Rat) = oo at *
 unfold frT rtD at *
 refine V.en tbOk Tryz.func160 ?_
 refine V.r4 @jif r0 r1 r2 od ?_
 refine ⟨(V.tk [0,1,3] (V.e1 2 [3] (V.e1 4 [] (V.e1 5 [] (V.tk [6,7] (V.e1 8 [] (V.tk [9] .done))))))), [], V.pok, ?_⟩
 refine jab [(7, .int .i64 0)] [(6, .box [.str (decZ c.num), .str (dec c.den)])] ?_ ?_
 ·exact V.d3 @jif g l w
 refine V.r0 @jif ?_
 exact Fin.of rfl
theorem ffloor_c {n : Nat} {q : Rat} (h : Fq n q) (h0 : 0 < n ∧ n ≤ 600) : Called Tryz.prog 161 [frT q] (.tup [.str (decZ q.floor), .int .i64 0]) := by
 have r0 := rd_q h h0
 have q0 := q9_of h h0
 have f := floor_c q.num q.den q.den_pos (q0.1.mono (by omega)) (by have := q0.2; omega)
 rw [← Rat.floor_def] at f
 have hl : S9 20000000 q.floor := by
  rw [Rat.floor_def]
  refine q0.1.le ?_
  exact Int.natAbs_ediv_le_natAbs _ _
 unfold S9 at hl
 have t := jhv q.floor (by omega)
 generalize q.floor = z at *
 unfold frT at *
 unfold rtD at r0
 unfold itD at f t
 refine V.en tbOk Tryz.func161 ?_
 refine V.r3 @jif r0 f t ?_
 exact Fin.of rfl
theorem atoi_dig : ∀ z : Int, 0 ≤ z → z ≤ 9 → Go.Lib.atoi (decZ z) = some z := fun z h0 h1 => by
 have key : ∀ n ∈ List.range 10, Go.Lib.atoi (decZ ((n : Nat) : Int)) = some ((n : Nat) : Int) := by decide +kernel
 obtain ⟨n, rfl⟩ : ∃ n : Nat, z = (n : Int) := ⟨z.toNat, by omega⟩
 exact key n (List.mem_range.2 (by omega))
theorem atoi_len : ∀ z : Int, 0 ≤ z → z ≤ 9 → (decZ z).length ≤ 18 := fun z h0 h1 => by
 have key : ∀ n ∈ List.range 10, (decZ ((n : Nat) : Int)).length ≤ 18 := by decide +kernel
 obtain ⟨n, rfl⟩ : ∃ n : Nat, z = (n : Int) := ⟨z.toNat, by omega⟩
 exact key n (List.mem_range.2 (by omega))
theorem atoi_c {z : Int} (h0 : 0 ≤ z) (h1 : z ≤ 9) : Called Tryz.prog 162 [.str (decZ z)] (.tup [.int .i64 z, .val .nilIface]) := by
 refine jaV Tryz.func162 rfl rfl rfl fun w hp vs ha hd => ?_
 simp only [DenL, Den] at hd
 obtain ⟨v, _, rfl, ⟨rfl, h2⟩, rfl⟩ := hd
 refine (Tryz.strconv_Atoi ⟨(decZ z).toArray⟩ z (by have := atoi_len z h0 h1; simpa [ByteArray.size] using this) (by simpa using atoi_dig z h0 h1) w).mono fun e w' ⟨he, t, hw⟩ => ⟨⟨_, he, fun hp => ?_⟩, ?_⟩
 ·simp only [Den, DenL]
  exact ⟨_, rfl, _, _, rfl, ⟨rfl, by simp only [InR, V.lo, V.hi]; omega⟩, _, _, rfl, rfl, rfl⟩
 ·rw [hw]
  exact Go.Lib.bytesWorld_below w _ _
theorem floor_bd {p : Rat} {m : Int} (h0 : 0 ≤ p) (h1 : p ≤ (m : Rat)) : 0 ≤ p.floor ∧ p.floor ≤ m := by
 constructor
 ·exact Rat.le_floor_iff.2 (by exact_mod_cast h0)
 ·have : p < ((m + 1 : Int) : Rat) := by
   rw [Rat.intCast_add]
   have : (0 : Rat) < ((1 : Int) : Rat) := by decide
   grind
  have := Rat.floor_lt_iff.2 this
  omega
theorem jdZ {s : Int} (hs : 2 ≤ s) (x : Rat) : 0 ≤ spB s x ∧ spB s x ≤ s - 2 := by
 have h := gp_bd hs x
 have := floor_bd h.1 h.2
 unfold spB
 omega
theorem split_t (a b z0 z1 o0 o1 c0 c1 s0 s1 p0 p1 i0 i1 r0 r1 : List UInt8) (f : List UInt8) (s fl : Int) (hs : 2 ≤ s ∧ s ≤ 9) (hf : 0 ≤ fl ∧ fl ≤ 9) (iz : Called Tryz.prog 86 [.int .i64 0] (.agg [.str z0, .str z1])) (io : Called Tryz.prog 86 [.int .i64 1] (.agg [.str o0, .str o1]))
  (cl : Called Tryz.prog 160 [.agg [.str a, .str b], .agg [.str z0, .str z1], .agg [.str o0, .str o1]] (.tup [.agg [.str c0, .str c1], .int .i64 0])) (is : Called Tryz.prog 86 [.int .i64 (s - 1)] (.agg [.str s0, .str s1]))
  (mu : Called Tryz.prog 85 [.agg [.str c0, .str c1], .agg [.str s0, .str s1]] (.tup [.agg [.str p0, .str p1], .int .i64 0])) (fo : Called Tryz.prog 161 [.agg [.str p0, .str p1]] (.tup [.str f, .int .i64 0]))
  (at' : Called Tryz.prog 162 [.str f] (.tup [.int .i64 fl, .val .nilIface])) (ib : Called Tryz.prog 86 [.int .i64 (min fl (s - 2))] (.agg [.str i0, .str i1])) (sb : Called Tryz.prog 99 [.agg [.str p0, .str p1], .agg [.str i0, .str i1]] (.tup [.agg [.str r0, .str r1], .int .i64 0])) :
  Called Tryz.prog 124 [.agg [.str a, .str b], .int .i64 s] (.tup [.int .i64 (min fl (s - 2)), .agg [.str r0, .str r1], .int .i64 0]) := by
 refine V.en tbOk Tryz.func124 ?_
 refine V.r0 @jif ?_
 refine ⟨(V.tk [0] (V.e1 1 [0] (V.e1 2 [0] (V.e1 3 [] (V.tk [4,5,6] (V.e1 7 [6] (V.tk [8] .done))))))), [], V.pok, ?_⟩
 refine jab [(6, .int .i64 0)] [(2, .box [.str c0, .str c1])] ?_ ?_
 ·exact V.d3 @jif iz io cl
 refine V.r0 @jif ?_
 refine ⟨(V.tk [0,1,2] (.ev (.cons 3 [0] (.ev (.cons 4 [] (V.tk [5,6,7] (V.e1 8 [7,6,5] (V.e1 9 [7] (V.tk [10] .done)))) (.cons 8 [0] (V.e1 4 [] (V.tk [5,6,7] (V.e1 9 [7] (V.tk [10] .done)))) .nil))) (.cons 8 [2,1,0] (V.e1 3 [0] (V.e1 4 [] (V.tk [5,6,7] (V.e1 9 [7] (V.tk [10] .done))))) .nil)))), [], V.pok, ?_⟩
 refine jab [(7, .box 7 0), (6, .int .i64 0)] [(7, .box [.str p0, .str p1])] ?_ ?_
 ·exact V.d2 @jif is mu
 refine V.r2 @jif fo at' ?_
 refine ⟨(V.tk [0,1] (V.e1 2 [0] (V.e1 3 [] (V.tk [4,5,6] (V.e1 7 [6] (V.tk [8] .done)))))), [], V.pok, ?_⟩
 refine jab [(6, .int .i64 0)] [(5, .box [.str r0, .str r1])] ?_ ?_
 ·exact V.d2 @jif ib sb
 refine V.r0 @jif ?_
 refine ⟨(V.tk [0,1,2] (V.e1 3 [2,1] (V.e1 4 [2] (V.e1 5 [] .done)))), [], V.pok, ?_⟩
 refine jab [(4, .int .i64 (min fl (s - 2))), (6, .int .i64 0)] [(5, .box [.str r0, .str r1])] ?_ ?_
 ·exact V.d0 @jif
 refine V.r0 @jif ?_
 exact Fin.of rfl
theorem jaJ {n : Nat} {z : Int} (h : z.natAbs < 10 ^ n) (h0 : 0 < n) : Fq n (z : Rat) := by
 have := jaD (n := n) (x := z) (d := 1) (by omega) h (Nat.one_lt_pow (by omega) (by decide))
 rw [show (((1 : Nat) : Int)) = 1 from rfl, int_q] at this
 exact this
theorem jdH {n : Nat} {x : Rat} {s : Int} (h : Fq n x) (h0 : 0 < n ∧ n ≤ 500) (hs : 2 ≤ s ∧ s ≤ 9) : Called Tryz.prog 124 [frT x, .int .i64 s] (.tup [.int .i64 (spB s x), frT (spR s x), .int .i64 0]) := by
 have h6 : 0 < n ∧ n ≤ 600 := by omega
 have fc := fq_cl h h0.1
 have iz := jaq (n := 0) (by omega)
 have io := jaq (n := 1) (by omega)
 rw [show ((0 : Int) : Rat) = 0 from rfl] at iz
 rw [show ((1 : Int) : Rat) = 1 from rfl] at io
 have is := jaq (n := s - 1) (by omega)
 have fs : Fq 1 ((s - 1 : Int) : Rat) := jaJ (by omega) (by omega)
 have mu := zmul fc fs h0.1 (by omega) (by omega)
 have gb := gp_bd hs.1 x
 have fb : 0 ≤ (clQ x * ((s - 1 : Int) : Rat)).floor ∧ (clQ x * ((s - 1 : Int) : Rat)).floor ≤ s - 1 := floor_bd gb.1 gb.2
 have fb2 : 0 ≤ (gp s x).floor ∧ (gp s x).floor ≤ s - 1 := fb
 have fo := ffloor_c (fc.mul fs) (by omega)
 have bb := jdZ hs.1 x
 have ib := jaq (n := spB s x) (by omega)
 have fi : Fq 1 ((spB s x : Int) : Rat) := jaJ (by omega) (by omega)
 have sb := zsub (fc.mul fs) fi (by omega) (by omega) (by omega)
 exact split_t _ _ _ _ _ _ _ _ _ _ _ _ _ _ _ _ _ s _ hs ⟨fb.1, by omega⟩ iz io (fclamp_c h h6) is mu fo (atoi_c fb.1 (by omega)) ib sb
end Go.Proofs.YtgjgpdceghjajaaGreatDoor
end
section
namespace Go.Proofs.YtgjgpdceghjajaaGreatDoor
theorem k0 : ((0 : Nat) : Int) = 0 := rfl
theorem k1 : ((1 : Nat) : Int) = 1 := rfl
theorem k2 : ((2 : Nat) : Int) = 2 := rfl
theorem k3 : ((3 : Nat) : Int) = 3 := rfl
theorem tn0 : (0 : Int).toNat = 0 := rfl
theorem tn1 : (1 : Int).toNat = 1 := rfl
theorem tn2 : (2 : Int).toNat = 2 := rfl
theorem tn3 : (3 : Int).toNat = 3 := rfl
end Go.Proofs.YtgjgpdceghjajaaGreatDoor
end
section
namespace Go.Proofs.YtgjgpdceghjajaaGreatDoor
open Go Go.V Go.Nb
def preZ (k : Nat) (l : List Int) : List Int := l.take k ++ List.replicate (l.length - k) 0
def insJ (w : Int → Int → Int) : Nat → List Int → List Int
 | 0, xs => xs
 | j + 1, xs => if w (xs.getD (j + 1) 0) (xs.getD j 0) < 0 then insJ w j ((xs.set (j + 1) (xs.getD j 0)).set j (xs.getD (j + 1) 0)) else xs
def isoK (w : Int → Int → Int) (xs : List Int) : Nat → List Int
 | 0 => xs
 | i + 1 => insJ w (i + 1) (isoK w xs i)
def Bel (n : Nat) (xs : List Int) : Prop := xs.length = n ∧ ∀ i, i < n → 0 ≤ xs.getD i 0 ∧ xs.getD i 0 < n
theorem jeT (xs : List Int) (i k : Nat) (v : Int) (h : i < xs.length) : (xs.set i v).getD k 0 = if k = i then v else xs.getD k 0 := by
 rw [jiJ, List.getElem?_set]
 by_cases e : i = k
 ·rw [if_pos e, if_pos h, if_pos e.symm]
  rfl
 ·rw [if_neg e, if_neg (fun h => e h.symm), jiJ]
theorem jer {n : Nat} {xs : List Int} {j : Nat} (h : Bel n xs) (hj : j + 1 < n) : Bel n ((xs.set (j + 1) (xs.getD j 0)).set j (xs.getD (j + 1) 0)) := by
 refine ⟨by rw [ji6, ji6]; exact h.1, fun i hi => ?_⟩
 rw [jeT _ _ _ _ (by rw [ji6, h.1]; omega)]
 by_cases e : i = j
 ·rw [if_pos e]; exact h.2 _ hj
 ·rw [if_neg e, jeT _ _ _ _ (by rw [h.1]; omega)]
  by_cases e2 : i = j + 1
  ·rw [if_pos e2]; exact h.2 _ (by omega)
  ·rw [if_neg e2]; exact h.2 _ hi
theorem bel_ins (w : Int → Int → Int) {n : Nat} : ∀ (j : Nat) {xs : List Int}, j < n → Bel n xs → Bel n (insJ w j xs)
 | 0, _, _, h => h
 | j + 1, xs, hj, h => by
  simp only [insJ]
  split
  ·exact bel_ins w j (by omega) (jer h hj)
  ·exact h
theorem jgo (w : Int → Int → Int) {n : Nat} {xs : List Int} (h : Bel n xs) : ∀ i, i < n → Bel n (isoK w xs i)
 | 0, _ => h
 | i + 1, hi => bel_ins w (i + 1) hi (jgo w h i (by omega))
theorem tns (j : Nat) : ((j : Int) - 1).toNat = j - 1 := by omega
def wcl : Nat → D
 | 0 => .nil
 | k + 1 => .bsl 62 0 (k + 1) 2
def wce (W : Nat → Tx) : Nat → List D
 | 0 => []
 | k + 1 => wce W k ++ [.str (W k).1, .str (W k).2]
def wch (W : Nat → Tx) : Nat → Hp
 | 0 => []
 | k + 1 => [(62, .box (wce W (k + 1)))]
def preD (k : Nat) (l : List D) : List D := l.take k ++ List.replicate (l.length - k) (.str [])
end Go.Proofs.YtgjgpdceghjajaaGreatDoor
end
