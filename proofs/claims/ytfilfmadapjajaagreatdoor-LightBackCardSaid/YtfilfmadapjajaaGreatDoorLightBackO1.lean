/- What some functions of the program answer at values that mean given lists, texts and numbers, each proved of the program's own code: part 7. Conditions: those that each theorem names. -/
import Derived.Test.YtfilfmadapjajaaGreatDoorH6
set_option linter.unusedSimpArgs false
set_option linter.unusedVariables false
set_option maxHeartbeats 8000000
set_option maxRecDepth 100000
section
namespace Go.Proofs.YtfilfmadapjajaaGreatDoor
open Go Go.V Go.Nb
theorem po4_day {t a b c d : Rat} (ht : t ≠ 0) : d + c / t + b / (t * t) - a / (t * (t * t)) = po4 t⁻¹ (-a) b c d := by
  unfold po4
  grind
theorem po3_day {x : Rat} : Rat.divInt 287 100 * x - Rat.divInt 3 1 * (x * x) - Rat.divInt 275 1000 = po3 x (Rat.divInt (-3) 1) (Rat.divInt 287 100) (Rat.divInt (-275) 1000) := by
  have e1 : Rat.divInt (-3) 1 = - Rat.divInt 3 1 := by rw [Rat.neg_divInt]
  have e2 : Rat.divInt (-275) 1000 = - Rat.divInt 275 1000 := by rw [Rat.neg_divInt]
  unfold po3
  rw [e1, e2]
  generalize Rat.divInt 3 1 = a
  generalize Rat.divInt 275 1000 = b
  generalize Rat.divInt 287 100 = c
  grind
end Go.Proofs.YtfilfmadapjajaaGreatDoor
end
section
namespace Go.Proofs.YtfilfmadapjajaaGreatDoor
open Go Go.V Go.Nb
theorem bdX_no : BdX 20 noX := ⟨⟨by decide, by decide⟩, fun h => absurd h (by decide +kernel)⟩
theorem from_no : Called Tryz.prog 25 [.agg [.str [], .str []], .agg [.str [], .str []], .agg [.str [], .str []]] (.tup [.agg [.str [], .str [], .str [], .str [], .str [], .str []], .int .i64 20]) := by
  have c := lfrom_c (n := 20) bdX_no bdX_no bdX_no (by omega)
  have h : fromX noX noX noX = triE no3 20 := by
    unfold fromX
    rw [if_neg (show ¬ (okX noX && okX noX && okX noX) = true by decide +kernel)]
  rw [h] at c
  exact c
theorem div_nn {a s : Rat} (h : 0 ≤ a) (hs : 0 ≤ s) : 0 ≤ a / s := by
  rw [Rat.div_def]
  exact Rat.mul_nonneg h (inv_nonneg' hs)
theorem back_x (c0 c1 c2 : Int) (h0 : 0 ≤ c0 ∧ c0 ≤ 65535) (h1 : 0 ≤ c1 ∧ c1 ≤ 65535) (h2 : 0 ≤ c2 ∧ c2 ≤ 65535) : ∃ A0 A1 A2 A3 A4 A5 X0 X1 Y0 Y1 L0 L1 B0 B1 B2 B3 B4 B5 e f,
    Called Tryz.prog 12 [.iarr .u16 [c0, c1, c2]] (.agg [.str A0, .str A1, .str A2, .str A3, .str A4, .str A5]) ∧
    Called Tryz.prog 27 [.agg [.str A0, .str A1, .str A2, .str A3, .str A4, .str A5]] (.tup [.agg [.str X0, .str X1], .agg [.str Y0, .str Y1], .agg [.str L0, .str L1], .int .i64 e]) ∧
    Called Tryz.prog 25 [.agg [.str X0, .str X1], .agg [.str Y0, .str Y1], .agg [.str L0, .str L1]] (.tup [.agg [.str B0, .str B1, .str B2, .str B3, .str B4, .str B5], .int .i64 f]) ∧
    (e = 0 → 0 < c1 → f = 0 ∧ B0 = A0 ∧ B1 = A1 ∧ B2 = A2 ∧ B3 = A3 ∧ B4 = A4 ∧ B5 = A5) ∧ (e = 0 → c1 = 0 → f = 7) := by
  have t := tri_c c0 c1 c2 h0 h1 h2
  have f0 := fq_colour h0
  have f1 := fq_colour h1
  have f2 := fq_colour h2
  have p0 : 0 ≤ Rat.divInt c0 1000 := nn_divInt h0.1 (by omega)
  have p1 : 0 ≤ Rat.divInt c1 1000 := nn_divInt h1.1 (by omega)
  have p2 : 0 ≤ Rat.divInt c2 1000 := nn_divInt h2.1 (by omega)
  have z1 : Rat.divInt c1 1000 = 0 ↔ c1 = 0 := by
    rw [← Rat.zero_divInt 1000, Rat.divInt_eq_divInt_iff (by omega) (by omega)]
    omega
  have cc := lto_q ⟨f0, f1, f2⟩ (by omega) ⟨p0, p1, p2⟩
  unfold toQ at cc
  generalize Rat.divInt c0 1000 = a at *
  generalize Rat.divInt c1 1000 = b at *
  generalize Rat.divInt c2 1000 = c at *
  by_cases hs : a + b + c = 0
  · rw [if_pos hs] at cc
    exact ⟨_, _, _, _, _, _, _, _, _, _, _, _, _, _, _, _, _, _, _, _, t, cc, from_no, fun h => (by cases h), fun h => (by cases h)⟩
  · rw [if_neg hs] at cc
    have fs := (f0.add f1).add f2
    have ns : (a + b + c).num ≠ 0 := fun h => hs (Rat.num_eq_zero.1 h)
    have hpos : 0 ≤ a + b + c := by grind
    have q0 : 0 ≤ a / (a + b + c) := div_nn p0 hpos
    have q1 : 0 ≤ b / (a + b + c) := div_nn p1 hpos
    have q2 : 0 ≤ c / (a + b + c) := div_nn p2 hpos
    have e1 : a / (a + b + c) + b / (a + b + c) + c / (a + b + c) = 1 := by grind
    have dd := lfrom_q (n := 30) ((f0.div fs ns).mono (by omega)) ((f1.div fs ns).mono (by omega)) (f1.mono (by omega)) (by omega) q0 q1 p1 (by grind)
    by_cases hb : b = 0
    · have hy : b / (a + b + c) = 0 := by rw [hb, Rat.div_def, Rat.zero_mul]
      rw [if_pos hy] at dd
      refine ⟨_, _, _, _, _, _, _, _, _, _, _, _, _, _, _, _, _, _, _, _, t, cc, dd, fun _ h => ?_, fun _ _ => rfl⟩
      have := z1.1 hb
      omega
    · have hy : ¬ b / (a + b + c) = 0 := by grind
      rw [if_neg hy, (back0 a b c hb hs).1, (back0 a b c hb hs).2] at dd
      refine ⟨_, _, _, _, _, _, _, _, _, _, _, _, _, _, _, _, _, _, _, _, t, cc, dd, fun _ _ => ⟨rfl, rfl, rfl, rfl, rfl, rfl, rfl⟩, fun _ h => ?_⟩
      exact absurd (z1.2 h) hb
theorem light_bd (n : Int) (h : 1 ≤ n ∧ n ≤ 7) : Fq 20 (lxQ n) ∧ Fq 20 (lyQ n) ∧ 0 ≤ lxQ n ∧ 0 ≤ lyQ n ∧ lyQ n ≠ 0 ∧ lxQ n + lyQ n ≤ 1 ∧ lxQ n ≠ 0 ∧ 1 - lxQ n - lyQ n ≠ 0 := by
  have h7 : n = 1 ∨ n = 2 ∨ n = 3 ∨ n = 4 ∨ n = 5 ∨ n = 6 ∨ n = 7 := by omega
  have key : ∀ n : Int, (decide ((lxQ n).num.natAbs < 10 ^ 20 ∧ (lxQ n).den < 10 ^ 20) && decide ((lyQ n).num.natAbs < 10 ^ 20 ∧ (lyQ n).den < 10 ^ 20) && decide (0 ≤ lxQ n) && decide (0 ≤ lyQ n) && decide (lyQ n ≠ 0) && decide (lxQ n + lyQ n ≤ 1) && decide (lxQ n ≠ 0) && decide (1 - lxQ n - lyQ n ≠ 0)) = true →
      Fq 20 (lxQ n) ∧ Fq 20 (lyQ n) ∧ 0 ≤ lxQ n ∧ 0 ≤ lyQ n ∧ lyQ n ≠ 0 ∧ lxQ n + lyQ n ≤ 1 ∧ lxQ n ≠ 0 ∧ 1 - lxQ n - lyQ n ≠ 0 := fun n h => by
    simp only [Bool.and_eq_true, decide_eq_true_eq] at h
    obtain ⟨⟨⟨⟨⟨⟨⟨h1, h2⟩, h3⟩, h4⟩, h5⟩, h6⟩, h7⟩, h8⟩ := h
    exact ⟨h1, h2, h3, h4, h5, h6, h7, h8⟩
  rcases h7 with e | e | e | e | e | e | e
  all_goals subst e
  all_goals exact key _ (by decide +kernel)
theorem whites_x (n : Int) (h : 1 ≤ n ∧ n ≤ 7) : ∃ W0 W1 W2 W3 W4 W5 P0 P1 Q0 Q1, Called Tryz.prog 19 [.int .i64 n] (.tup [.agg [.str W0, .str W1, .str W2, .str W3, .str W4, .str W5], .int .i64 0]) ∧
    Called Tryz.prog 27 [.agg [.str W0, .str W1, .str W2, .str W3, .str W4, .str W5]] (.tup [.agg [.str P0, .str P1], .agg [.str Q0, .str Q1], .agg [.str W2, .str W3], .int .i64 0]) ∧
    Called Tryz.prog 35 [.int .i64 1, .int .i64 1] (.agg [.str W2, .str W3]) ∧
    Called Tryz.prog 25 [.agg [.str P0, .str P1], .agg [.str Q0, .str Q1], .agg [.str W2, .str W3]] (.tup [.agg [.str W0, .str W1, .str W2, .str W3, .str W4, .str W5], .int .i64 0]) ∧
    Called Tryz.prog 17 [.agg [.str W0, .str W1, .str W2, .str W3, .str W4, .str W5]] (.int .i64 0) := by
  obtain ⟨f0, f1, p0, p1, hy, p2, hx, hz⟩ := light_bd n h
  have w := lwhite_c n
  unfold whX at w
  rw [if_neg (by omega)] at w
  have o := law_of (n := 1) (m := 1) (by omega) (by omega)
  rw [one_divInt] at o
  generalize lxQ n = x at *
  generalize lyQ n = y at *
  have hn : y.num ≠ 0 := fun e => hy (Rat.num_eq_zero.1 e)
  have g0 : Fq 50 (x * 1 / y) := ((f0.mul fq_one).div f1 hn).mono (by omega)
  have g2 : Fq 90 ((1 - x - y) * 1 / y) := ((((fq_one.sub f0).sub f1).mul fq_one).div f1 hn).mono (by omega)
  have n0 : 0 ≤ x * 1 / y := div_nn (by grind) p1
  have n2 : 0 ≤ (1 - x - y) * 1 / y := div_nn (by grind) p1
  have n1 : (0 : Rat) ≤ 1 := by decide
  have tt := lto_q (n := 90) ⟨g0.mono (by omega), fq_one.mono (by omega), g2⟩ (by omega) ⟨n0, n1, n2⟩
  unfold toQ at tt
  have ws := wsum x y hy
  rw [ws] at tt
  rw [if_neg (by grind), (wxy x y hy).1, (wxy x y hy).2] at tt
  have ff := lfrom_q (n := 20) f0 f1 (fq_one.mono (by omega)) (by omega) p0 p1 n1 p2
  rw [if_neg hy] at ff
  have k0 : 0 < 90 ∧ 90 ≤ 600 := by omega
  have c := (chk_c (n := 90) (x := xT (x * 1 / y)) (y := xT 1) (z := xT ((1 - x - y) * 1 / y)) (xT_bd (g0.mono (by omega)) k0) (xT_bd (fq_one.mono (by omega)) k0) (xT_bd g2 k0) k0).ls
  have hs : snd3 (xT (x * 1 / y)) (xT 1) (xT ((1 - x - y) * 1 / y)) = 0 := by
    have e1 := chk3_q (g0.mono (by omega)) (fq_one.mono (by omega)) g2 k0 n0 n1 n2
    unfold snd3
    rw [if_pos e1, (xT_ok (g0.mono (by omega)) k0).2, (xT_ok (fq_one.mono (by omega)) k0).2, (xT_ok g2 k0).2, if_neg ?_]
    intro hh
    rcases hh with hh | hh | hh
    · have := Rat.num_eq_zero.1 hh
      grind
    · exact absurd hh (by decide)
    · have := Rat.num_eq_zero.1 hh
      grind
  rw [hs] at c
  unfold frT at o tt
  exact ⟨_, _, _, _, _, _, _, _, _, _, w, tt, o, ff, c⟩
end Go.Proofs.YtfilfmadapjajaaGreatDoor
end
section
namespace Go.Proofs.YtfilfmadapjajaaGreatDoor
open Go Go.V Go.Nb
theorem day_x (k : Int) (hk : 4000 ≤ k ∧ k ≤ 25000) : ∃ p0 p1 q0 q1 a0 a1 b0 b1 c0 c1 u0 u1 v0 v1 w0 w1 x0 x1, Called Tryz.prog 29 [.int .i64 k] (.tup [.agg [.str p0, .str p1], .agg [.str q0, .str q1], .int .i64 0]) ∧
    Called Tryz.prog 35 [.int .i64 287, .int .i64 100] (.agg [.str a0, .str a1]) ∧ Called Tryz.prog 35 [.int .i64 3, .int .i64 1] (.agg [.str b0, .str b1]) ∧ Called Tryz.prog 35 [.int .i64 275, .int .i64 1000] (.agg [.str c0, .str c1]) ∧
    Called Tryz.prog 74 [.agg [.str a0, .str a1], .agg [.str p0, .str p1]] (.tup [.agg [.str u0, .str u1], .int .i64 0]) ∧ Called Tryz.prog 74 [.agg [.str p0, .str p1], .agg [.str p0, .str p1]] (.tup [.agg [.str v0, .str v1], .int .i64 0]) ∧
    Called Tryz.prog 74 [.agg [.str b0, .str b1], .agg [.str v0, .str v1]] (.tup [.agg [.str w0, .str w1], .int .i64 0]) ∧ Called Tryz.prog 75 [.agg [.str u0, .str u1], .agg [.str w0, .str w1]] (.tup [.agg [.str x0, .str x1], .int .i64 0]) ∧
    Called Tryz.prog 75 [.agg [.str x0, .str x1], .agg [.str c0, .str c1]] (.tup [.agg [.str q0, .str q1], .int .i64 0]) := by
  have d := lday_c k (by simp [InR, V.lo, V.hi]; omega)
  unfold dayX at d
  rw [if_neg (by omega)] at d
  unfold x2E txD xT dayYQ at d
  have fx := fq_dayX hk
  have g1 : Fq 10 (Rat.divInt 287 100) := fq10 (by omega) (by omega)
  have g2 : Fq 10 (Rat.divInt 3 1) := fq10 (by omega) (by omega)
  have g3 : Fq 10 (Rat.divInt 275 1000) := fq10 (by omega) (by omega)
  have l0 := zmul g1 fx (by omega) (by omega) (by omega)
  have l1 := zmul fx fx (by omega) (by omega) (by omega)
  have l2 := zmul g2 (fx.mul fx) (by omega) (by omega) (by omega)
  have l3 := zsub (g1.mul fx) (g2.mul (fx.mul fx)) (by omega) (by omega) (by omega)
  have l4 := zsub ((g1.mul fx).sub (g2.mul (fx.mul fx))) g3 (by omega) (by omega) (by omega)
  rw [po3_day] at l4
  have q1 := law_of (n := 287) (m := 100) (by omega) (by omega)
  have q2 := law_of (n := 3) (m := 1) (by omega) (by omega)
  have q3 := law_of (n := 275) (m := 1000) (by omega) (by omega)
  exact ⟨_, _, _, _, _, _, _, _, _, _, _, _, _, _, _, _, _, _, d, q1, q2, q3, l0, l1, l2, l3, l4⟩
theorem zZ55_0 : type_of% @Nat.zero_add ∧ type_of% @gd1 ∧ type_of% @tn1 := ⟨@Nat.zero_add, @gd1, @tn1⟩
theorem zZ55_1 : type_of% @Nat.zero_add ∧ type_of% @dec_refl ∧ type_of% @dec_reflz := ⟨@Nat.zero_add, @dec_refl, @dec_reflz⟩
theorem lightBack_c (c0 c1 c2 m k : Int) (hc : (0 ≤ c0 ∧ c0 ≤ 65535) ∧ (0 ≤ c1 ∧ c1 ≤ 65535) ∧ (0 ≤ c2 ∧ c2 ≤ 65535)) (hm : 0 ≤ m ∧ m ≤ 255) (hk : 0 ≤ k ∧ k ≤ 65535) :
    Called Tryz.prog 9 [.iarr .u16 [c0, c1, c2], .int .u8 m, .int .u16 k] (.bool true) := by
  obtain ⟨A0, A1, A2, A3, A4, A5, X0, X1, Y0, Y1, L0, L1, B0, B1, B2, B3, B4, B5, e, f, ta, tt, ff, hp, hz⟩ := back_x c0 c1 c2 hc.1 hc.2.1 hc.2.2
  obtain ⟨W0, W1, W2, W3, W4, W5, P0, P1, Q0, Q1, w, wt, wo, wf, ws⟩ := whites_x (1 + m % 7) (by omega)
  obtain ⟨p0, p1, q0, q1, a0, a1, b0, b1, d0, d1, u0, u1, v0, v1, w0, w1, x0, x1, d, oa, ob, oc, l0, l1, l2, l3, l4⟩ := day_x (4000 + k % 21001) (by omega)
  have hc1 := hc.2.1
  obtain ⟨m', hm'⟩ : ∃ m', m % 7 = m' := ⟨_, rfl⟩
  obtain ⟨k', hk'⟩ : ∃ k', k % 21001 = k' := ⟨_, rfl⟩
  rw [hm'] at w
  rw [hk'] at d
  have bm : 0 ≤ m' ∧ m' < 7 := by omega
  have bk : 0 ≤ k' ∧ k' < 21001 := by omega
  clear hc
  refine called_of_run tbOk 6 ⟨Tryz.func9, rfl, rfl, Nat.le_of_ble_eq_true rfl⟩ ?_
  (conv => whnf)
  (conv => whnf)
  (try simp only [zZ55_0, hm', hk'])
  repeat ((first | refine V.s1 ?_ | ((try ((with_reducible refine .ext ?_); (conv => whnf); (try simp only [zZ55_0, hm', hk']))); (with_reducible refine call_intro (r := ?_) ?_ ?_); rotate_left; (focus (first | exact (works_c))); (conv => whnf))); (try simp only [zZ55_0, hm', hk']))
  (conv => whnf)
  (try simp only [zZ55_0, hm', hk'])
  repeat ((first | refine V.s1 ?_ | ((try ((with_reducible refine .ext ?_); (conv => whnf); (try simp only [zZ55_0, hm', hk']))); (with_reducible refine call_intro (r := ?_) ?_ ?_); rotate_left; (focus (first | exact (ta) | exact (tt) | exact (ff))); (conv => whnf))); (try simp only [zZ55_0, hm', hk']))
  refine And.intro (by intro h1 h2; first | (rw [h1, h2]; rfl) | (intro h3; rw [h1, h2, h3]; rfl)) ?_
  (conv => whnf)
  (try simp only [zZ55_0, hm', hk'])
  repeat ((first | refine V.s1 ?_ | ((try ((with_reducible refine .ext ?_); (conv => whnf); (try simp only [zZ55_0, hm', hk']))); (with_reducible refine call_intro (r := ?_) ?_ ?_); rotate_left; (focus (first | exact (ta) | exact (tt) | exact (ff))); (conv => whnf))); (try simp only [zZ55_0, hm', hk']))
  refine And.intro (by intro h1 h2; first | (rw [h1, h2]; rfl) | (intro h3; rw [h1, h2, h3]; rfl)) ?_
  (conv => whnf)
  (try simp only [zZ55_0, hm', hk'])
  repeat ((first | refine V.s1 ?_ | ((try ((with_reducible refine .ext ?_); (conv => whnf); (try simp only [zZ55_0, hm', hk']))); (with_reducible refine call_intro (r := ?_) ?_ ?_); rotate_left; (focus (first | exact (ta) | exact (tt) | exact (ff))); (conv => whnf))); (try simp only [zZ55_0, hm', hk']))
  refine And.intro (by intro h1 h2; first | (rw [h1, h2]; rfl) | (intro h3; rw [h1, h2, h3]; rfl)) ?_
  (conv => whnf)
  (try simp only [zZ55_0, hm', hk'])
  repeat ((first | refine V.s1 ?_ | ((try ((with_reducible refine .ext ?_); (conv => whnf); (try simp only [zZ55_0, hm', hk']))); (with_reducible refine call_intro (r := ?_) ?_ ?_); rotate_left; (focus (first | exact (ta) | exact (tt) | exact (ff))); (conv => whnf))); (try simp only [zZ55_0, hm', hk']))
  refine Cnd.split (CondB.mk (fun hq => ?_) (fun hq => ?_))
  · exfalso
    by_cases he : e = 0
    · by_cases h1 : 0 < c1
      · obtain ⟨h2, h3, h4, h5, h6, h7, h8⟩ := hp he h1
        subst he h2 h3 h4 h5 h6 h7 h8
        have h9 : ¬ c1 = 0 := by omega
        simp [h1, h9] at hq
      · have h9 : c1 = 0 := by omega
        have h2 := hz he h9
        subst he h9 h2
        simp at hq
    · simp [he] at hq
  clear hp hz
  (conv => whnf)
  (try simp only [zZ55_1, hm', hk', decide_true, Bool.and_true, Bool.true_and, Bool.and_self, Bool.not_true, Bool.not_false, Bool.or_false, Bool.or_self, ne_eq, not_true_eq_false, decide_false])
  repeat ((first | refine V.s1 ?_ | ((try ((with_reducible refine .ext ?_); (conv => whnf); (try simp only [zZ55_1, hm', hk', decide_true, Bool.and_true, Bool.true_and, Bool.and_self, Bool.not_true, Bool.not_false, Bool.or_false, Bool.or_self, ne_eq, not_true_eq_false, decide_false]))); (with_reducible refine call_intro (r := ?_) ?_ ?_); rotate_left; (focus (first | exact (w) | exact (wt))); (conv => whnf))); (try simp only [zZ55_1, hm', hk', decide_true, Bool.and_true, Bool.true_and, Bool.and_self, Bool.not_true, Bool.not_false, Bool.or_false, Bool.or_self, ne_eq, not_true_eq_false, decide_false]))
  refine ⟨(.take 0 (.take 1 (.ev (.cons 2 [1, 0] (.ev (.cons 3 [] (.take 4 (.take 5 (.take 6 (.ev (.cons 7 [6, 5, 4] (.ev (.cons 8 [6] (.take 9 (.done)) (.nil))) (.nil)))))) (.cons 7 [1, 0] (.ev (.cons 3 [] (.take 4 (.take 5 (.take 6 (.ev (.cons 8 [6] (.take 9 (.done)) (.nil)))))) (.nil))) (.nil)))) (.cons 7 [1, 0] (.ev (.cons 2 [1, 0] (.ev (.cons 3 [] (.take 4 (.take 5 (.take 6 (.ev (.cons 8 [6] (.take 9 (.done)) (.nil)))))) (.nil))) (.nil))) (.nil)))))), [], ⟨by kernel_rfl, by kernel_rfl, by kernel_rfl, by kernel_rfl⟩, ?_⟩
  refine drw_meet [(18, .box 18 0), (19, .int .i64 0)] [(18, .box [.str W0, .str W1, .str W2, .str W3, .str W4, .str W5])] ?_ ?_
  · (conv => whnf); (try simp only [zZ55_1, hm', hk', decide_true, Bool.and_true, Bool.true_and, Bool.and_self, Bool.not_true, Bool.not_false, Bool.or_false, Bool.or_self, ne_eq, not_true_eq_false, decide_false])
    repeat' (first | exact V.wk | ((with_reducible refine And.intro ?_ draw_nil); (conv => whnf); (try simp only [zZ55_1, hm', hk', decide_true, Bool.and_true, Bool.true_and, Bool.and_self, Bool.not_true, Bool.not_false, Bool.or_false, Bool.or_self, ne_eq, not_true_eq_false, decide_false])) | ((with_reducible first | refine draw_split ?_ ?_ | refine nds_split ?_ ?_) <;> (conv => whnf); (try simp only [zZ55_1, hm', hk', decide_true, Bool.and_true, Bool.true_and, Bool.and_self, Bool.not_true, Bool.not_false, Bool.or_false, Bool.or_self, ne_eq, not_true_eq_false, decide_false])) | ((first | refine V.s1 ?_ | ((with_reducible refine recheck_and ?_ ?_); (focus ((conv => whnf); (try simp only [zZ55_1, hm', hk', decide_true, Bool.and_true, Bool.true_and, Bool.and_self, Bool.not_true, Bool.not_false, Bool.or_false, Bool.or_self, ne_eq, not_true_eq_false, decide_false]); (repeat (refine V.s1 ?_; (try simp only [zZ55_1, hm', hk', decide_true, Bool.and_true, Bool.true_and, Bool.and_self, Bool.not_true, Bool.not_false, Bool.or_false, Bool.or_self, ne_eq, not_true_eq_false, decide_false]))); exact ⟨rfl⟩)); (conv => whnf)) | ((try ((with_reducible refine .ext ?_); (conv => whnf); (try simp only [zZ55_1, hm', hk', decide_true, Bool.and_true, Bool.true_and, Bool.and_self, Bool.not_true, Bool.not_false, Bool.or_false, Bool.or_self, ne_eq, not_true_eq_false, decide_false]))); (with_reducible refine call_intro (r := ?_) ?_ ?_); rotate_left; (focus (first | exact (wo) | exact (wf))); (conv => whnf))); (try simp only [zZ55_1, hm', hk', decide_true, Bool.and_true, Bool.true_and, Bool.and_self, Bool.not_true, Bool.not_false, Bool.or_false, Bool.or_self, ne_eq, not_true_eq_false, decide_false])) | (refine And.intro ?_ ?_ <;> (conv => whnf); (try simp only [zZ55_1, hm', hk', decide_true, Bool.and_true, Bool.true_and, Bool.and_self, Bool.not_true, Bool.not_false, Bool.or_false, Bool.or_self, ne_eq, not_true_eq_false, decide_false])))
  (conv => whnf)
  (try simp only [zZ55_1, hm', hk', decide_true, Bool.and_true, Bool.true_and, Bool.and_self, Bool.not_true, Bool.not_false, Bool.or_false, Bool.or_self, ne_eq, not_true_eq_false, decide_false])
  repeat ((first | refine V.s1 ?_); (try simp only [zZ55_1, hm', hk', decide_true, Bool.and_true, Bool.true_and, Bool.and_self, Bool.not_true, Bool.not_false, Bool.or_false, Bool.or_self, ne_eq, not_true_eq_false, decide_false]))
  refine ⟨(.take 0 (.take 1 (.take 2 (.take 3 (.take 4 (.take 5 (.take 6 (.take 7 (.take 8 (.take 9 (.take 10 (.take 11 (.ev (.cons 12 [11] (.take 13 (.take 14 (.take 15 (.take 16 (.take 17 (.take 18 (.take 19 (.take 20 (.take 21 (.ev (.cons 22 [] (.take 23 (.take 24 (.done))) (.nil)))))))))))) (.nil))))))))))))))), [], ⟨by kernel_rfl, by kernel_rfl, by kernel_rfl, by kernel_rfl⟩, ?_⟩
  refine drw_meet [(117, .bool false)] [] ?_ ?_
  · (conv => whnf); (try simp only [zZ55_1, hm', hk', decide_true, Bool.and_true, Bool.true_and, Bool.and_self, Bool.not_true, Bool.not_false, Bool.or_false, Bool.or_self, ne_eq, not_true_eq_false, decide_false])
    repeat' (first | exact V.wk | ((with_reducible refine And.intro ?_ draw_nil); (conv => whnf); (try simp only [zZ55_1, hm', hk', decide_true, Bool.and_true, Bool.true_and, Bool.and_self, Bool.not_true, Bool.not_false, Bool.or_false, Bool.or_self, ne_eq, not_true_eq_false, decide_false])) | ((with_reducible first | refine draw_split ?_ ?_ | refine nds_split ?_ ?_) <;> (conv => whnf); (try simp only [zZ55_1, hm', hk', decide_true, Bool.and_true, Bool.true_and, Bool.and_self, Bool.not_true, Bool.not_false, Bool.or_false, Bool.or_self, ne_eq, not_true_eq_false, decide_false])) | ((first | refine V.s1 ?_ | ((with_reducible refine recheck_and ?_ ?_); (focus ((conv => whnf); (try simp only [zZ55_1, hm', hk', decide_true, Bool.and_true, Bool.true_and, Bool.and_self, Bool.not_true, Bool.not_false, Bool.or_false, Bool.or_self, ne_eq, not_true_eq_false, decide_false]); (repeat (refine V.s1 ?_; (try simp only [zZ55_1, hm', hk', decide_true, Bool.and_true, Bool.true_and, Bool.and_self, Bool.not_true, Bool.not_false, Bool.or_false, Bool.or_self, ne_eq, not_true_eq_false, decide_false]))); exact ⟨rfl⟩)); (conv => whnf)) | ((try ((with_reducible refine .ext ?_); (conv => whnf); (try simp only [zZ55_1, hm', hk', decide_true, Bool.and_true, Bool.true_and, Bool.and_self, Bool.not_true, Bool.not_false, Bool.or_false, Bool.or_self, ne_eq, not_true_eq_false, decide_false]))); (with_reducible refine call_intro (r := ?_) ?_ ?_); rotate_left; (focus (first | exact (wo) | exact (ws))); (conv => whnf))); (try simp only [zZ55_1, hm', hk', decide_true, Bool.and_true, Bool.true_and, Bool.and_self, Bool.not_true, Bool.not_false, Bool.or_false, Bool.or_self, ne_eq, not_true_eq_false, decide_false])) | (refine And.intro ?_ ?_ <;> (conv => whnf); (try simp only [zZ55_1, hm', hk', decide_true, Bool.and_true, Bool.true_and, Bool.and_self, Bool.not_true, Bool.not_false, Bool.or_false, Bool.or_self, ne_eq, not_true_eq_false, decide_false])))
  (conv => whnf)
  (try simp only [zZ55_1, hm', hk', decide_true, Bool.and_true, Bool.true_and, Bool.and_self, Bool.not_true, Bool.not_false, Bool.or_false, Bool.or_self, ne_eq, not_true_eq_false, decide_false])
  repeat ((first | refine V.s1 ?_ | ((try ((with_reducible refine .ext ?_); (conv => whnf); (try simp only [zZ55_1, hm', hk', decide_true, Bool.and_true, Bool.true_and, Bool.and_self, Bool.not_true, Bool.not_false, Bool.or_false, Bool.or_self, ne_eq, not_true_eq_false, decide_false]))); (with_reducible refine call_intro (r := ?_) ?_ ?_); rotate_left; (focus (first | exact (d))); (conv => whnf))); (try simp only [zZ55_1, hm', hk', decide_true, Bool.and_true, Bool.true_and, Bool.and_self, Bool.not_true, Bool.not_false, Bool.or_false, Bool.or_self, ne_eq, not_true_eq_false, decide_false]))
  refine ⟨(.take 1 (.take 4 (.take 5 (.ev (.cons 0 [5, 4, 1] (.ev (.cons 2 [5, 4] (.ev (.cons 3 [5, 4] (.ev (.cons 6 [] (.ev (.cons 7 [] (.ev (.cons 8 [] (.ev (.cons 9 [] (.ev (.cons 10 [] (.ev (.cons 11 [] (.ev (.cons 12 [] (.done) (.nil))) (.nil))) (.cons 11 [] (.ev (.cons 10 [] (.ev (.cons 12 [] (.done) (.nil))) (.nil))) (.nil)))) (.cons 11 [] (.ev (.cons 9 [] (.ev (.cons 10 [] (.ev (.cons 12 [] (.done) (.nil))) (.nil))) (.nil))) (.nil)))) (.cons 11 [] (.ev (.cons 8 [] (.ev (.cons 9 [] (.ev (.cons 10 [] (.ev (.cons 12 [] (.done) (.nil))) (.nil))) (.nil))) (.nil))) (.nil)))) (.cons 11 [] (.ev (.cons 7 [] (.ev (.cons 8 [] (.ev (.cons 9 [] (.ev (.cons 10 [] (.ev (.cons 12 [] (.done) (.nil))) (.nil))) (.nil))) (.nil))) (.nil))) (.nil)))) (.cons 11 [5, 4] (.ev (.cons 6 [] (.ev (.cons 7 [] (.ev (.cons 8 [] (.ev (.cons 9 [] (.ev (.cons 10 [] (.ev (.cons 12 [] (.done) (.nil))) (.nil))) (.nil))) (.nil))) (.nil))) (.nil))) (.nil)))) (.cons 11 [5, 4] (.ev (.cons 3 [5, 4] (.ev (.cons 6 [] (.ev (.cons 7 [] (.ev (.cons 8 [] (.ev (.cons 9 [] (.ev (.cons 10 [] (.ev (.cons 12 [] (.done) (.nil))) (.nil))) (.nil))) (.nil))) (.nil))) (.nil))) (.nil))) (.nil)))) (.cons 11 [5, 4, 1] (.ev (.cons 2 [5, 4] (.ev (.cons 3 [5, 4] (.ev (.cons 6 [] (.ev (.cons 7 [] (.ev (.cons 8 [] (.ev (.cons 9 [] (.ev (.cons 10 [] (.ev (.cons 12 [] (.done) (.nil))) (.nil))) (.nil))) (.nil))) (.nil))) (.nil))) (.nil))) (.nil))) (.nil)))) (.cons 11 [5, 4, 1] (.ev (.cons 0 [5, 4, 1] (.ev (.cons 2 [5, 4] (.ev (.cons 3 [5, 4] (.ev (.cons 6 [] (.ev (.cons 7 [] (.ev (.cons 8 [] (.ev (.cons 9 [] (.ev (.cons 10 [] (.ev (.cons 12 [] (.done) (.nil))) (.nil))) (.nil))) (.nil))) (.nil))) (.nil))) (.nil))) (.nil))) (.nil))) (.nil))))))), [], ⟨by kernel_rfl, by kernel_rfl, by kernel_rfl, by kernel_rfl⟩, ?_⟩
  refine drw_meet [(23, .box 23 0)] [(23, .box [.str q0, .str q1])] ?_ ?_
  · (conv => whnf); (try simp only [zZ55_1, hm', hk', decide_true, Bool.and_true, Bool.true_and, Bool.and_self, Bool.not_true, Bool.not_false, Bool.or_false, Bool.or_self, ne_eq, not_true_eq_false, decide_false])
    repeat' (first | exact V.wk | ((with_reducible refine And.intro ?_ draw_nil); (conv => whnf); (try simp only [zZ55_1, hm', hk', decide_true, Bool.and_true, Bool.true_and, Bool.and_self, Bool.not_true, Bool.not_false, Bool.or_false, Bool.or_self, ne_eq, not_true_eq_false, decide_false])) | ((with_reducible first | refine draw_split ?_ ?_ | refine nds_split ?_ ?_) <;> (conv => whnf); (try simp only [zZ55_1, hm', hk', decide_true, Bool.and_true, Bool.true_and, Bool.and_self, Bool.not_true, Bool.not_false, Bool.or_false, Bool.or_self, ne_eq, not_true_eq_false, decide_false])) | ((first | refine V.s1 ?_ | ((with_reducible refine recheck_and ?_ ?_); (focus ((conv => whnf); (try simp only [zZ55_1, hm', hk', decide_true, Bool.and_true, Bool.true_and, Bool.and_self, Bool.not_true, Bool.not_false, Bool.or_false, Bool.or_self, ne_eq, not_true_eq_false, decide_false]); (repeat (refine V.s1 ?_; (try simp only [zZ55_1, hm', hk', decide_true, Bool.and_true, Bool.true_and, Bool.and_self, Bool.not_true, Bool.not_false, Bool.or_false, Bool.or_self, ne_eq, not_true_eq_false, decide_false]))); exact ⟨rfl⟩)); (conv => whnf)) | ((try ((with_reducible refine .ext ?_); (conv => whnf); (try simp only [zZ55_1, hm', hk', decide_true, Bool.and_true, Bool.true_and, Bool.and_self, Bool.not_true, Bool.not_false, Bool.or_false, Bool.or_self, ne_eq, not_true_eq_false, decide_false]))); (with_reducible refine call_intro (r := ?_) ?_ ?_); rotate_left; (focus (first | exact (oa) | exact (ob) | exact (oc) | exact (l0) | exact (l1) | exact (l2) | exact (l3) | exact (l4))); (conv => whnf)) | ((with_reducible refine .inl ?_); (conv => whnf); (first | refine ⟨0, _, _, ⟨Tryz.func36, rfl, rfl, Nat.le_of_ble_eq_true rfl⟩, ?_⟩ | refine ⟨0, _, _, ⟨Tryz.func37, rfl, rfl, Nat.le_of_ble_eq_true rfl⟩, ?_⟩ | refine ⟨0, _, _, ⟨Tryz.func73, rfl, rfl, Nat.le_of_ble_eq_true rfl⟩, ?_⟩); (conv => whnf))); (try simp only [zZ55_1, hm', hk', decide_true, Bool.and_true, Bool.true_and, Bool.and_self, Bool.not_true, Bool.not_false, Bool.or_false, Bool.or_self, ne_eq, not_true_eq_false, decide_false])) | (refine And.intro ?_ ?_ <;> (conv => whnf); (try simp only [zZ55_1, hm', hk', decide_true, Bool.and_true, Bool.true_and, Bool.and_self, Bool.not_true, Bool.not_false, Bool.or_false, Bool.or_self, ne_eq, not_true_eq_false, decide_false])))
  (conv => whnf)
  (try simp only [zZ55_1, hm', hk', decide_true, Bool.and_true, Bool.true_and, Bool.and_self, Bool.not_true, Bool.not_false, Bool.or_false, Bool.or_self, ne_eq, not_true_eq_false, decide_false])
  repeat ((first | refine V.s1 ?_); (try simp only [zZ55_1, hm', hk', decide_true, Bool.and_true, Bool.true_and, Bool.and_self, Bool.not_true, Bool.not_false, Bool.or_false, Bool.or_self, ne_eq, not_true_eq_false, decide_false]))
  exact Fin.of rfl
end Go.Proofs.YtfilfmadapjajaaGreatDoor
end
