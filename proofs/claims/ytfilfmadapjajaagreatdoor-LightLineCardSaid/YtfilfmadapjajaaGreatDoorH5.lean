/- What some functions of the program answer at values that mean given lists, texts and numbers, each proved of the program's own code: part 5. Conditions: those that each theorem names. -/
import Derived.Test.YtfilfmadapjajaaGreatDoorH4
set_option linter.unusedSimpArgs false
set_option linter.unusedVariables false
set_option maxHeartbeats 8000000
set_option maxRecDepth 100000
section
namespace Go.Proofs.YtfilfmadapjajaaGreatDoor
open Go Go.V Go.Nb
theorem rsign_t {n : Nat} {q : Rat} (h : Fq n q) (h0 : 0 < n ∧ n ≤ 600) : Called Tryz.prog 47 [frT q] (.int .i64 (ordQ q (Rat.divInt 0 1))) := by
  obtain ⟨h1, e1⟩ := okP_dec (h.ok h0.1 h0.2)
  have r1 := right02_c _ _ (okP_len h1).1 (okP_len h1).2
  rw [h1] at r1
  have i1 := in02_c _ _ h1
  rw [e1] at i1
  have q1 := q4_qv h1
  rw [e1] at q1
  have qk := quick_c 0 1 (by simp [InR, V.lo, V.hi]) (by simp [InR, V.lo, V.hi]) (by omega)
  have od := order02_c q (Rat.divInt 0 1) (q1.mono (by omega)) (Q4.of (k := 40000000) (Sm.mono (k := 1) (Sm.lit (by decide)) (by omega)) (Sm.mono (k := 1) (Sm.lit (by decide)) (by omega)) (by omega))
  unfold frT
  generalize ordQ q (Rat.divInt 0 1) = w at *
  have sg : Called Tryz.prog 86 [.agg [.str (decZ q.num), .str (dec q.den)]] (.tup [.int .i64 w, .int .i64 0]) := by
    refine called_of_run tbOk 6 ⟨Tryz.func86, rfl, rfl, Nat.le_of_ble_eq_true rfl⟩ ?_
    (conv => whnf)
    refine V.st ?_
    repeat ((try ((with_reducible refine .ext ?_); (conv => whnf))); (with_reducible refine call_intro (r := ?_) ?_ ?_); rotate_left; (focus (first | exact (r1))); (conv => whnf); refine V.st ?_)
    (conv => whnf)
    refine V.st ?_
    repeat ((try ((with_reducible refine .ext ?_); (conv => whnf))); (with_reducible refine call_intro (r := ?_) ?_ ?_); rotate_left; (focus (first | exact (i1) | exact (qk) | exact (od))); (conv => whnf); refine V.st ?_)
    exact Fin.of rfl
  refine called_of_run tbOk 6 ⟨Tryz.func47, rfl, rfl, Nat.le_of_ble_eq_true rfl⟩ ?_
  (conv => whnf)
  refine V.st ?_
  repeat ((try ((with_reducible refine .ext ?_); (conv => whnf))); (with_reducible refine call_intro (r := ?_) ?_ ?_); rotate_left; (focus (first | exact (sg))); (conv => whnf); refine V.st ?_)
  exact Fin.of rfl
theorem zZ11_0 : type_of% @Nat.zero_add ∧ type_of% @tn0 ∧ type_of% @tn1 ∧ type_of% @tn2 := ⟨@Nat.zero_add, @tn0, @tn1, @tn2⟩
theorem rfracs3 (a0 b0 a1 b1 a2 b2 : List UInt8) (e0 e1 e2 : Int) (c0 : Called Tryz.prog 85 [.agg [.str a0, .str b0]] (.int .i64 e0)) (c1 : Called Tryz.prog 85 [.agg [.str a1, .str b1]] (.int .i64 e1)) (c2 : Called Tryz.prog 85 [.agg [.str a2, .str b2]] (.int .i64 e2)) :
    Called Tryz.prog 46 [.slf 2 3 (fun j => List.take 2 (List.drop (j * 2) [.str a0, .str b0, .str a1, .str b1, .str a2, .str b2]))] (.int .i64 (fst3 e0 e1 e2)) := by
  obtain ⟨R, hR0⟩ : ∃ R, fst3 e0 e1 e2 = R := ⟨_, rfl⟩
  rw [hR0]
  unfold fst3 at hR0
  refine called_of_run tbOk 6 ⟨Tryz.func46, rfl, rfl, Nat.le_of_ble_eq_true rfl⟩ ?_
  (conv => whnf)
  (conv => whnf)
  (try simp only [Nat.zero_add])
  repeat ((first | refine V.s1 ?_); (try simp only [Nat.zero_add]))
  refine lp_any (0) (fun k => k ≤ 3 ∧ (0 < k → e0 = 0) ∧ (1 < k → e1 = 0) ∧ (2 < k → e2 = 0)) (fun k => 3 - k) (fun k => [(3, .int .i64 k)]) (fun k => []) ?_ ?_ ?_
  · exact V.wk
  · exact ⟨Nat.zero_le _, by omega, by omega, by omega⟩
  intro k hk
  obtain ⟨hk, z0, z1, z2⟩ := hk
  have hk4 : k = 0 ∨ k = 1 ∨ k = 2 ∨ k = 3 := by omega
  rcases hk4 with e | e | e | e
  all_goals subst e
  · simp only [k0]
    (conv => whnf)
    (try simp only [zZ11_0])
    repeat ((first | refine V.s1 ?_ | ((try ((with_reducible refine .ext ?_); (conv => whnf); (try simp only [zZ11_0]))); (with_reducible refine call_intro (r := ?_) ?_ ?_); rotate_left; (focus (first | exact (c0))); (conv => whnf))); (try simp only [zZ11_0]))
    refine Cnd.split (CondB.mk (fun hq => ?_) (fun hq => ?_))
    · have hR : R = e0 := by rw [← hR0]; simp at hq; simp [hq]
      rw [hR]
      (conv => whnf)
      (try simp only [Nat.zero_add])
      repeat ((first | refine V.s1 ?_); (try simp only [Nat.zero_add]))
      exact Fin.of rfl
    (conv => whnf)
    (try simp only [Nat.zero_add])
    repeat ((first | refine V.s1 ?_); (try simp only [Nat.zero_add]))
    simp at hq
    exact ⟨1, ⟨by omega, by omega, by omega, by omega⟩, by omega, V.wk⟩
  · simp only [k1]
    have y0 := z0 (by omega)
    (conv => whnf)
    (try simp only [zZ11_0])
    repeat ((first | refine V.s1 ?_ | ((try ((with_reducible refine .ext ?_); (conv => whnf); (try simp only [zZ11_0]))); (with_reducible refine call_intro (r := ?_) ?_ ?_); rotate_left; (focus (first | exact (c1))); (conv => whnf))); (try simp only [zZ11_0]))
    refine Cnd.split (CondB.mk (fun hq => ?_) (fun hq => ?_))
    · have hR : R = e1 := by rw [← hR0]; simp at hq; simp [hq, y0]
      rw [hR]
      (conv => whnf)
      (try simp only [Nat.zero_add])
      repeat ((first | refine V.s1 ?_); (try simp only [Nat.zero_add]))
      exact Fin.of rfl
    (conv => whnf)
    (try simp only [Nat.zero_add])
    repeat ((first | refine V.s1 ?_); (try simp only [Nat.zero_add]))
    simp at hq
    exact ⟨2, ⟨by omega, by omega, by omega, by omega⟩, by omega, V.wk⟩
  · simp only [k2]
    have y0 := z0 (by omega)
    have y1 := z1 (by omega)
    (conv => whnf)
    (try simp only [zZ11_0])
    repeat ((first | refine V.s1 ?_ | ((try ((with_reducible refine .ext ?_); (conv => whnf); (try simp only [zZ11_0]))); (with_reducible refine call_intro (r := ?_) ?_ ?_); rotate_left; (focus (first | exact (c2))); (conv => whnf))); (try simp only [zZ11_0]))
    refine Cnd.split (CondB.mk (fun hq => ?_) (fun hq => ?_))
    · have hR : R = e2 := by rw [← hR0]; simp [y0, y1]
      rw [hR]
      (conv => whnf)
      (try simp only [Nat.zero_add])
      repeat ((first | refine V.s1 ?_); (try simp only [Nat.zero_add]))
      exact Fin.of rfl
    (conv => whnf)
    (try simp only [Nat.zero_add])
    repeat ((first | refine V.s1 ?_); (try simp only [Nat.zero_add]))
    simp at hq
    exact ⟨3, ⟨by omega, by omega, by omega, by omega⟩, by omega, V.wk⟩
  · simp only [k3]
    have y0 := z0 (by omega)
    have y1 := z1 (by omega)
    have y2 := z2 (by omega)
    have hR : R = 0 := by rw [← hR0]; simp [y0, y1, y2]
    rw [hR]
    (conv => whnf)
    (try simp only [Nat.zero_add])
    repeat ((first | refine V.s1 ?_); (try simp only [Nat.zero_add]))
    exact Fin.of rfl
theorem lsound_ok (a0 b0 a1 b1 a2 b2 : List UInt8) (g0 g1 g2 : Int) (hg0 : -1 ≤ g0 ∧ g0 ≤ 1) (hg1 : -1 ≤ g1 ∧ g1 ≤ 1) (hg2 : -1 ≤ g2 ∧ g2 ≤ 1)
    (ck : Called Tryz.prog 15 [.agg [.str a0, .str b0, .str a1, .str b1, .str a2, .str b2]] (.int .i64 0))
    (s0 : Called Tryz.prog 45 [.agg [.str a0, .str b0]] (.tup [.int .i64 g0, .int .i64 0])) (s1 : Called Tryz.prog 45 [.agg [.str a1, .str b1]] (.tup [.int .i64 g1, .int .i64 0])) (s2 : Called Tryz.prog 45 [.agg [.str a2, .str b2]] (.tup [.int .i64 g2, .int .i64 0])) :
    Called Tryz.prog 17 [.agg [.str a0, .str b0, .str a1, .str b1, .str a2, .str b2]] (.int .i64 (if g0 = 0 ∨ g1 = 0 ∨ g2 = 0 then 2 else 0)) := by
  obtain ⟨R, hR0⟩ : ∃ R : Int, (if g0 = 0 ∨ g1 = 0 ∨ g2 = 0 then 2 else 0) = R := ⟨_, rfl⟩
  rw [hR0]
  have hn := numbers_c a0 b0 a1 b1 a2 b2
  refine called_of_run tbOk 6 ⟨Tryz.func17, rfl, rfl, Nat.le_of_ble_eq_true rfl⟩ ?_
  (conv => whnf)
  (conv => whnf)
  (try simp only [zZ11_0])
  repeat ((first | refine V.s1 ?_ | ((try ((with_reducible refine .ext ?_); (conv => whnf); (try simp only [zZ11_0]))); (with_reducible refine call_intro (r := ?_) ?_ ?_); rotate_left; (focus (first | exact (ck) | exact (hn))); (conv => whnf))); (try simp only [zZ11_0]))
  refine ⟨_, _, ⟨Tryz.func82, rfl, rfl, Nat.le_of_ble_eq_true rfl⟩, ?_⟩
  (conv => whnf)
  (conv => whnf)
  (try simp only [Nat.zero_add])
  repeat ((first | refine V.s1 ?_); (try simp only [Nat.zero_add]))
  refine lp_any (0) (fun k => k ≤ 3 ∧ (0 < k → ¬ g0 = 0) ∧ (1 < k → ¬ g1 = 0) ∧ (2 < k → ¬ g2 = 0)) (fun k => 3 - k) (fun k => [(6, .int .i64 k)]) (fun k => [(24, .lp none)]) ?_ ?_ ?_
  · exact V.wk
  · exact ⟨Nat.zero_le _, by omega, by omega, by omega⟩
  intro k hk
  obtain ⟨hk, z0, z1, z2⟩ := hk
  have hk4 : k = 0 ∨ k = 1 ∨ k = 2 ∨ k = 3 := by omega
  rcases hk4 with e | e | e | e
  all_goals subst e
  · simp only [k0]
    skip
    skip
    (conv => whnf)
    (try simp only [zZ11_0])
    repeat ((first | refine V.s1 ?_ | ((try ((with_reducible refine .ext ?_); (conv => whnf); (try simp only [zZ11_0]))); (with_reducible refine call_intro (r := ?_) ?_ ?_); rotate_left; (focus (first | exact (s0))); (conv => whnf))); (try simp only [zZ11_0]))
    refine Cnd.split (CondB.mk (fun hq => ?_) (fun hq => ?_))
    · have hR : R = 2 := by
        rw [← hR0]
        simp at hq
        rw [if_pos (by omega)]
      rw [hR]
      (conv => whnf)
      (try simp only [Nat.zero_add])
      repeat ((first | refine V.s1 ?_); (try simp only [Nat.zero_add]))
      exact Fin.of rfl
    (conv => whnf)
    (try simp only [Nat.zero_add])
    repeat ((first | refine V.s1 ?_); (try simp only [Nat.zero_add]))
    simp at hq
    exact ⟨1, ⟨by omega, by omega, by omega, by omega⟩, by omega, V.wk⟩
  · simp only [k1]
    have y0 := z0 (by omega)
    skip
    (conv => whnf)
    (try simp only [zZ11_0])
    repeat ((first | refine V.s1 ?_ | ((try ((with_reducible refine .ext ?_); (conv => whnf); (try simp only [zZ11_0]))); (with_reducible refine call_intro (r := ?_) ?_ ?_); rotate_left; (focus (first | exact (s1))); (conv => whnf))); (try simp only [zZ11_0]))
    refine Cnd.split (CondB.mk (fun hq => ?_) (fun hq => ?_))
    · have hR : R = 2 := by
        rw [← hR0]
        simp at hq
        rw [if_pos (by omega)]
      rw [hR]
      (conv => whnf)
      (try simp only [Nat.zero_add])
      repeat ((first | refine V.s1 ?_); (try simp only [Nat.zero_add]))
      exact Fin.of rfl
    (conv => whnf)
    (try simp only [Nat.zero_add])
    repeat ((first | refine V.s1 ?_); (try simp only [Nat.zero_add]))
    simp at hq
    exact ⟨2, ⟨by omega, by omega, by omega, by omega⟩, by omega, V.wk⟩
  · simp only [k2]
    have y0 := z0 (by omega)
    have y1 := z1 (by omega)
    (conv => whnf)
    (try simp only [zZ11_0])
    repeat ((first | refine V.s1 ?_ | ((try ((with_reducible refine .ext ?_); (conv => whnf); (try simp only [zZ11_0]))); (with_reducible refine call_intro (r := ?_) ?_ ?_); rotate_left; (focus (first | exact (s2))); (conv => whnf))); (try simp only [zZ11_0]))
    refine Cnd.split (CondB.mk (fun hq => ?_) (fun hq => ?_))
    · have hR : R = 2 := by
        rw [← hR0]
        simp at hq
        rw [if_pos (by omega)]
      rw [hR]
      (conv => whnf)
      (try simp only [Nat.zero_add])
      repeat ((first | refine V.s1 ?_); (try simp only [Nat.zero_add]))
      exact Fin.of rfl
    (conv => whnf)
    (try simp only [Nat.zero_add])
    repeat ((first | refine V.s1 ?_); (try simp only [Nat.zero_add]))
    simp at hq
    exact ⟨3, ⟨by omega, by omega, by omega, by omega⟩, by omega, V.wk⟩
  · simp only [k3]
    have y0 := z0 (by omega)
    have y1 := z1 (by omega)
    have y2 := z2 (by omega)
    have hR : R = 0 := by
      rw [← hR0, if_neg (by omega)]
    rw [hR]
    (conv => whnf)
    (try simp only [Nat.zero_add])
    repeat ((first | refine V.s1 ?_); (try simp only [Nat.zero_add]))
    exact Fin.of rfl
theorem rcheck_ok (a0 b0 a1 b1 a2 b2 : List UInt8) (g0 g1 g2 : Int) (hg0 : -1 ≤ g0 ∧ g0 ≤ 1) (hg1 : -1 ≤ g1 ∧ g1 ≤ 1) (hg2 : -1 ≤ g2 ∧ g2 ≤ 1)
    (fr : Called Tryz.prog 46 [.slf 2 3 (fun j => List.take 2 (List.drop (j * 2) [.str a0, .str b0, .str a1, .str b1, .str a2, .str b2]))] (.int .i64 0))
    (s0 : Called Tryz.prog 47 [.agg [.str a0, .str b0]] (.int .i64 g0)) (s1 : Called Tryz.prog 47 [.agg [.str a1, .str b1]] (.int .i64 g1)) (s2 : Called Tryz.prog 47 [.agg [.str a2, .str b2]] (.int .i64 g2)) :
    Called Tryz.prog 16 [.agg [.str a0, .str b0, .str a1, .str b1, .str a2, .str b2]] (.int .i64 (if g0 < 0 ∨ g1 < 0 ∨ g2 < 0 then 2 else 0)) := by
  obtain ⟨R, hR0⟩ : ∃ R : Int, (if g0 < 0 ∨ g1 < 0 ∨ g2 < 0 then 2 else 0) = R := ⟨_, rfl⟩
  rw [hR0]
  skip
  refine called_of_run tbOk 6 ⟨Tryz.func16, rfl, rfl, Nat.le_of_ble_eq_true rfl⟩ ?_
  (conv => whnf)
  (conv => whnf)
  (try simp only [zZ11_0])
  repeat ((first | refine V.s1 ?_ | ((try ((with_reducible refine .ext ?_); (conv => whnf); (try simp only [zZ11_0]))); (with_reducible refine call_intro (r := ?_) ?_ ?_); rotate_left; (focus (first | exact (fr))); (conv => whnf))); (try simp only [zZ11_0]))
  skip
  refine lp_any (0) (fun k => k ≤ 3 ∧ (0 < k → ¬ g0 < 0) ∧ (1 < k → ¬ g1 < 0) ∧ (2 < k → ¬ g2 < 0)) (fun k => 3 - k) (fun k => [(4, .int .i64 k)]) (fun k => []) ?_ ?_ ?_
  · exact V.wk
  · exact ⟨Nat.zero_le _, by omega, by omega, by omega⟩
  intro k hk
  obtain ⟨hk, z0, z1, z2⟩ := hk
  have hk4 : k = 0 ∨ k = 1 ∨ k = 2 ∨ k = 3 := by omega
  rcases hk4 with e | e | e | e
  all_goals subst e
  · simp only [k0]
    skip
    skip
    (conv => whnf)
    (try simp only [zZ11_0])
    repeat ((first | refine V.s1 ?_ | ((try ((with_reducible refine .ext ?_); (conv => whnf); (try simp only [zZ11_0]))); (with_reducible refine call_intro (r := ?_) ?_ ?_); rotate_left; (focus (first | exact (s0))); (conv => whnf))); (try simp only [zZ11_0]))
    refine Cnd.split (CondB.mk (fun hq => ?_) (fun hq => ?_))
    · have hR : R = 2 := by
        rw [← hR0]
        simp at hq
        rw [if_pos (by omega)]
      rw [hR]
      (conv => whnf)
      (try simp only [Nat.zero_add])
      repeat ((first | refine V.s1 ?_); (try simp only [Nat.zero_add]))
      exact Fin.of rfl
    (conv => whnf)
    (try simp only [Nat.zero_add])
    repeat ((first | refine V.s1 ?_); (try simp only [Nat.zero_add]))
    simp at hq
    exact ⟨1, ⟨by omega, by omega, by omega, by omega⟩, by omega, V.wk⟩
  · simp only [k1]
    have y0 := z0 (by omega)
    skip
    (conv => whnf)
    (try simp only [zZ11_0])
    repeat ((first | refine V.s1 ?_ | ((try ((with_reducible refine .ext ?_); (conv => whnf); (try simp only [zZ11_0]))); (with_reducible refine call_intro (r := ?_) ?_ ?_); rotate_left; (focus (first | exact (s1))); (conv => whnf))); (try simp only [zZ11_0]))
    refine Cnd.split (CondB.mk (fun hq => ?_) (fun hq => ?_))
    · have hR : R = 2 := by
        rw [← hR0]
        simp at hq
        rw [if_pos (by omega)]
      rw [hR]
      (conv => whnf)
      (try simp only [Nat.zero_add])
      repeat ((first | refine V.s1 ?_); (try simp only [Nat.zero_add]))
      exact Fin.of rfl
    (conv => whnf)
    (try simp only [Nat.zero_add])
    repeat ((first | refine V.s1 ?_); (try simp only [Nat.zero_add]))
    simp at hq
    exact ⟨2, ⟨by omega, by omega, by omega, by omega⟩, by omega, V.wk⟩
  · simp only [k2]
    have y0 := z0 (by omega)
    have y1 := z1 (by omega)
    (conv => whnf)
    (try simp only [zZ11_0])
    repeat ((first | refine V.s1 ?_ | ((try ((with_reducible refine .ext ?_); (conv => whnf); (try simp only [zZ11_0]))); (with_reducible refine call_intro (r := ?_) ?_ ?_); rotate_left; (focus (first | exact (s2))); (conv => whnf))); (try simp only [zZ11_0]))
    refine Cnd.split (CondB.mk (fun hq => ?_) (fun hq => ?_))
    · have hR : R = 2 := by
        rw [← hR0]
        simp at hq
        rw [if_pos (by omega)]
      rw [hR]
      (conv => whnf)
      (try simp only [Nat.zero_add])
      repeat ((first | refine V.s1 ?_); (try simp only [Nat.zero_add]))
      exact Fin.of rfl
    (conv => whnf)
    (try simp only [Nat.zero_add])
    repeat ((first | refine V.s1 ?_); (try simp only [Nat.zero_add]))
    simp at hq
    exact ⟨3, ⟨by omega, by omega, by omega, by omega⟩, by omega, V.wk⟩
  · simp only [k3]
    have y0 := z0 (by omega)
    have y1 := z1 (by omega)
    have y2 := z2 (by omega)
    have hR : R = 0 := by
      rw [← hR0, if_neg (by omega)]
    rw [hR]
    (conv => whnf)
    (try simp only [Nat.zero_add])
    repeat ((first | refine V.s1 ?_); (try simp only [Nat.zero_add]))
    exact Fin.of rfl
theorem rsound_ok (a0 b0 a1 b1 a2 b2 : List UInt8) (g0 g1 g2 : Int) (hg0 : -1 ≤ g0 ∧ g0 ≤ 1) (hg1 : -1 ≤ g1 ∧ g1 ≤ 1) (hg2 : -1 ≤ g2 ∧ g2 ≤ 1)
    (ck : Called Tryz.prog 16 [.agg [.str a0, .str b0, .str a1, .str b1, .str a2, .str b2]] (.int .i64 0))
    (s0 : Called Tryz.prog 47 [.agg [.str a0, .str b0]] (.int .i64 g0)) (s1 : Called Tryz.prog 47 [.agg [.str a1, .str b1]] (.int .i64 g1)) (s2 : Called Tryz.prog 47 [.agg [.str a2, .str b2]] (.int .i64 g2)) :
    Called Tryz.prog 18 [.agg [.str a0, .str b0, .str a1, .str b1, .str a2, .str b2]] (.int .i64 (if g0 = 0 ∨ g1 = 0 ∨ g2 = 0 then 2 else 0)) := by
  obtain ⟨R, hR0⟩ : ∃ R : Int, (if g0 = 0 ∨ g1 = 0 ∨ g2 = 0 then 2 else 0) = R := ⟨_, rfl⟩
  rw [hR0]
  skip
  refine called_of_run tbOk 6 ⟨Tryz.func18, rfl, rfl, Nat.le_of_ble_eq_true rfl⟩ ?_
  (conv => whnf)
  (conv => whnf)
  (try simp only [zZ11_0])
  repeat ((first | refine V.s1 ?_ | ((try ((with_reducible refine .ext ?_); (conv => whnf); (try simp only [zZ11_0]))); (with_reducible refine call_intro (r := ?_) ?_ ?_); rotate_left; (focus (first | exact (ck))); (conv => whnf))); (try simp only [zZ11_0]))
  skip
  refine lp_any (0) (fun k => k ≤ 3 ∧ (0 < k → ¬ g0 = 0) ∧ (1 < k → ¬ g1 = 0) ∧ (2 < k → ¬ g2 = 0)) (fun k => 3 - k) (fun k => [(4, .int .i64 k)]) (fun k => []) ?_ ?_ ?_
  · exact V.wk
  · exact ⟨Nat.zero_le _, by omega, by omega, by omega⟩
  intro k hk
  obtain ⟨hk, z0, z1, z2⟩ := hk
  have hk4 : k = 0 ∨ k = 1 ∨ k = 2 ∨ k = 3 := by omega
  rcases hk4 with e | e | e | e
  all_goals subst e
  · simp only [k0]
    skip
    skip
    (conv => whnf)
    (try simp only [zZ11_0])
    repeat ((first | refine V.s1 ?_ | ((try ((with_reducible refine .ext ?_); (conv => whnf); (try simp only [zZ11_0]))); (with_reducible refine call_intro (r := ?_) ?_ ?_); rotate_left; (focus (first | exact (s0))); (conv => whnf))); (try simp only [zZ11_0]))
    refine Cnd.split (CondB.mk (fun hq => ?_) (fun hq => ?_))
    · have hR : R = 2 := by
        rw [← hR0]
        simp at hq
        rw [if_pos (by omega)]
      rw [hR]
      (conv => whnf)
      (try simp only [Nat.zero_add])
      repeat ((first | refine V.s1 ?_); (try simp only [Nat.zero_add]))
      exact Fin.of rfl
    (conv => whnf)
    (try simp only [Nat.zero_add])
    repeat ((first | refine V.s1 ?_); (try simp only [Nat.zero_add]))
    simp at hq
    exact ⟨1, ⟨by omega, by omega, by omega, by omega⟩, by omega, V.wk⟩
  · simp only [k1]
    have y0 := z0 (by omega)
    skip
    (conv => whnf)
    (try simp only [zZ11_0])
    repeat ((first | refine V.s1 ?_ | ((try ((with_reducible refine .ext ?_); (conv => whnf); (try simp only [zZ11_0]))); (with_reducible refine call_intro (r := ?_) ?_ ?_); rotate_left; (focus (first | exact (s1))); (conv => whnf))); (try simp only [zZ11_0]))
    refine Cnd.split (CondB.mk (fun hq => ?_) (fun hq => ?_))
    · have hR : R = 2 := by
        rw [← hR0]
        simp at hq
        rw [if_pos (by omega)]
      rw [hR]
      (conv => whnf)
      (try simp only [Nat.zero_add])
      repeat ((first | refine V.s1 ?_); (try simp only [Nat.zero_add]))
      exact Fin.of rfl
    (conv => whnf)
    (try simp only [Nat.zero_add])
    repeat ((first | refine V.s1 ?_); (try simp only [Nat.zero_add]))
    simp at hq
    exact ⟨2, ⟨by omega, by omega, by omega, by omega⟩, by omega, V.wk⟩
  · simp only [k2]
    have y0 := z0 (by omega)
    have y1 := z1 (by omega)
    (conv => whnf)
    (try simp only [zZ11_0])
    repeat ((first | refine V.s1 ?_ | ((try ((with_reducible refine .ext ?_); (conv => whnf); (try simp only [zZ11_0]))); (with_reducible refine call_intro (r := ?_) ?_ ?_); rotate_left; (focus (first | exact (s2))); (conv => whnf))); (try simp only [zZ11_0]))
    refine Cnd.split (CondB.mk (fun hq => ?_) (fun hq => ?_))
    · have hR : R = 2 := by
        rw [← hR0]
        simp at hq
        rw [if_pos (by omega)]
      rw [hR]
      (conv => whnf)
      (try simp only [Nat.zero_add])
      repeat ((first | refine V.s1 ?_); (try simp only [Nat.zero_add]))
      exact Fin.of rfl
    (conv => whnf)
    (try simp only [Nat.zero_add])
    repeat ((first | refine V.s1 ?_); (try simp only [Nat.zero_add]))
    simp at hq
    exact ⟨3, ⟨by omega, by omega, by omega, by omega⟩, by omega, V.wk⟩
  · simp only [k3]
    have y0 := z0 (by omega)
    have y1 := z1 (by omega)
    have y2 := z2 (by omega)
    have hR : R = 0 := by
      rw [← hR0, if_neg (by omega)]
    rw [hR]
    (conv => whnf)
    (try simp only [Nat.zero_add])
    repeat ((first | refine V.s1 ?_); (try simp only [Nat.zero_add]))
    exact Fin.of rfl
theorem lcheck_no (a0 b0 a1 b1 a2 b2 : List UInt8) (e : Int) (he : e ≠ 0)
    (fr : Called Tryz.prog 43 [.slf 2 3 (fun j => List.take 2 (List.drop (j * 2) [.str a0, .str b0, .str a1, .str b1, .str a2, .str b2]))] (.int .i64 e)) :
    Called Tryz.prog 15 [.agg [.str a0, .str b0, .str a1, .str b1, .str a2, .str b2]] (.int .i64 e) := by
  refine called_of_run tbOk 6 ⟨Tryz.func15, rfl, rfl, Nat.le_of_ble_eq_true rfl⟩ ?_
  (conv => whnf)
  (conv => whnf)
  (try simp only [zZ11_0])
  repeat ((first | refine V.s1 ?_ | ((try ((with_reducible refine .ext ?_); (conv => whnf); (try simp only [zZ11_0]))); (with_reducible refine call_intro (r := ?_) ?_ ?_); rotate_left; (focus (first | exact (fr))); (conv => whnf))); (try simp only [zZ11_0]))
  refine Cnd.split (CondB.mk (fun hq => ?_) (fun hq => ?_))
  · (conv => whnf)
    (try simp only [Nat.zero_add])
    repeat ((first | refine V.s1 ?_); (try simp only [Nat.zero_add]))
    exact Fin.of rfl
  · exfalso
    simp at hq
    exact he hq
theorem rcheck_no (a0 b0 a1 b1 a2 b2 : List UInt8) (e : Int) (he : e ≠ 0)
    (fr : Called Tryz.prog 46 [.slf 2 3 (fun j => List.take 2 (List.drop (j * 2) [.str a0, .str b0, .str a1, .str b1, .str a2, .str b2]))] (.int .i64 e)) :
    Called Tryz.prog 16 [.agg [.str a0, .str b0, .str a1, .str b1, .str a2, .str b2]] (.int .i64 e) := by
  refine called_of_run tbOk 6 ⟨Tryz.func16, rfl, rfl, Nat.le_of_ble_eq_true rfl⟩ ?_
  (conv => whnf)
  (conv => whnf)
  (try simp only [zZ11_0])
  repeat ((first | refine V.s1 ?_ | ((try ((with_reducible refine .ext ?_); (conv => whnf); (try simp only [zZ11_0]))); (with_reducible refine call_intro (r := ?_) ?_ ?_); rotate_left; (focus (first | exact (fr))); (conv => whnf))); (try simp only [zZ11_0]))
  refine Cnd.split (CondB.mk (fun hq => ?_) (fun hq => ?_))
  · (conv => whnf)
    (try simp only [Nat.zero_add])
    repeat ((first | refine V.s1 ?_); (try simp only [Nat.zero_add]))
    exact Fin.of rfl
  · exfalso
    simp at hq
    exact he hq
theorem lsound_no (a0 b0 a1 b1 a2 b2 : List UInt8) (e : Int) (he : e ≠ 0)
    (ck : Called Tryz.prog 15 [.agg [.str a0, .str b0, .str a1, .str b1, .str a2, .str b2]] (.int .i64 e)) :
    Called Tryz.prog 17 [.agg [.str a0, .str b0, .str a1, .str b1, .str a2, .str b2]] (.int .i64 e) := by
  refine called_of_run tbOk 6 ⟨Tryz.func17, rfl, rfl, Nat.le_of_ble_eq_true rfl⟩ ?_
  (conv => whnf)
  (conv => whnf)
  (try simp only [zZ11_0])
  repeat ((first | refine V.s1 ?_ | ((try ((with_reducible refine .ext ?_); (conv => whnf); (try simp only [zZ11_0]))); (with_reducible refine call_intro (r := ?_) ?_ ?_); rotate_left; (focus (first | exact (ck))); (conv => whnf))); (try simp only [zZ11_0]))
  refine Cnd.split (CondB.mk (fun hq => ?_) (fun hq => ?_))
  · (conv => whnf)
    (try simp only [Nat.zero_add])
    repeat ((first | refine V.s1 ?_); (try simp only [Nat.zero_add]))
    exact Fin.of rfl
  · exfalso
    simp at hq
    exact he hq
theorem rsound_no (a0 b0 a1 b1 a2 b2 : List UInt8) (e : Int) (he : e ≠ 0)
    (ck : Called Tryz.prog 16 [.agg [.str a0, .str b0, .str a1, .str b1, .str a2, .str b2]] (.int .i64 e)) :
    Called Tryz.prog 18 [.agg [.str a0, .str b0, .str a1, .str b1, .str a2, .str b2]] (.int .i64 e) := by
  refine called_of_run tbOk 6 ⟨Tryz.func18, rfl, rfl, Nat.le_of_ble_eq_true rfl⟩ ?_
  (conv => whnf)
  (conv => whnf)
  (try simp only [zZ11_0])
  repeat ((first | refine V.s1 ?_ | ((try ((with_reducible refine .ext ?_); (conv => whnf); (try simp only [zZ11_0]))); (with_reducible refine call_intro (r := ?_) ?_ ?_); rotate_left; (focus (first | exact (ck))); (conv => whnf))); (try simp only [zZ11_0]))
  refine Cnd.split (CondB.mk (fun hq => ?_) (fun hq => ?_))
  · (conv => whnf)
    (try simp only [Nat.zero_add])
    repeat ((first | refine V.s1 ?_); (try simp only [Nat.zero_add]))
    exact Fin.of rfl
  · exfalso
    simp at hq
    exact he hq
end Go.Proofs.YtfilfmadapjajaaGreatDoor
end
section
namespace Go.Proofs.YtfilfmadapjajaaGreatDoor
open Go Go.V Go.Nb
theorem ordQ_zero (q : Rat) : ordQ q (Rat.divInt 0 1) = q.num.sign := by
  have h0 : Rat.divInt 0 1 = 0 := by simp
  rw [h0]
  unfold ordQ
  rcases Int.lt_trichotomy q.num 0 with h | h | h
  · have : q < 0 := by
      rw [← Rat.not_le]
      intro hn
      have := Rat.num_nonneg.2 hn
      omega
    rw [if_pos this, Int.sign_eq_neg_one_of_neg h]
  · have : q = 0 := Rat.num_eq_zero.1 h
    rw [if_neg (by rw [this]; exact Rat.lt_irrefl), if_pos this, h]
    rfl
  · have hq : ¬ q < 0 := by
      rw [Rat.not_lt]
      exact Rat.num_nonneg.1 (by omega)
    have hz : ¬ q = 0 := fun e => by
      rw [e] at h
      exact absurd h (by decide)
    rw [if_neg hq, if_neg hz, Int.sign_eq_one_of_pos h]
theorem sgn_bd (z : Int) : -1 ≤ z.sign ∧ z.sign ≤ 1 := by
  have := Int.sign_trichotomy z
  omega
theorem sgn_lt (z : Int) : (z.sign < 0) = (z < 0) := by
  apply propext
  rw [Int.sign_neg_iff]
theorem sgn_eq (z : Int) : (z.sign = 0) = (z = 0) := by
  apply propext
  exact Int.sign_eq_zero_iff_zero
theorem sgn_x {n : Nat} {x : Tx} (h : okX x = true) (b : BdX n x) (h0 : 0 < n ∧ n ≤ 600) :
    Called Tryz.prog 45 [.agg [.str x.1, .str x.2]] (.tup [.int .i64 (qX x).num.sign, .int .i64 0]) ∧ Called Tryz.prog 47 [.agg [.str x.1, .str x.2]] (.int .i64 (qX x).num.sign) := by
  have hq := b.2 h
  have e := txD_q h
  unfold txD at e
  have r := rsign_t hq h0
  rw [ordQ_zero] at r
  rw [e]
  exact ⟨fsign_t (hq.ok h0.1 h0.2), r⟩
structure Chk (x y z : Tx) : Prop where
  lc : Called Tryz.prog 15 [triD x y z] (.int .i64 (chk3 x y z))
  rc : Called Tryz.prog 16 [triD x y z] (.int .i64 (chk3 x y z))
  ls : Called Tryz.prog 17 [triD x y z] (.int .i64 (snd3 x y z))
  rs : Called Tryz.prog 18 [triD x y z] (.int .i64 (snd3 x y z))
theorem chk_c {n : Nat} {x y z : Tx} (bx : BdX n x) (b_y : BdX n y) (bz : BdX n z) (h0 : 0 < n ∧ n ≤ 600) : Chk x y z := by
  have f1 := fractions3 x.1 x.2 y.1 y.2 z.1 z.2 _ _ _ (fcheck_c _ _ bx.1.1 bx.1.2) (fcheck_c _ _ b_y.1.1 b_y.1.2) (fcheck_c _ _ bz.1.1 bz.1.2)
  have f2 := rfracs3 x.1 x.2 y.1 y.2 z.1 z.2 _ _ _ (rcheck_c _ _ bx.1.1 bx.1.2) (rcheck_c _ _ b_y.1.1 b_y.1.2) (rcheck_c _ _ bz.1.1 bz.1.2)
  rw [fst3_ok] at f1 f2
  have hc : (okP x.1 x.2 && okP y.1 y.2 && okP z.1 z.2) = (okX x && okX y && okX z) := rfl
  rw [hc] at f1 f2
  by_cases h : (okX x && okX y && okX z) = true
  · rw [if_pos h] at f1 f2
    simp only [Bool.and_eq_true] at h
    obtain ⟨⟨hx, hy⟩, hz⟩ := h
    obtain ⟨sx, rx⟩ := sgn_x hx bx h0
    obtain ⟨sy, ry⟩ := sgn_x hy b_y h0
    obtain ⟨sz, rz⟩ := sgn_x hz bz h0
    have g1 := lcheck_ok _ _ _ _ _ _ _ _ _ (sgn_bd _) (sgn_bd _) (sgn_bd _) f1 sx sy sz
    have g2 := rcheck_ok _ _ _ _ _ _ _ _ _ (sgn_bd _) (sgn_bd _) (sgn_bd _) f2 rx ry rz
    have e1 : chk3 x y z = if (qX x).num < 0 ∨ (qX y).num < 0 ∨ (qX z).num < 0 then 2 else 0 := by
      unfold chk3
      rw [hx, hy, hz]
      rfl
    simp only [sgn_lt] at g1 g2
    rw [← e1] at g1 g2
    have hs : snd3 x y z = if chk3 x y z = 0 then (if (qX x).num = 0 ∨ (qX y).num = 0 ∨ (qX z).num = 0 then 2 else 0) else chk3 x y z := rfl
    by_cases h2 : chk3 x y z = 0
    · rw [if_pos h2] at hs
      have k1 := g1
      have k2 := g2
      rw [h2] at k1 k2
      have g3 := lsound_ok _ _ _ _ _ _ _ _ _ (sgn_bd _) (sgn_bd _) (sgn_bd _) k1 sx sy sz
      have g4 := rsound_ok _ _ _ _ _ _ _ _ _ (sgn_bd _) (sgn_bd _) (sgn_bd _) k2 rx ry rz
      simp only [sgn_eq] at g3 g4
      rw [← hs] at g3 g4
      exact ⟨g1, g2, g3, g4⟩
    · rw [if_neg h2] at hs
      refine ⟨g1, g2, ?_, ?_⟩
      · rw [hs]
        exact lsound_no _ _ _ _ _ _ _ h2 g1
      · rw [hs]
        exact rsound_no _ _ _ _ _ _ _ h2 g2
  · rw [if_neg h] at f1 f2
    have e1 : chk3 x y z = 20 := by
      unfold chk3
      rw [if_neg h]
    have e2 : snd3 x y z = 20 := by
      unfold snd3
      rw [e1]
      rfl
    have g1 := lcheck_no _ _ _ _ _ _ _ (by omega) f1
    have g2 := rcheck_no _ _ _ _ _ _ _ (by omega) f2
    refine ⟨by rw [e1]; exact g1, by rw [e1]; exact g2, ?_, ?_⟩
    · rw [e2]
      exact lsound_no _ _ _ _ _ _ _ (by omega) g1
    · rw [e2]
      exact rsound_no _ _ _ _ _ _ _ (by omega) g2
end Go.Proofs.YtfilfmadapjajaaGreatDoor
end
section
namespace Go.Proofs.YtfilfmadapjajaaGreatDoor
open Go Go.V Go.Nb
theorem fq_one : Fq 1 1 := ⟨by decide, by decide⟩
theorem one_divInt : Rat.divInt 1 1 = 1 := Rat.divInt_self' (by omega)
theorem fq_small {n m : Int} (hn : -9223372036854775807 ≤ n ∧ n ≤ 9223372036854775807) (hm : 1 ≤ m ∧ m ≤ 9223372036854775807) : Fq 20 (Rat.divInt n m) := by
  obtain ⟨d, rfl⟩ : ∃ d : Nat, m = d := ⟨m.toNat, by omega⟩
  exact fq_divInt (by omega) (by omega) (by omega)
theorem zof {n m : Int} (hn : -9223372036854775807 ≤ n ∧ n ≤ 9223372036854775807) (hm : 1 ≤ m ∧ m ≤ 9223372036854775807) : Called Tryz.prog 72 [.int .i64 n, .int .i64 m] (.tup [frT (Rat.divInt n m), .int .i64 0]) := by
  rw [← frR_ok ((fq_small hn hm).ok (by omega) (by omega))]
  exact of_c n m (by simp [InR, V.lo, V.hi]; omega) (by simp [InR, V.lo, V.hi]; omega) (by omega)
theorem zrof {n m : Int} (hn : -9223372036854775807 ≤ n ∧ n ≤ 9223372036854775807) (hm : 1 ≤ m ∧ m ≤ 9223372036854775807) : Called Tryz.prog 80 [.int .i64 n, .int .i64 m] (.tup [frT (Rat.divInt n m), .int .i64 0]) := by
  rw [← frR_ok ((fq_small hn hm).ok (by omega) (by omega))]
  exact of02_c n m (by simp [InR, V.lo, V.hi]; omega) (by simp [InR, V.lo, V.hi]; omega) (by omega)
theorem lratio {n m : Int} (hn : -9223372036854775807 ≤ n ∧ n ≤ 9223372036854775807) (hm : 1 ≤ m ∧ m ≤ 9223372036854775807) : Called Tryz.prog 51 [.int .i64 n, .int .i64 m] (frT (Rat.divInt n m)) := by
  have c := zof hn hm
  have mu := must_ok
  unfold frT at *
  generalize Rat.divInt n m = q at *
  refine called_of_run tbOk 6 ⟨Tryz.func51, rfl, rfl, Nat.le_of_ble_eq_true rfl⟩ ?_
  (conv => whnf)
  refine V.st ?_
  repeat ((try ((with_reducible refine .ext ?_); (conv => whnf))); (with_reducible refine call_intro (r := ?_) ?_ ?_); rotate_left; (focus (first | exact (c) | exact (mu _ _))); (conv => whnf); refine V.st ?_)
  exact Fin.of rfl
theorem r23of {n m : Int} (hn : -9223372036854775807 ≤ n ∧ n ≤ 9223372036854775807) (hm : 1 ≤ m ∧ m ≤ 9223372036854775807) : Called Tryz.prog 42 [.int .i64 n, .int .i64 m] (frT (Rat.divInt n m)) := by
  have c := zrof hn hm
  unfold frT at *
  generalize Rat.divInt n m = q at *
  refine called_of_run tbOk 6 ⟨Tryz.func42, rfl, rfl, Nat.le_of_ble_eq_true rfl⟩ ?_
  (conv => whnf)
  refine V.st ?_
  repeat ((try ((with_reducible refine .ext ?_); (conv => whnf))); (with_reducible refine call_intro (r := ?_) ?_ ?_); rotate_left; (focus (first | exact (c))); (conv => whnf); refine V.st ?_)
  exact Fin.of rfl
theorem labove {a b : Nat} {p q : Rat} (h : Fq a p) (g : Fq b q) (ha : 0 < a ∧ a ≤ 600) (hb : 0 < b ∧ b ≤ 600) : Called Tryz.prog 55 [frT p, frT q] (.bool (decide (ordQ p q > 0))) := by
  have c := zcmp h g ha hb
  have hw : -1 ≤ ordQ p q ∧ ordQ p q ≤ 1 := by
    unfold ordQ
    split
    · omega
    · split <;> omega
  generalize ordQ p q = w at *
  have m := musti_ok w (by simp [InR, V.lo, V.hi]; omega)
  unfold frT at *
  refine called_of_run tbOk 6 ⟨Tryz.func55, rfl, rfl, Nat.le_of_ble_eq_true rfl⟩ ?_
  (conv => whnf)
  refine V.st ?_
  repeat ((try ((with_reducible refine .ext ?_); (conv => whnf))); (with_reducible refine call_intro (r := ?_) ?_ ?_); rotate_left; (focus (first | exact (c) | exact (m))); (conv => whnf); refine V.st ?_)
  exact Fin.of rfl
def triQ (p q r : Rat) : D := .agg [.str (decZ p.num), .str (dec p.den), .str (decZ q.num), .str (dec q.den), .str (decZ r.num), .str (dec r.den)]
theorem lcolour {a : Nat} {x y l : Rat} (hx : Fq a x) (hy : Fq a y) (hl : Fq a l) (h0 : y.num ≠ 0) (ha : 0 < a ∧ a ≤ 100) : Called Tryz.prog 50 [frT x, frT y, frT l] (triQ (x * l / y) l ((1 - x - y) * l / y)) := by
  have o1 := lratio (n := 1) (m := 1) (by omega) (by omega)
  rw [one_divInt] at o1
  have f1 := fq_one.sub hx
  have f2 := f1.sub hy
  have s1 := lsub fq_one hx (by omega) ha.1 (by omega)
  have s2 := lsub f1 hy (by omega) ha.1 (by omega)
  have m1 := lmul hx hl ha.1 ha.1 (by omega)
  have d1 := ldiv (hx.mul hl) hy h0 (by omega) ha.1 (by omega)
  have m2 := lmul f2 hl (by omega) ha.1 (by omega)
  have d2 := ldiv (f2.mul hl) hy h0 (by omega) ha.1 (by omega)
  clear f1 f2 hx hy hl
  generalize (1 - x - y) * l / y = c2 at *
  generalize (1 - x - y) * l = c1 at *
  generalize 1 - x - y = z at *
  generalize 1 - x = u at *
  generalize x * l / y = b2 at *
  generalize x * l = b1 at *
  unfold frT triQ at *
  generalize (1 : Rat) = one at *
  refine called_of_run tbOk 6 ⟨Tryz.func50, rfl, rfl, Nat.le_of_ble_eq_true rfl⟩ ?_
  (conv => whnf)
  (conv => whnf)
  (try simp only [Nat.zero_add])
  repeat ((first | refine V.s1 ?_); (try simp only [Nat.zero_add]))
  refine ⟨(.take 1 (.take 3 (.ev (.cons 0 [3, 1] (.ev (.cons 2 [3] (.ev (.cons 4 [] (.ev (.cons 5 [] (.ev (.cons 6 [] (.done) (.nil))) (.nil))) (.cons 5 [3] (.ev (.cons 4 [] (.ev (.cons 6 [] (.done) (.nil))) (.nil))) (.nil)))) (.cons 5 [3, 1] (.ev (.cons 2 [3] (.ev (.cons 4 [] (.ev (.cons 6 [] (.done) (.nil))) (.nil))) (.nil))) (.nil)))) (.cons 5 [3, 1] (.ev (.cons 0 [3, 1] (.ev (.cons 2 [3] (.ev (.cons 4 [] (.ev (.cons 6 [] (.done) (.nil))) (.nil))) (.nil))) (.nil))) (.nil)))))), [], ⟨by kernel_rfl, by kernel_rfl, by kernel_rfl, by kernel_rfl⟩, ?_⟩
  refine drw_meet [(7, .box 7 0)] [(7, .box [.str (decZ z.num), .str (dec z.den)])] ?_ ?_
  · (conv => whnf); (try simp only [Nat.zero_add])
    repeat' (first | exact V.wk | ((first | refine V.s1 ?_ | ((with_reducible refine recheck_and ?_ ?_); (focus ((conv => whnf); (try simp only [Nat.zero_add]); (repeat (refine V.s1 ?_; (try simp only [Nat.zero_add]))); exact ⟨rfl⟩)); (conv => whnf)) | ((try ((with_reducible refine .ext ?_); (conv => whnf); (try simp only [Nat.zero_add]))); (with_reducible refine call_intro (r := ?_) ?_ ?_); rotate_left; (focus (first | exact (o1) | exact (s1) | exact (s2))); (conv => whnf))); (try simp only [Nat.zero_add])) | (refine And.intro ?_ ?_ <;> (conv => whnf); (try simp only [Nat.zero_add])))
  (conv => whnf)
  (try simp only [Nat.zero_add])
  repeat ((first | refine V.s1 ?_); (try simp only [Nat.zero_add]))
  refine ⟨(.take 0 (.take 1 (.take 3 (.take 5 (.take 6 (.take 7 (.take 9 (.ev (.cons 2 [9, 7, 6, 5, 3] (.ev (.cons 4 [9, 7, 6, 5] (.ev (.cons 8 [9, 5] (.ev (.cons 10 [5] (.take 11 (.ev (.cons 12 [] (.done) (.nil)))) (.nil))) (.nil))) (.nil))) (.nil)))))))))), [], ⟨by kernel_rfl, by kernel_rfl, by kernel_rfl, by kernel_rfl⟩, ?_⟩
  refine drw_meet [] [(6, .box [.str (decZ b2.num), .str (dec b2.den), .str (decZ l.num), .str (dec l.den), .str (decZ c2.num), .str (dec c2.den)])] ?_ ?_
  · (conv => whnf); (try simp only [Nat.zero_add])
    repeat' (first | exact V.wk | ((first | refine V.s1 ?_ | ((with_reducible refine recheck_and ?_ ?_); (focus ((conv => whnf); (try simp only [Nat.zero_add]); (repeat (refine V.s1 ?_; (try simp only [Nat.zero_add]))); exact ⟨rfl⟩)); (conv => whnf)) | ((try ((with_reducible refine .ext ?_); (conv => whnf); (try simp only [Nat.zero_add]))); (with_reducible refine call_intro (r := ?_) ?_ ?_); rotate_left; (focus (first | exact (m1) | exact (d1) | exact (m2) | exact (d2))); (conv => whnf))); (try simp only [Nat.zero_add])) | (refine And.intro ?_ ?_ <;> (conv => whnf); (try simp only [Nat.zero_add])))
  (conv => whnf)
  (try simp only [Nat.zero_add])
  repeat ((first | refine V.s1 ?_); (try simp only [Nat.zero_add]))
  exact Fin.of rfl
end Go.Proofs.YtfilfmadapjajaaGreatDoor
end
section
namespace Go.Proofs.YtfilfmadapjajaaGreatDoor
open Go Go.V Go.Nb
def strs (q : Rat) : List D := [.str (decZ q.num), .str (dec q.den)]
theorem offS {ys : List D} {c : Bool} (hc : c = false) : c = true → Called Tryz.prog 54 ys (.int .i64 0) := fun h => by rw [hc] at h; cases h
theorem offA {ys : List D} {c : Bool} (hc : c = false) : c = true → Called Tryz.prog 56 ys (.agg [.str [], .str []]) := fun h => by rw [hc] at h; cases h
theorem offR {ys : List D} {c : Bool} (hc : c = false) : c = true → Called Tryz.prog 51 ys (.agg [.str [], .str []]) := fun h => by rw [hc] at h; cases h
theorem offV {ys : List D} {c : Bool} (hc : c = false) : c = true → Called Tryz.prog 55 ys (.bool false) := fun h => by rw [hc] at h; cases h
theorem fcl_pan1 (a0 b0 a1 b1 a2 b2 : List UInt8) (gx : Int) (h : gx < 0) (s0 : Called Tryz.prog 54 [.agg [.str a0, .str b0]] (.int .i64 gx)) : Panics Tryz.prog 53 [.ref [.str a0, .str b0], .ref [.str a1, .str b1], .ref [.str a2, .str b2]] (.iface 38 (.int .i64 2)) := by
  have hx : decide (gx < 0) = true := decide_eq_true h
  refine panics_of_run tbOk 6 ⟨Tryz.func53, rfl, rfl, Nat.le_of_ble_eq_true rfl⟩ ?_
  (conv => whnf)
  (conv => whnf)
  (try simp only [Nat.zero_add, Bool.not_true, Bool.true_or, Bool.not_false, hx])
  repeat ((first | refine V.s1 ?_ | ((try ((with_reducible refine .ext ?_); (conv => whnf); (try simp only [Nat.zero_add, Bool.not_true, Bool.true_or, Bool.not_false, hx]))); (with_reducible refine call_intro (r := ?_) ?_ ?_); rotate_left; (focus (first | exact (s0))); (conv => whnf))); (try simp only [Nat.zero_add, Bool.not_true, Bool.true_or, Bool.not_false, hx]))
  (first | refine And.intro (fun _ h => by cases h) ?_ | refine ⟨_, offS rfl, ?_⟩ | refine ⟨_, offA rfl, ?_⟩ | refine ⟨_, offR rfl, ?_⟩ | refine ⟨_, offV rfl, ?_⟩)
  (conv => whnf)
  (try simp only [Nat.zero_add, Bool.not_true, Bool.true_or, Bool.not_false, hx])
  repeat ((first | refine V.s1 ?_ | ((try ((with_reducible refine .ext ?_); (conv => whnf); (try simp only [Nat.zero_add, Bool.not_true, Bool.true_or, Bool.not_false, hx]))); (with_reducible refine call_intro (r := ?_) ?_ ?_); rotate_left; (focus (first | exact (s0))); (conv => whnf))); (try simp only [Nat.zero_add, Bool.not_true, Bool.true_or, Bool.not_false, hx]))
  (first | refine And.intro (fun _ h => by cases h) ?_ | refine ⟨_, offS rfl, ?_⟩ | refine ⟨_, offA rfl, ?_⟩ | refine ⟨_, offR rfl, ?_⟩ | refine ⟨_, offV rfl, ?_⟩)
  (conv => whnf)
  (try simp only [Nat.zero_add, Bool.not_true, Bool.true_or, Bool.not_false, hx])
  repeat ((first | refine V.s1 ?_ | ((try ((with_reducible refine .ext ?_); (conv => whnf); (try simp only [Nat.zero_add, Bool.not_true, Bool.true_or, Bool.not_false, hx]))); (with_reducible refine call_intro (r := ?_) ?_ ?_); rotate_left; (focus (first | exact (s0))); (conv => whnf))); (try simp only [Nat.zero_add, Bool.not_true, Bool.true_or, Bool.not_false, hx]))
  (first | refine And.intro (fun _ h => by cases h) ?_ | refine ⟨_, offS rfl, ?_⟩ | refine ⟨_, offA rfl, ?_⟩ | refine ⟨_, offR rfl, ?_⟩ | refine ⟨_, offV rfl, ?_⟩)
  (conv => whnf)
  (try simp only [Nat.zero_add, Bool.not_true, Bool.true_or, Bool.not_false, hx])
  repeat ((first | refine V.s1 ?_ | ((try ((with_reducible refine .ext ?_); (conv => whnf); (try simp only [Nat.zero_add, Bool.not_true, Bool.true_or, Bool.not_false, hx]))); (with_reducible refine call_intro (r := ?_) ?_ ?_); rotate_left; (focus (first | exact (s0))); (conv => whnf))); (try simp only [Nat.zero_add, Bool.not_true, Bool.true_or, Bool.not_false, hx]))
  (first | refine And.intro (fun _ h => by cases h) ?_ | refine ⟨_, offS rfl, ?_⟩ | refine ⟨_, offA rfl, ?_⟩ | refine ⟨_, offR rfl, ?_⟩ | refine ⟨_, offV rfl, ?_⟩)
  (conv => whnf)
  (try simp only [Nat.zero_add, Bool.not_true, Bool.true_or, Bool.not_false, hx])
  repeat ((first | refine V.s1 ?_ | ((try ((with_reducible refine .ext ?_); (conv => whnf); (try simp only [Nat.zero_add, Bool.not_true, Bool.true_or, Bool.not_false, hx]))); (with_reducible refine call_intro (r := ?_) ?_ ?_); rotate_left; (focus (first | exact (s0))); (conv => whnf))); (try simp only [Nat.zero_add, Bool.not_true, Bool.true_or, Bool.not_false, hx]))
  (first | refine And.intro (fun _ h => by cases h) ?_ | refine ⟨_, offS rfl, ?_⟩ | refine ⟨_, offA rfl, ?_⟩ | refine ⟨_, offR rfl, ?_⟩ | refine ⟨_, offV rfl, ?_⟩)
  (conv => whnf)
  (try simp only [Nat.zero_add, Bool.not_true, Bool.true_or, Bool.not_false, hx])
  repeat ((first | refine V.s1 ?_ | ((try ((with_reducible refine .ext ?_); (conv => whnf); (try simp only [Nat.zero_add, Bool.not_true, Bool.true_or, Bool.not_false, hx]))); (with_reducible refine call_intro (r := ?_) ?_ ?_); rotate_left; (focus (first | exact (s0))); (conv => whnf))); (try simp only [Nat.zero_add, Bool.not_true, Bool.true_or, Bool.not_false, hx]))
  (first | refine And.intro (fun _ h => by cases h) ?_ | refine ⟨_, offS rfl, ?_⟩ | refine ⟨_, offA rfl, ?_⟩ | refine ⟨_, offR rfl, ?_⟩ | refine ⟨_, offV rfl, ?_⟩)
  (conv => whnf)
  (try simp only [Nat.zero_add, Bool.not_true, Bool.true_or, Bool.not_false, hx])
  repeat ((first | refine V.s1 ?_ | ((try ((with_reducible refine .ext ?_); (conv => whnf); (try simp only [Nat.zero_add, Bool.not_true, Bool.true_or, Bool.not_false, hx]))); (with_reducible refine call_intro (r := ?_) ?_ ?_); rotate_left; (focus (first | exact (s0))); (conv => whnf))); (try simp only [Nat.zero_add, Bool.not_true, Bool.true_or, Bool.not_false, hx]))
  (first | refine And.intro (fun _ h => by cases h) ?_ | refine ⟨_, offS rfl, ?_⟩ | refine ⟨_, offA rfl, ?_⟩ | refine ⟨_, offR rfl, ?_⟩ | refine ⟨_, offV rfl, ?_⟩)
  (conv => whnf)
  (try simp only [Nat.zero_add, Bool.not_true, Bool.true_or, Bool.not_false, hx])
  repeat ((first | refine V.s1 ?_ | ((try ((with_reducible refine .ext ?_); (conv => whnf); (try simp only [Nat.zero_add, Bool.not_true, Bool.true_or, Bool.not_false, hx]))); (with_reducible refine call_intro (r := ?_) ?_ ?_); rotate_left; (focus (first | exact (s0))); (conv => whnf))); (try simp only [Nat.zero_add, Bool.not_true, Bool.true_or, Bool.not_false, hx]))
  (first | refine And.intro (fun _ h => by cases h) ?_ | refine ⟨_, offS rfl, ?_⟩ | refine ⟨_, offA rfl, ?_⟩ | refine ⟨_, offR rfl, ?_⟩ | refine ⟨_, offV rfl, ?_⟩)
  (conv => whnf)
  (try simp only [Nat.zero_add, Bool.not_true, Bool.true_or, Bool.not_false, hx])
  repeat ((first | refine V.s1 ?_ | ((try ((with_reducible refine .ext ?_); (conv => whnf); (try simp only [Nat.zero_add, Bool.not_true, Bool.true_or, Bool.not_false, hx]))); (with_reducible refine call_intro (r := ?_) ?_ ?_); rotate_left; (focus (first | exact (s0))); (conv => whnf))); (try simp only [Nat.zero_add, Bool.not_true, Bool.true_or, Bool.not_false, hx]))
  refine Cnd.split (CondB.mk (fun hq => ?_) (fun hq => ?_))
  · (conv => whnf)
    (try simp only [Nat.zero_add])
    repeat ((first | refine V.s1 ?_); (try simp only [Nat.zero_add]))
    done
  · simp at hq
theorem fcl_pan2 (a0 b0 a1 b1 a2 b2 : List UInt8) (gx gy : Int) (h0 : ¬ gx < 0) (h : gy < 0) (s0 : Called Tryz.prog 54 [.agg [.str a0, .str b0]] (.int .i64 gx)) (s1 : Called Tryz.prog 54 [.agg [.str a1, .str b1]] (.int .i64 gy)) : Panics Tryz.prog 53 [.ref [.str a0, .str b0], .ref [.str a1, .str b1], .ref [.str a2, .str b2]] (.iface 38 (.int .i64 2)) := by
  have hx : decide (gx < 0) = false := decide_eq_false h0
  have hy : decide (gy < 0) = true := decide_eq_true h
  refine panics_of_run tbOk 6 ⟨Tryz.func53, rfl, rfl, Nat.le_of_ble_eq_true rfl⟩ ?_
  (conv => whnf)
  (conv => whnf)
  (try simp only [Nat.zero_add, Bool.not_true, Bool.true_or, Bool.not_false, hx, hy])
  repeat ((first | refine V.s1 ?_ | ((try ((with_reducible refine .ext ?_); (conv => whnf); (try simp only [Nat.zero_add, Bool.not_true, Bool.true_or, Bool.not_false, hx, hy]))); (with_reducible refine call_intro (r := ?_) ?_ ?_); rotate_left; (focus (first | exact (s0) | exact (s1))); (conv => whnf))); (try simp only [Nat.zero_add, Bool.not_true, Bool.true_or, Bool.not_false, hx, hy]))
  (first | refine And.intro (fun _ h => by cases h) ?_ | refine ⟨_, offS rfl, ?_⟩ | refine ⟨_, offA rfl, ?_⟩ | refine ⟨_, offR rfl, ?_⟩ | refine ⟨_, offV rfl, ?_⟩)
  (conv => whnf)
  (try simp only [Nat.zero_add, Bool.not_true, Bool.true_or, Bool.not_false, hx, hy])
  repeat ((first | refine V.s1 ?_ | ((try ((with_reducible refine .ext ?_); (conv => whnf); (try simp only [Nat.zero_add, Bool.not_true, Bool.true_or, Bool.not_false, hx, hy]))); (with_reducible refine call_intro (r := ?_) ?_ ?_); rotate_left; (focus (first | exact (s0) | exact (s1))); (conv => whnf))); (try simp only [Nat.zero_add, Bool.not_true, Bool.true_or, Bool.not_false, hx, hy]))
  (first | refine And.intro (fun _ h => by cases h) ?_ | refine ⟨_, offS rfl, ?_⟩ | refine ⟨_, offA rfl, ?_⟩ | refine ⟨_, offR rfl, ?_⟩ | refine ⟨_, offV rfl, ?_⟩)
  (conv => whnf)
  (try simp only [Nat.zero_add, Bool.not_true, Bool.true_or, Bool.not_false, hx, hy])
  repeat ((first | refine V.s1 ?_ | ((try ((with_reducible refine .ext ?_); (conv => whnf); (try simp only [Nat.zero_add, Bool.not_true, Bool.true_or, Bool.not_false, hx, hy]))); (with_reducible refine call_intro (r := ?_) ?_ ?_); rotate_left; (focus (first | exact (s0) | exact (s1))); (conv => whnf))); (try simp only [Nat.zero_add, Bool.not_true, Bool.true_or, Bool.not_false, hx, hy]))
  (first | refine And.intro (fun _ h => by cases h) ?_ | refine ⟨_, offS rfl, ?_⟩ | refine ⟨_, offA rfl, ?_⟩ | refine ⟨_, offR rfl, ?_⟩ | refine ⟨_, offV rfl, ?_⟩)
  (conv => whnf)
  (try simp only [Nat.zero_add, Bool.not_true, Bool.true_or, Bool.not_false, hx, hy])
  repeat ((first | refine V.s1 ?_ | ((try ((with_reducible refine .ext ?_); (conv => whnf); (try simp only [Nat.zero_add, Bool.not_true, Bool.true_or, Bool.not_false, hx, hy]))); (with_reducible refine call_intro (r := ?_) ?_ ?_); rotate_left; (focus (first | exact (s0) | exact (s1))); (conv => whnf))); (try simp only [Nat.zero_add, Bool.not_true, Bool.true_or, Bool.not_false, hx, hy]))
  (first | refine And.intro (fun _ h => by cases h) ?_ | refine ⟨_, offS rfl, ?_⟩ | refine ⟨_, offA rfl, ?_⟩ | refine ⟨_, offR rfl, ?_⟩ | refine ⟨_, offV rfl, ?_⟩)
  (conv => whnf)
  (try simp only [Nat.zero_add, Bool.not_true, Bool.true_or, Bool.not_false, hx, hy])
  repeat ((first | refine V.s1 ?_ | ((try ((with_reducible refine .ext ?_); (conv => whnf); (try simp only [Nat.zero_add, Bool.not_true, Bool.true_or, Bool.not_false, hx, hy]))); (with_reducible refine call_intro (r := ?_) ?_ ?_); rotate_left; (focus (first | exact (s0) | exact (s1))); (conv => whnf))); (try simp only [Nat.zero_add, Bool.not_true, Bool.true_or, Bool.not_false, hx, hy]))
  refine Cnd.split (CondB.mk (fun hq => ?_) (fun hq => ?_))
  · (conv => whnf)
    (try simp only [Nat.zero_add])
    repeat ((first | refine V.s1 ?_); (try simp only [Nat.zero_add]))
    done
  · simp at hq
theorem fcl_pan3 (a0 b0 a1 b1 a2 b2 : List UInt8) (gx gy gl : Int) (h0 : ¬ gx < 0) (h1 : ¬ gy < 0) (h : gl < 0) (s0 : Called Tryz.prog 54 [.agg [.str a0, .str b0]] (.int .i64 gx)) (s1 : Called Tryz.prog 54 [.agg [.str a1, .str b1]] (.int .i64 gy)) (s2 : Called Tryz.prog 54 [.agg [.str a2, .str b2]] (.int .i64 gl)) : Panics Tryz.prog 53 [.ref [.str a0, .str b0], .ref [.str a1, .str b1], .ref [.str a2, .str b2]] (.iface 38 (.int .i64 2)) := by
  have hx : decide (gx < 0) = false := decide_eq_false h0
  have hy : decide (gy < 0) = false := decide_eq_false h1
  have hl : decide (gl < 0) = true := decide_eq_true h
  refine panics_of_run tbOk 6 ⟨Tryz.func53, rfl, rfl, Nat.le_of_ble_eq_true rfl⟩ ?_
  (conv => whnf)
  (conv => whnf)
  (try simp only [Nat.zero_add, Bool.not_true, Bool.true_or, Bool.not_false, hx, hy, hl])
  repeat ((first | refine V.s1 ?_ | ((try ((with_reducible refine .ext ?_); (conv => whnf); (try simp only [Nat.zero_add, Bool.not_true, Bool.true_or, Bool.not_false, hx, hy, hl]))); (with_reducible refine call_intro (r := ?_) ?_ ?_); rotate_left; (focus (first | exact (s0) | exact (s1) | exact (s2))); (conv => whnf))); (try simp only [Nat.zero_add, Bool.not_true, Bool.true_or, Bool.not_false, hx, hy, hl]))
  (first | refine And.intro (fun _ h => by cases h) ?_ | refine ⟨_, offS rfl, ?_⟩ | refine ⟨_, offA rfl, ?_⟩ | refine ⟨_, offR rfl, ?_⟩ | refine ⟨_, offV rfl, ?_⟩)
  (conv => whnf)
  (try simp only [Nat.zero_add, Bool.not_true, Bool.true_or, Bool.not_false, hx, hy, hl])
  repeat ((first | refine V.s1 ?_ | ((try ((with_reducible refine .ext ?_); (conv => whnf); (try simp only [Nat.zero_add, Bool.not_true, Bool.true_or, Bool.not_false, hx, hy, hl]))); (with_reducible refine call_intro (r := ?_) ?_ ?_); rotate_left; (focus (first | exact (s0) | exact (s1) | exact (s2))); (conv => whnf))); (try simp only [Nat.zero_add, Bool.not_true, Bool.true_or, Bool.not_false, hx, hy, hl]))
  (first | refine And.intro (fun _ h => by cases h) ?_ | refine ⟨_, offS rfl, ?_⟩ | refine ⟨_, offA rfl, ?_⟩ | refine ⟨_, offR rfl, ?_⟩ | refine ⟨_, offV rfl, ?_⟩)
  (conv => whnf)
  (try simp only [Nat.zero_add, Bool.not_true, Bool.true_or, Bool.not_false, hx, hy, hl])
  repeat ((first | refine V.s1 ?_ | ((try ((with_reducible refine .ext ?_); (conv => whnf); (try simp only [Nat.zero_add, Bool.not_true, Bool.true_or, Bool.not_false, hx, hy, hl]))); (with_reducible refine call_intro (r := ?_) ?_ ?_); rotate_left; (focus (first | exact (s0) | exact (s1) | exact (s2))); (conv => whnf))); (try simp only [Nat.zero_add, Bool.not_true, Bool.true_or, Bool.not_false, hx, hy, hl]))
  (first | refine And.intro (fun _ h => by cases h) ?_ | refine ⟨_, offS rfl, ?_⟩ | refine ⟨_, offA rfl, ?_⟩ | refine ⟨_, offR rfl, ?_⟩ | refine ⟨_, offV rfl, ?_⟩)
  (conv => whnf)
  (try simp only [Nat.zero_add, Bool.not_true, Bool.true_or, Bool.not_false, hx, hy, hl])
  repeat ((first | refine V.s1 ?_ | ((try ((with_reducible refine .ext ?_); (conv => whnf); (try simp only [Nat.zero_add, Bool.not_true, Bool.true_or, Bool.not_false, hx, hy, hl]))); (with_reducible refine call_intro (r := ?_) ?_ ?_); rotate_left; (focus (first | exact (s0) | exact (s1) | exact (s2))); (conv => whnf))); (try simp only [Nat.zero_add, Bool.not_true, Bool.true_or, Bool.not_false, hx, hy, hl]))
  refine Cnd.split (CondB.mk (fun hq => ?_) (fun hq => ?_))
  · (conv => whnf)
    (try simp only [Nat.zero_add])
    repeat ((first | refine V.s1 ?_); (try simp only [Nat.zero_add]))
    done
  · simp at hq
theorem fcl_pan4 (a0 b0 a1 b1 a2 b2 : List UInt8) (c0 d0 c1 d1 : List UInt8) (gx gy gl : Int) (h0 : ¬ gx < 0) (h1 : ¬ gy < 0) (h2 : ¬ gl < 0) (s0 : Called Tryz.prog 54 [.agg [.str a0, .str b0]] (.int .i64 gx)) (s1 : Called Tryz.prog 54 [.agg [.str a1, .str b1]] (.int .i64 gy)) (s2 : Called Tryz.prog 54 [.agg [.str a2, .str b2]] (.int .i64 gl)) (m : Called Tryz.prog 56 [.agg [.str a0, .str b0], .agg [.str a1, .str b1]] (.agg [.str c0, .str d0])) (r1 : Called Tryz.prog 51 [.int .i64 1, .int .i64 1] (.agg [.str c1, .str d1])) (v : Called Tryz.prog 55 [.agg [.str c0, .str d0], .agg [.str c1, .str d1]] (.bool true)) : Panics Tryz.prog 53 [.ref [.str a0, .str b0], .ref [.str a1, .str b1], .ref [.str a2, .str b2]] (.iface 38 (.int .i64 2)) := by
  have hx : decide (gx < 0) = false := decide_eq_false h0
  have hy : decide (gy < 0) = false := decide_eq_false h1
  have hl : decide (gl < 0) = false := decide_eq_false h2
  refine panics_of_run tbOk 6 ⟨Tryz.func53, rfl, rfl, Nat.le_of_ble_eq_true rfl⟩ ?_
  (conv => whnf)
  (conv => whnf)
  (try simp only [Nat.zero_add, Bool.not_true, Bool.true_or, Bool.not_false, hx, hy, hl])
  repeat ((first | refine V.s1 ?_ | ((try ((with_reducible refine .ext ?_); (conv => whnf); (try simp only [Nat.zero_add, Bool.not_true, Bool.true_or, Bool.not_false, hx, hy, hl]))); (with_reducible refine call_intro (r := ?_) ?_ ?_); rotate_left; (focus (first | exact (s0) | exact (s1) | exact (s2) | exact (m) | exact (r1) | exact (v))); (conv => whnf))); (try simp only [Nat.zero_add, Bool.not_true, Bool.true_or, Bool.not_false, hx, hy, hl]))
  refine Cnd.split (CondB.mk (fun hq => ?_) (fun hq => ?_))
  · (conv => whnf)
    (try simp only [Nat.zero_add])
    repeat ((first | refine V.s1 ?_); (try simp only [Nat.zero_add]))
    done
  · simp at hq
theorem fcl_pan5 (a0 b0 a1 b1 a2 b2 : List UInt8) (c0 d0 c1 d1 : List UInt8) (gx gl : Int) (h0 : ¬ gx < 0) (h1 : ¬ (0 : Int) < 0) (h2 : ¬ gl < 0) (s0 : Called Tryz.prog 54 [.agg [.str a0, .str b0]] (.int .i64 gx)) (s1 : Called Tryz.prog 54 [.agg [.str a1, .str b1]] (.int .i64 0)) (s2 : Called Tryz.prog 54 [.agg [.str a2, .str b2]] (.int .i64 gl)) (m : Called Tryz.prog 56 [.agg [.str a0, .str b0], .agg [.str a1, .str b1]] (.agg [.str c0, .str d0])) (r1 : Called Tryz.prog 51 [.int .i64 1, .int .i64 1] (.agg [.str c1, .str d1])) (v : Called Tryz.prog 55 [.agg [.str c0, .str d0], .agg [.str c1, .str d1]] (.bool false)) : Panics Tryz.prog 53 [.ref [.str a0, .str b0], .ref [.str a1, .str b1], .ref [.str a2, .str b2]] (.iface 38 (.int .i64 7)) := by
  have hx : decide (gx < 0) = false := decide_eq_false h0
  have hl : decide (gl < 0) = false := decide_eq_false h2
  refine panics_of_run tbOk 6 ⟨Tryz.func53, rfl, rfl, Nat.le_of_ble_eq_true rfl⟩ ?_
  (conv => whnf)
  (conv => whnf)
  (try simp only [Nat.zero_add, Bool.not_true, Bool.true_or, Bool.not_false, hx, hl])
  repeat ((first | refine V.s1 ?_ | ((try ((with_reducible refine .ext ?_); (conv => whnf); (try simp only [Nat.zero_add, Bool.not_true, Bool.true_or, Bool.not_false, hx, hl]))); (with_reducible refine call_intro (r := ?_) ?_ ?_); rotate_left; (focus (first | exact (s0) | exact (s1) | exact (s2) | exact (m) | exact (r1) | exact (v))); (conv => whnf))); (try simp only [Nat.zero_add, Bool.not_true, Bool.true_or, Bool.not_false, hx, hl]))
  refine Cnd.split (CondB.mk (fun hq => ?_) (fun hq => ?_))
  · (conv => whnf)
    (try simp only [Nat.zero_add])
    repeat ((first | refine V.s1 ?_); (try simp only [Nat.zero_add]))
    done
  · simp at hq
end Go.Proofs.YtfilfmadapjajaaGreatDoor
end
section
namespace Go.Proofs.YtfilfmadapjajaaGreatDoor
open Go Go.V Go.Nb
theorem fcl_ok (a0 b0 a1 b1 a2 b2 c0 d0 c1 d1 u0 v0 u1 v1 u2 v2 : List UInt8) (gx gy gl : Int) (h0 : ¬ gx < 0) (h1 : ¬ gy < 0) (h2 : ¬ gl < 0) (h3 : ¬ gy = 0)
    (s0 : Called Tryz.prog 54 [.agg [.str a0, .str b0]] (.int .i64 gx)) (s1 : Called Tryz.prog 54 [.agg [.str a1, .str b1]] (.int .i64 gy)) (s2 : Called Tryz.prog 54 [.agg [.str a2, .str b2]] (.int .i64 gl))
    (m : Called Tryz.prog 56 [.agg [.str a0, .str b0], .agg [.str a1, .str b1]] (.agg [.str c0, .str d0])) (r1 : Called Tryz.prog 51 [.int .i64 1, .int .i64 1] (.agg [.str c1, .str d1])) (v : Called Tryz.prog 55 [.agg [.str c0, .str d0], .agg [.str c1, .str d1]] (.bool false))
    (cl : Called Tryz.prog 50 [.agg [.str a0, .str b0], .agg [.str a1, .str b1], .agg [.str a2, .str b2]] (.agg [.str u0, .str v0, .str u1, .str v1, .str u2, .str v2])) :
    Called Tryz.prog 53 [.ref [.str a0, .str b0], .ref [.str a1, .str b1], .ref [.str a2, .str b2]] (.agg [.str u0, .str v0, .str u1, .str v1, .str u2, .str v2]) := by
  have hx : decide (gx < 0) = false := decide_eq_false h0
  have hy : decide (gy < 0) = false := decide_eq_false h1
  have hl : decide (gl < 0) = false := decide_eq_false h2
  refine called_of_run tbOk 6 ⟨Tryz.func53, rfl, rfl, Nat.le_of_ble_eq_true rfl⟩ ?_
  (conv => whnf)
  (conv => whnf)
  (try simp only [Nat.zero_add, Bool.not_true, Bool.true_or, Bool.not_false, hx, hy, hl])
  repeat ((first | refine V.s1 ?_ | ((try ((with_reducible refine .ext ?_); (conv => whnf); (try simp only [Nat.zero_add, Bool.not_true, Bool.true_or, Bool.not_false, hx, hy, hl]))); (with_reducible refine call_intro (r := ?_) ?_ ?_); rotate_left; (focus (first | exact (s0) | exact (s1) | exact (s2) | exact (m) | exact (r1) | exact (v))); (conv => whnf))); (try simp only [Nat.zero_add, Bool.not_true, Bool.true_or, Bool.not_false, hx, hy, hl]))
  refine Cnd.split (CondB.mk (fun hq => ?_) (fun hq => ?_))
  · exfalso
    simp at hq
    exact h3 hq
  (conv => whnf)
  (try simp only [Nat.zero_add])
  repeat ((first | refine V.s1 ?_ | ((try ((with_reducible refine .ext ?_); (conv => whnf); (try simp only [Nat.zero_add]))); (with_reducible refine call_intro (r := ?_) ?_ ?_); rotate_left; (focus (first | exact (cl))); (conv => whnf))); (try simp only [Nat.zero_add]))
  exact Fin.of rfl
theorem lfrom_no (a0 b0 a1 b1 a2 b2 : List UInt8) (e : Int) (he : e ≠ 0) (fr : Called Tryz.prog 43 [.slf 2 3 (fun j => List.take 2 (List.drop (j * 2) [.str a0, .str b0, .str a1, .str b1, .str a2, .str b2]))] (.int .i64 e)) :
    Called Tryz.prog 25 [.agg [.str a0, .str b0], .agg [.str a1, .str b1], .agg [.str a2, .str b2]] (.tup [.agg [.str [], .str [], .str [], .str [], .str [], .str []], .int .i64 e]) := by
  refine called_of_run tbOk 6 ⟨Tryz.func25, rfl, rfl, Nat.le_of_ble_eq_true rfl⟩ ?_
  (conv => whnf)
  (conv => whnf)
  (try simp only [Nat.zero_add])
  repeat ((first | refine V.s1 ?_ | ((try ((with_reducible refine .ext ?_); (conv => whnf); (try simp only [Nat.zero_add]))); (with_reducible refine call_intro (r := ?_) ?_ ?_); rotate_left; (focus (first | exact (fr))); (conv => whnf))); (try simp only [Nat.zero_add]))
  refine Cnd.split (CondB.mk (fun hq => ?_) (fun hq => ?_))
  · (conv => whnf)
    (try simp only [Nat.zero_add])
    repeat ((first | refine V.s1 ?_); (try simp only [Nat.zero_add]))
    exact Fin.of rfl
  · exfalso
    simp at hq
    exact he hq
theorem lfrom_go (a0 b0 a1 b1 a2 b2 u0 v0 u1 v1 u2 v2 : List UInt8) (e : Int) (fr : Called Tryz.prog 43 [.slf 2 3 (fun j => List.take 2 (List.drop (j * 2) [.str a0, .str b0, .str a1, .str b1, .str a2, .str b2]))] (.int .i64 0))
    (g : Called Tryz.prog 48 [.fn 53 [] [.ref [.str a0, .str b0], .ref [.str a1, .str b1], .ref [.str a2, .str b2]]] (.tup [.agg [.str u0, .str v0, .str u1, .str v1, .str u2, .str v2], .int .i64 e])) :
    Called Tryz.prog 25 [.agg [.str a0, .str b0], .agg [.str a1, .str b1], .agg [.str a2, .str b2]] (.tup [.agg [.str u0, .str v0, .str u1, .str v1, .str u2, .str v2], .int .i64 e]) := by
  refine called_of_run tbOk 6 ⟨Tryz.func25, rfl, rfl, Nat.le_of_ble_eq_true rfl⟩ ?_
  (conv => whnf)
  (conv => whnf)
  (try simp only [Nat.zero_add])
  repeat ((first | refine V.s1 ?_ | ((try ((with_reducible refine .ext ?_); (conv => whnf); (try simp only [Nat.zero_add]))); (with_reducible refine call_intro (r := ?_) ?_ ?_); rotate_left; (focus (first | exact (fr) | exact (g))); (conv => whnf))); (try simp only [Nat.zero_add]))
  exact Fin.of rfl
theorem ordQ_gt1 (p q : Rat) : decide (ordQ p q > 0) = decide (q < p) := by
  refine decide_eq_decide.2 ?_
  unfold ordQ
  by_cases h : p < q
  · rw [if_pos h]
    exact ⟨fun h' => by omega, fun h' => absurd (Rat.le_of_lt h') (Rat.not_le.2 h)⟩
  · rw [if_neg h]
    by_cases h2 : p = q
    · rw [if_pos h2, h2]
      exact ⟨fun h' => by omega, fun h' => absurd h' Rat.lt_irrefl⟩
    · rw [if_neg h2]
      exact ⟨fun _ => Rat.lt_of_le_of_ne (Rat.not_lt.1 h) (fun e => h2 e.symm), fun _ => by omega⟩
theorem lfrom_c {n : Nat} {x y l : Tx} (bx : BdX n x) (b_y : BdX n y) (bl : BdX n l) (h0 : 0 < n ∧ n ≤ 100) : Called Tryz.prog 25 [txD x, txD y, txD l] (fromX x y l) := by
  have f1 := fractions3 x.1 x.2 y.1 y.2 l.1 l.2 _ _ _ (fcheck_c _ _ bx.1.1 bx.1.2) (fcheck_c _ _ b_y.1.1 b_y.1.2) (fcheck_c _ _ bl.1.1 bl.1.2)
  rw [fst3_ok] at f1
  have hc : (okP x.1 x.2 && okP y.1 y.2 && okP l.1 l.2) = (okX x && okX y && okX l) := rfl
  rw [hc] at f1
  unfold fromX
  by_cases h : (okX x && okX y && okX l) = true
  · rw [if_pos h] at f1 ⊢
    simp only [Bool.and_eq_true] at h
    obtain ⟨⟨hx, hy⟩, hl⟩ := h
    have qx := bx.2 hx
    have qy := b_y.2 hy
    have ql := bl.2 hl
    have e0 := txD_q hx
    have e1 := txD_q hy
    have e2 := txD_q hl
    have s0 := lsign qx ⟨h0.1, by omega⟩
    have s1 := lsign qy ⟨h0.1, by omega⟩
    have s2 := lsign ql ⟨h0.1, by omega⟩
    have m := ladd qx qy h0.1 h0.1 (by omega)
    have r1 := lratio (n := 1) (m := 1) (by omega) (by omega)
    have v := labove (qx.add qy) fq_one ⟨by omega, by omega⟩ ⟨by omega, by omega⟩
    rw [one_divInt] at r1
    rw [ordQ_gt1] at v
    rw [← e0] at s0 m
    rw [← e1] at s1 m
    rw [← e2] at s2
    unfold txD at s0 s1 s2 m
    unfold frT at m r1 v
    have hpan : ∀ z : Int, InR .i64 z → Panics Tryz.prog 53 [.ref [.str x.1, .str x.2], .ref [.str y.1, .str y.2], .ref [.str l.1, .str l.2]] (.iface 38 (.int .i64 z)) → Called Tryz.prog 25 [txD x, txD y, txD l] (triE no3 z) :=
      fun z hz p => lfrom_go _ _ _ _ _ _ _ _ _ _ _ _ _ f1 (guard_tri_pan hz p)
    have i2 : InR .i64 2 := by simp [InR, V.lo, V.hi]
    have i7 : InR .i64 7 := by simp [InR, V.lo, V.hi]
    by_cases g0 : (qX x).num < 0
    · rw [if_pos (.inl g0)]
      exact hpan 2 i2 (fcl_pan1 _ _ _ _ _ _ _ (by rw [sgn_lt]; exact g0) s0)
    · by_cases g1 : (qX y).num < 0
      · rw [if_pos (.inr (.inl g1))]
        exact hpan 2 i2 (fcl_pan2 _ _ _ _ _ _ _ _ (by rw [sgn_lt]; exact g0) (by rw [sgn_lt]; exact g1) s0 s1)
      · by_cases g2 : (qX l).num < 0
        · rw [if_pos (.inr (.inr (.inl g2)))]
          exact hpan 2 i2 (fcl_pan3 _ _ _ _ _ _ _ _ _ (by rw [sgn_lt]; exact g0) (by rw [sgn_lt]; exact g1) (by rw [sgn_lt]; exact g2) s0 s1 s2)
        · by_cases g3 : 1 < qX x + qX y
          · rw [if_pos (.inr (.inr (.inr g3)))]
            rw [decide_eq_true g3] at v
            exact hpan 2 i2 (fcl_pan4 _ _ _ _ _ _ _ _ _ _ _ _ _ (by rw [sgn_lt]; exact g0) (by rw [sgn_lt]; exact g1) (by rw [sgn_lt]; exact g2) s0 s1 s2 m r1 v)
          · rw [if_neg (fun hh => by
              rcases hh with hh | hh | hh | hh
              · exact g0 hh
              · exact g1 hh
              · exact g2 hh
              · exact g3 hh)]
            rw [decide_eq_false g3] at v
            by_cases g4 : (qX y).num = 0
            · rw [if_pos g4]
              rw [g4, show Int.sign 0 = 0 from rfl] at s1
              exact hpan 7 i7 (fcl_pan5 _ _ _ _ _ _ _ _ _ _ _ _ (by rw [sgn_lt]; exact g0) (by omega) (by rw [sgn_lt]; exact g2) s0 s1 s2 m r1 v)
            · rw [if_neg g4]
              have cl := lcolour qx qy ql g4 h0
              rw [← e0, ← e1, ← e2] at cl
              unfold txD triQ at cl
              have c := fcl_ok _ _ _ _ _ _ _ _ _ _ _ _ _ _ _ _ _ _ _ (by rw [sgn_lt]; exact g0) (by rw [sgn_lt]; exact g1) (by rw [sgn_lt]; exact g2) (by rw [sgn_eq]; exact g4) s0 s1 s2 m r1 v cl
              exact lfrom_go _ _ _ _ _ _ _ _ _ _ _ _ _ f1 (guard_tri_ok c)
  · rw [if_neg h] at f1 ⊢
    exact lfrom_no _ _ _ _ _ _ _ (by omega) f1
end Go.Proofs.YtfilfmadapjajaaGreatDoor
end
section
namespace Go.Proofs.YtfilfmadapjajaaGreatDoor
open Go Go.V Go.Nb
theorem zZ16_0 : type_of% @Nat.zero_add ∧ type_of% @tn0 ∧ type_of% @tn1 ∧ type_of% @tn2 := ⟨@Nat.zero_add, @tn0, @tn1, @tn2⟩
theorem mix1_0 (c d t u a0 b0 a1 b1 a2 b2 e0 f0 e1 f1 e2 f2 r1 r2 p1 p2 q1 q2 w1 w2 : List UInt8)
    (s : Called Tryz.prog 68 [.agg [.str c, .str d], .agg [.str t, .str u]] (.agg [.str r1, .str r2])) (m1 : Called Tryz.prog 71 [.agg [.str r1, .str r2], .agg [.str a0, .str b0]] (.agg [.str p1, .str p2]))
    (m2 : Called Tryz.prog 71 [.agg [.str t, .str u], .agg [.str e0, .str f0]] (.agg [.str q1, .str q2])) (ad : Called Tryz.prog 56 [.agg [.str p1, .str p2], .agg [.str q1, .str q2]] (.agg [.str w1, .str w2])) :
    Called Tryz.prog 70 [.int .i64 0, .ref [.str c, .str d], .ref [.str t, .str u], .ref [.str a0, .str b0, .str a1, .str b1, .str a2, .str b2], .ref [.str e0, .str f0, .str e1, .str f1, .str e2, .str f2]] (.agg [.str w1, .str w2]) := by
  refine called_of_run tbOk 6 ⟨Tryz.func70, rfl, rfl, Nat.le_of_ble_eq_true rfl⟩ ?_
  (conv => whnf)
  (conv => whnf)
  (try simp only [Nat.zero_add])
  repeat ((first | refine V.s1 ?_); (try simp only [Nat.zero_add]))
  refine ⟨(.take 0 (.take 1 (.take 3 (.take 4 (.take 5 (.take 7 (.take 8 (.take 9 (.take 10 (.ev (.cons 2 [10, 9, 8, 7, 5, 4, 3] (.ev (.cons 6 [10, 9, 8, 7] (.ev (.cons 11 [] (.ev (.cons 12 [] (.ev (.cons 13 [] (.done) (.nil))) (.nil))) (.nil))) (.nil))) (.nil)))))))))))), [], ⟨by kernel_rfl, by kernel_rfl, by kernel_rfl, by kernel_rfl⟩, ?_⟩
  refine drw_meet [] [(6, .box [.str w1, .str w2])] ?_ ?_
  · (conv => whnf); (try simp only [zZ16_0])
    repeat' (first | exact V.wk | ((first | refine V.s1 ?_ | ((with_reducible refine recheck_and ?_ ?_); (focus ((conv => whnf); (try simp only [zZ16_0]); (repeat (refine V.s1 ?_; (try simp only [zZ16_0]))); exact ⟨rfl⟩)); (conv => whnf)) | ((try ((with_reducible refine .ext ?_); (conv => whnf); (try simp only [zZ16_0]))); (with_reducible refine call_intro (r := ?_) ?_ ?_); rotate_left; (focus (first | exact (s) | exact (m1) | exact (m2) | exact (ad))); (conv => whnf))); (try simp only [zZ16_0])) | (refine And.intro ?_ ?_ <;> (conv => whnf); (try simp only [zZ16_0])))
  (conv => whnf)
  (try simp only [Nat.zero_add])
  repeat ((first | refine V.s1 ?_); (try simp only [Nat.zero_add]))
  exact Fin.of rfl
theorem mix1_1 (c d t u a0 b0 a1 b1 a2 b2 e0 f0 e1 f1 e2 f2 r1 r2 p1 p2 q1 q2 w1 w2 : List UInt8)
    (s : Called Tryz.prog 68 [.agg [.str c, .str d], .agg [.str t, .str u]] (.agg [.str r1, .str r2])) (m1 : Called Tryz.prog 71 [.agg [.str r1, .str r2], .agg [.str a1, .str b1]] (.agg [.str p1, .str p2]))
    (m2 : Called Tryz.prog 71 [.agg [.str t, .str u], .agg [.str e1, .str f1]] (.agg [.str q1, .str q2])) (ad : Called Tryz.prog 56 [.agg [.str p1, .str p2], .agg [.str q1, .str q2]] (.agg [.str w1, .str w2])) :
    Called Tryz.prog 70 [.int .i64 1, .ref [.str c, .str d], .ref [.str t, .str u], .ref [.str a0, .str b0, .str a1, .str b1, .str a2, .str b2], .ref [.str e0, .str f0, .str e1, .str f1, .str e2, .str f2]] (.agg [.str w1, .str w2]) := by
  refine called_of_run tbOk 6 ⟨Tryz.func70, rfl, rfl, Nat.le_of_ble_eq_true rfl⟩ ?_
  (conv => whnf)
  (conv => whnf)
  (try simp only [Nat.zero_add])
  repeat ((first | refine V.s1 ?_); (try simp only [Nat.zero_add]))
  refine ⟨(.take 0 (.take 1 (.take 3 (.take 4 (.take 5 (.take 7 (.take 8 (.take 9 (.take 10 (.ev (.cons 2 [10, 9, 8, 7, 5, 4, 3] (.ev (.cons 6 [10, 9, 8, 7] (.ev (.cons 11 [] (.ev (.cons 12 [] (.ev (.cons 13 [] (.done) (.nil))) (.nil))) (.nil))) (.nil))) (.nil)))))))))))), [], ⟨by kernel_rfl, by kernel_rfl, by kernel_rfl, by kernel_rfl⟩, ?_⟩
  refine drw_meet [] [(6, .box [.str w1, .str w2])] ?_ ?_
  · (conv => whnf); (try simp only [zZ16_0])
    repeat' (first | exact V.wk | ((first | refine V.s1 ?_ | ((with_reducible refine recheck_and ?_ ?_); (focus ((conv => whnf); (try simp only [zZ16_0]); (repeat (refine V.s1 ?_; (try simp only [zZ16_0]))); exact ⟨rfl⟩)); (conv => whnf)) | ((try ((with_reducible refine .ext ?_); (conv => whnf); (try simp only [zZ16_0]))); (with_reducible refine call_intro (r := ?_) ?_ ?_); rotate_left; (focus (first | exact (s) | exact (m1) | exact (m2) | exact (ad))); (conv => whnf))); (try simp only [zZ16_0])) | (refine And.intro ?_ ?_ <;> (conv => whnf); (try simp only [zZ16_0])))
  (conv => whnf)
  (try simp only [Nat.zero_add])
  repeat ((first | refine V.s1 ?_); (try simp only [Nat.zero_add]))
  exact Fin.of rfl
theorem mix1_2 (c d t u a0 b0 a1 b1 a2 b2 e0 f0 e1 f1 e2 f2 r1 r2 p1 p2 q1 q2 w1 w2 : List UInt8)
    (s : Called Tryz.prog 68 [.agg [.str c, .str d], .agg [.str t, .str u]] (.agg [.str r1, .str r2])) (m1 : Called Tryz.prog 71 [.agg [.str r1, .str r2], .agg [.str a2, .str b2]] (.agg [.str p1, .str p2]))
    (m2 : Called Tryz.prog 71 [.agg [.str t, .str u], .agg [.str e2, .str f2]] (.agg [.str q1, .str q2])) (ad : Called Tryz.prog 56 [.agg [.str p1, .str p2], .agg [.str q1, .str q2]] (.agg [.str w1, .str w2])) :
    Called Tryz.prog 70 [.int .i64 2, .ref [.str c, .str d], .ref [.str t, .str u], .ref [.str a0, .str b0, .str a1, .str b1, .str a2, .str b2], .ref [.str e0, .str f0, .str e1, .str f1, .str e2, .str f2]] (.agg [.str w1, .str w2]) := by
  refine called_of_run tbOk 6 ⟨Tryz.func70, rfl, rfl, Nat.le_of_ble_eq_true rfl⟩ ?_
  (conv => whnf)
  (conv => whnf)
  (try simp only [Nat.zero_add])
  repeat ((first | refine V.s1 ?_); (try simp only [Nat.zero_add]))
  refine ⟨(.take 0 (.take 1 (.take 3 (.take 4 (.take 5 (.take 7 (.take 8 (.take 9 (.take 10 (.ev (.cons 2 [10, 9, 8, 7, 5, 4, 3] (.ev (.cons 6 [10, 9, 8, 7] (.ev (.cons 11 [] (.ev (.cons 12 [] (.ev (.cons 13 [] (.done) (.nil))) (.nil))) (.nil))) (.nil))) (.nil)))))))))))), [], ⟨by kernel_rfl, by kernel_rfl, by kernel_rfl, by kernel_rfl⟩, ?_⟩
  refine drw_meet [] [(6, .box [.str w1, .str w2])] ?_ ?_
  · (conv => whnf); (try simp only [zZ16_0])
    repeat' (first | exact V.wk | ((first | refine V.s1 ?_ | ((with_reducible refine recheck_and ?_ ?_); (focus ((conv => whnf); (try simp only [zZ16_0]); (repeat (refine V.s1 ?_; (try simp only [zZ16_0]))); exact ⟨rfl⟩)); (conv => whnf)) | ((try ((with_reducible refine .ext ?_); (conv => whnf); (try simp only [zZ16_0]))); (with_reducible refine call_intro (r := ?_) ?_ ?_); rotate_left; (focus (first | exact (s) | exact (m1) | exact (m2) | exact (ad))); (conv => whnf))); (try simp only [zZ16_0])) | (refine And.intro ?_ ?_ <;> (conv => whnf); (try simp only [zZ16_0])))
  (conv => whnf)
  (try simp only [Nat.zero_add])
  repeat ((first | refine V.s1 ?_); (try simp only [Nat.zero_add]))
  exact Fin.of rfl
end Go.Proofs.YtfilfmadapjajaaGreatDoor
end
section
namespace Go.Proofs.YtfilfmadapjajaaGreatDoor
open Go Go.V Go.Nb
def mxS (w0 v0 w1 v1 w2 v2 : List UInt8) : Nat → List D
  | 0 => [.str [], .str [], .str [], .str [], .str [], .str []]
  | 1 => [.str w0, .str v0, .str [], .str [], .str [], .str []]
  | 2 => [.str w0, .str v0, .str w1, .str v1, .str [], .str []]
  | _ => [.str w0, .str v0, .str w1, .str v1, .str w2, .str v2]
theorem mixcl_pan1 (c d t u a0 b0 a1 b1 a2 b2 e0 f0 e1 f1 e2 f2 : List UInt8) (gt : Int) (h : gt < 0) (r1 : Called Tryz.prog 51 [.int .i64 1, .int .i64 1] (.agg [.str c, .str d])) (sg : Called Tryz.prog 54 [.agg [.str t, .str u]] (.int .i64 gt)) :
    Panics Tryz.prog 69 [.ref [.str t, .str u], .ref [.str a0, .str b0, .str a1, .str b1, .str a2, .str b2], .ref [.str e0, .str f0, .str e1, .str f1, .str e2, .str f2]] (.iface 38 (.int .i64 2)) := by
  have hx : decide (gt < 0) = true := decide_eq_true h
  refine panics_of_run tbOk 6 ⟨Tryz.func69, rfl, rfl, Nat.le_of_ble_eq_true rfl⟩ ?_
  (conv => whnf)
  (conv => whnf)
  (try simp only [Nat.zero_add, Bool.not_true, Bool.true_or, Bool.not_false, hx])
  repeat ((first | refine V.s1 ?_ | ((try ((with_reducible refine .ext ?_); (conv => whnf); (try simp only [Nat.zero_add, Bool.not_true, Bool.true_or, Bool.not_false, hx]))); (with_reducible refine call_intro (r := ?_) ?_ ?_); rotate_left; (focus (first | exact (r1) | exact (sg))); (conv => whnf))); (try simp only [Nat.zero_add, Bool.not_true, Bool.true_or, Bool.not_false, hx]))
  refine ⟨_, offV rfl, ?_⟩
  (conv => whnf)
  (try simp only [Nat.zero_add, Bool.not_true, Bool.true_or, Bool.not_false, hx])
  repeat ((first | refine V.s1 ?_ | ((try ((with_reducible refine .ext ?_); (conv => whnf); (try simp only [Nat.zero_add, Bool.not_true, Bool.true_or, Bool.not_false, hx]))); (with_reducible refine call_intro (r := ?_) ?_ ?_); rotate_left; (focus (first | exact (r1) | exact (sg))); (conv => whnf))); (try simp only [Nat.zero_add, Bool.not_true, Bool.true_or, Bool.not_false, hx]))
  refine And.intro (fun _ h => by cases h) ?_
  (conv => whnf)
  (try simp only [Nat.zero_add, Bool.not_true, Bool.true_or, Bool.not_false, hx])
  repeat ((first | refine V.s1 ?_ | ((try ((with_reducible refine .ext ?_); (conv => whnf); (try simp only [Nat.zero_add, Bool.not_true, Bool.true_or, Bool.not_false, hx]))); (with_reducible refine call_intro (r := ?_) ?_ ?_); rotate_left; (focus (first | exact (r1) | exact (sg))); (conv => whnf))); (try simp only [Nat.zero_add, Bool.not_true, Bool.true_or, Bool.not_false, hx]))
  refine Cnd.split (CondB.mk (fun hq => ?_) (fun hq => ?_))
  · (conv => whnf)
    (try simp only [Nat.zero_add])
    repeat ((first | refine V.s1 ?_); (try simp only [Nat.zero_add]))
    done
  · simp at hq
theorem mixcl_pan2 (c d t u a0 b0 a1 b1 a2 b2 e0 f0 e1 f1 e2 f2 : List UInt8) (gt : Int) (h : ¬ gt < 0) (r1 : Called Tryz.prog 51 [.int .i64 1, .int .i64 1] (.agg [.str c, .str d])) (sg : Called Tryz.prog 54 [.agg [.str t, .str u]] (.int .i64 gt))
    (ab : Called Tryz.prog 55 [.agg [.str t, .str u], .agg [.str c, .str d]] (.bool true)) :
    Panics Tryz.prog 69 [.ref [.str t, .str u], .ref [.str a0, .str b0, .str a1, .str b1, .str a2, .str b2], .ref [.str e0, .str f0, .str e1, .str f1, .str e2, .str f2]] (.iface 38 (.int .i64 2)) := by
  have hx : decide (gt < 0) = false := decide_eq_false h
  refine panics_of_run tbOk 6 ⟨Tryz.func69, rfl, rfl, Nat.le_of_ble_eq_true rfl⟩ ?_
  (conv => whnf)
  (conv => whnf)
  (try simp only [Nat.zero_add, Bool.not_true, Bool.true_or, Bool.not_false, hx])
  repeat ((first | refine V.s1 ?_ | ((try ((with_reducible refine .ext ?_); (conv => whnf); (try simp only [Nat.zero_add, Bool.not_true, Bool.true_or, Bool.not_false, hx]))); (with_reducible refine call_intro (r := ?_) ?_ ?_); rotate_left; (focus (first | exact (r1) | exact (sg) | exact (ab))); (conv => whnf))); (try simp only [Nat.zero_add, Bool.not_true, Bool.true_or, Bool.not_false, hx]))
  refine Cnd.split (CondB.mk (fun hq => ?_) (fun hq => ?_))
  · (conv => whnf)
    (try simp only [Nat.zero_add])
    repeat ((first | refine V.s1 ?_); (try simp only [Nat.zero_add]))
    done
  · simp at hq
theorem zZ17_0 : type_of% @Nat.zero_add ∧ type_of% @tn0 ∧ type_of% @tn1 ∧ type_of% @tn2 := ⟨@Nat.zero_add, @tn0, @tn1, @tn2⟩
theorem mixcl_ok (c d t u a0 b0 a1 b1 a2 b2 e0 f0 e1 f1 e2 f2 w0 v0 w1 v1 w2 v2 : List UInt8) (gt : Int) (h : ¬ gt < 0) (r1 : Called Tryz.prog 51 [.int .i64 1, .int .i64 1] (.agg [.str c, .str d])) (sg : Called Tryz.prog 54 [.agg [.str t, .str u]] (.int .i64 gt))
    (ab : Called Tryz.prog 55 [.agg [.str t, .str u], .agg [.str c, .str d]] (.bool false))
    (x0 : Called Tryz.prog 70 [.int .i64 0, .ref [.str c, .str d], .ref [.str t, .str u], .ref [.str a0, .str b0, .str a1, .str b1, .str a2, .str b2], .ref [.str e0, .str f0, .str e1, .str f1, .str e2, .str f2]] (.agg [.str w0, .str v0]))
    (x1 : Called Tryz.prog 70 [.int .i64 1, .ref [.str c, .str d], .ref [.str t, .str u], .ref [.str a0, .str b0, .str a1, .str b1, .str a2, .str b2], .ref [.str e0, .str f0, .str e1, .str f1, .str e2, .str f2]] (.agg [.str w1, .str v1]))
    (x2 : Called Tryz.prog 70 [.int .i64 2, .ref [.str c, .str d], .ref [.str t, .str u], .ref [.str a0, .str b0, .str a1, .str b1, .str a2, .str b2], .ref [.str e0, .str f0, .str e1, .str f1, .str e2, .str f2]] (.agg [.str w2, .str v2])) :
    Called Tryz.prog 69 [.ref [.str t, .str u], .ref [.str a0, .str b0, .str a1, .str b1, .str a2, .str b2], .ref [.str e0, .str f0, .str e1, .str f1, .str e2, .str f2]] (.agg [.str w0, .str v0, .str w1, .str v1, .str w2, .str v2]) := by
  have hx : decide (gt < 0) = false := decide_eq_false h
  have nm := numbers_c a0 b0 a1 b1 a2 b2
  refine called_of_run tbOk 6 ⟨Tryz.func69, rfl, rfl, Nat.le_of_ble_eq_true rfl⟩ ?_
  (conv => whnf)
  (conv => whnf)
  (try simp only [Nat.zero_add, Bool.not_true, Bool.true_or, Bool.not_false, hx])
  repeat ((first | refine V.s1 ?_ | ((try ((with_reducible refine .ext ?_); (conv => whnf); (try simp only [Nat.zero_add, Bool.not_true, Bool.true_or, Bool.not_false, hx]))); (with_reducible refine call_intro (r := ?_) ?_ ?_); rotate_left; (focus (first | exact (r1) | exact (sg) | exact (ab) | exact (nm))); (conv => whnf))); (try simp only [Nat.zero_add, Bool.not_true, Bool.true_or, Bool.not_false, hx]))
  refine ⟨_, _, ⟨Tryz.func82, rfl, rfl, Nat.le_of_ble_eq_true rfl⟩, ?_⟩
  (conv => whnf)
  (conv => whnf)
  (try simp only [Nat.zero_add])
  repeat ((first | refine V.s1 ?_); (try simp only [Nat.zero_add]))
  refine Lp.pub 4 ?_
  (conv => whnf)
  refine lp_any (0) (fun k => k ≤ 3) (fun k => 3 - k) (fun k => [(6, .int .i64 k)]) (fun k => [(29, .lp none), (6, .box (mxS w0 v0 w1 v1 w2 v2 k))]) ?_ ?_ ?_
  · exact V.wk
  · exact Nat.zero_le _
  intro k hk
  have hk4 : k = 0 ∨ k = 1 ∨ k = 2 ∨ k = 3 := by omega
  rcases hk4 with e | e | e | e
  all_goals subst e
  · simp only [k0, mxS]
    (conv => whnf)
    (try simp only [zZ17_0])
    repeat ((first | refine V.s1 ?_ | ((try ((with_reducible refine .ext ?_); (conv => whnf); (try simp only [zZ17_0]))); (with_reducible refine call_intro (r := ?_) ?_ ?_); rotate_left; (focus (first | exact (x0))); (conv => whnf))); (try simp only [zZ17_0]))
    exact ⟨1, by omega, by omega, V.wk⟩
  · simp only [k1, mxS]
    (conv => whnf)
    (try simp only [zZ17_0])
    repeat ((first | refine V.s1 ?_ | ((try ((with_reducible refine .ext ?_); (conv => whnf); (try simp only [zZ17_0]))); (with_reducible refine call_intro (r := ?_) ?_ ?_); rotate_left; (focus (first | exact (x1))); (conv => whnf))); (try simp only [zZ17_0]))
    exact ⟨2, by omega, by omega, V.wk⟩
  · simp only [k2, mxS]
    (conv => whnf)
    (try simp only [zZ17_0])
    repeat ((first | refine V.s1 ?_ | ((try ((with_reducible refine .ext ?_); (conv => whnf); (try simp only [zZ17_0]))); (with_reducible refine call_intro (r := ?_) ?_ ?_); rotate_left; (focus (first | exact (x2))); (conv => whnf))); (try simp only [zZ17_0]))
    exact ⟨3, by omega, by omega, V.wk⟩
  · simp only [k3, mxS]
    (conv => whnf)
    (try simp only [Nat.zero_add])
    repeat ((first | refine V.s1 ?_); (try simp only [Nat.zero_add]))
    exact Fin.of rfl
end Go.Proofs.YtfilfmadapjajaaGreatDoor
end
section
namespace Go.Proofs.YtfilfmadapjajaaGreatDoor
open Go Go.V Go.Nb
theorem fractions1 (a0 b0 : List UInt8) (e0 : Int) (c0 : Called Tryz.prog 81 [.agg [.str a0, .str b0]] (.int .i64 e0)) :
    Called Tryz.prog 43 [.slf 2 1 (fun j => List.take 2 (List.drop (j * 2) [.str a0, .str b0]))] (.int .i64 e0) := by
  refine called_of_run tbOk 6 ⟨Tryz.func43, rfl, rfl, Nat.le_of_ble_eq_true rfl⟩ ?_
  (conv => whnf)
  (conv => whnf)
  (try simp only [Nat.zero_add])
  repeat ((first | refine V.s1 ?_); (try simp only [Nat.zero_add]))
  refine lp_any (0) (fun k => k ≤ 1 ∧ (0 < k → e0 = 0)) (fun k => 1 - k) (fun k => [(8, .int .i64 k)]) (fun k => []) ?_ ?_ ?_
  · exact V.wk
  · exact ⟨Nat.zero_le _, by omega⟩
  intro k hk
  obtain ⟨hk, z0⟩ := hk
  have hk4 : k = 0 ∨ k = 1 := by omega
  rcases hk4 with e | e
  all_goals subst e
  · simp only [k0]
    (conv => whnf)
    (try simp only [Nat.zero_add, tn0, tn1, tn2])
    repeat ((first | refine V.s1 ?_ | ((try ((with_reducible refine .ext ?_); (conv => whnf); (try simp only [Nat.zero_add, tn0, tn1, tn2]))); (with_reducible refine call_intro (r := ?_) ?_ ?_); rotate_left; (focus (first | exact (c0))); (conv => whnf))); (try simp only [Nat.zero_add, tn0, tn1, tn2]))
    refine Cnd.split (CondB.mk (fun hq => ?_) (fun hq => ?_))
    · (conv => whnf)
      (try simp only [Nat.zero_add])
      repeat ((first | refine V.s1 ?_); (try simp only [Nat.zero_add]))
      exact Fin.of rfl
    (conv => whnf)
    (try simp only [Nat.zero_add])
    repeat ((first | refine V.s1 ?_); (try simp only [Nat.zero_add]))
    simp at hq
    exact ⟨1, ⟨by omega, by omega⟩, by omega, V.wk⟩
  · simp only [k1]
    have y0 := z0 (by omega)
    subst y0
    (conv => whnf)
    (try simp only [Nat.zero_add])
    repeat ((first | refine V.s1 ?_); (try simp only [Nat.zero_add]))
    exact Fin.of rfl
def noT : D := .agg [.str [], .str [], .str [], .str [], .str [], .str []]
theorem lmix_no1 (a0 b0 a1 b1 a2 b2 e0 f0 e1 f1 e2 f2 t u : List UInt8) (e : Int) (he : e ≠ 0) (ca : Called Tryz.prog 15 [.agg [.str a0, .str b0, .str a1, .str b1, .str a2, .str b2]] (.int .i64 e)) :
    Called Tryz.prog 33 [.agg [.str a0, .str b0, .str a1, .str b1, .str a2, .str b2], .agg [.str e0, .str f0, .str e1, .str f1, .str e2, .str f2], .agg [.str t, .str u]] (.tup [noT, .int .i64 e]) := by
  refine called_of_run tbOk 6 ⟨Tryz.func33, rfl, rfl, Nat.le_of_ble_eq_true rfl⟩ ?_
  (conv => whnf)
  (conv => whnf)
  (try simp only [Nat.zero_add])
  repeat ((first | refine V.s1 ?_ | ((try ((with_reducible refine .ext ?_); (conv => whnf); (try simp only [Nat.zero_add]))); (with_reducible refine call_intro (r := ?_) ?_ ?_); rotate_left; (focus (first | exact (ca))); (conv => whnf))); (try simp only [Nat.zero_add]))
  refine Cnd.split (CondB.mk (fun hq => ?_) (fun hq => ?_))
  · (conv => whnf)
    (try simp only [Nat.zero_add])
    repeat ((first | refine V.s1 ?_); (try simp only [Nat.zero_add]))
    exact Fin.of rfl
  · exfalso
    simp at hq
    exact he hq
theorem lmix_no2 (a0 b0 a1 b1 a2 b2 e0 f0 e1 f1 e2 f2 t u : List UInt8) (e : Int) (he : e ≠ 0) (ca : Called Tryz.prog 15 [.agg [.str a0, .str b0, .str a1, .str b1, .str a2, .str b2]] (.int .i64 0))
    (cb : Called Tryz.prog 15 [.agg [.str e0, .str f0, .str e1, .str f1, .str e2, .str f2]] (.int .i64 e)) :
    Called Tryz.prog 33 [.agg [.str a0, .str b0, .str a1, .str b1, .str a2, .str b2], .agg [.str e0, .str f0, .str e1, .str f1, .str e2, .str f2], .agg [.str t, .str u]] (.tup [noT, .int .i64 e]) := by
  refine called_of_run tbOk 6 ⟨Tryz.func33, rfl, rfl, Nat.le_of_ble_eq_true rfl⟩ ?_
  (conv => whnf)
  (conv => whnf)
  (try simp only [Nat.zero_add])
  repeat ((first | refine V.s1 ?_ | ((try ((with_reducible refine .ext ?_); (conv => whnf); (try simp only [Nat.zero_add]))); (with_reducible refine call_intro (r := ?_) ?_ ?_); rotate_left; (focus (first | exact (ca) | exact (cb))); (conv => whnf))); (try simp only [Nat.zero_add]))
  refine Cnd.split (CondB.mk (fun hq => ?_) (fun hq => ?_))
  · (conv => whnf)
    (try simp only [Nat.zero_add])
    repeat ((first | refine V.s1 ?_); (try simp only [Nat.zero_add]))
    exact Fin.of rfl
  · exfalso
    simp at hq
    exact he hq
theorem lmix_no3 (a0 b0 a1 b1 a2 b2 e0 f0 e1 f1 e2 f2 t u : List UInt8) (e : Int) (he : e ≠ 0) (ca : Called Tryz.prog 15 [.agg [.str a0, .str b0, .str a1, .str b1, .str a2, .str b2]] (.int .i64 0))
    (cb : Called Tryz.prog 15 [.agg [.str e0, .str f0, .str e1, .str f1, .str e2, .str f2]] (.int .i64 0)) (fr : Called Tryz.prog 43 [.slf 2 1 (fun j => List.take 2 (List.drop (j * 2) [.str t, .str u]))] (.int .i64 e)) :
    Called Tryz.prog 33 [.agg [.str a0, .str b0, .str a1, .str b1, .str a2, .str b2], .agg [.str e0, .str f0, .str e1, .str f1, .str e2, .str f2], .agg [.str t, .str u]] (.tup [noT, .int .i64 e]) := by
  refine called_of_run tbOk 6 ⟨Tryz.func33, rfl, rfl, Nat.le_of_ble_eq_true rfl⟩ ?_
  (conv => whnf)
  (conv => whnf)
  (try simp only [Nat.zero_add])
  repeat ((first | refine V.s1 ?_ | ((try ((with_reducible refine .ext ?_); (conv => whnf); (try simp only [Nat.zero_add]))); (with_reducible refine call_intro (r := ?_) ?_ ?_); rotate_left; (focus (first | exact (ca) | exact (cb) | exact (fr))); (conv => whnf))); (try simp only [Nat.zero_add]))
  refine Cnd.split (CondB.mk (fun hq => ?_) (fun hq => ?_))
  · (conv => whnf)
    (try simp only [Nat.zero_add])
    repeat ((first | refine V.s1 ?_); (try simp only [Nat.zero_add]))
    exact Fin.of rfl
  · exfalso
    simp at hq
    exact he hq
theorem lmix_go (a0 b0 a1 b1 a2 b2 e0 f0 e1 f1 e2 f2 t u w0 v0 w1 v1 w2 v2 : List UInt8) (e : Int) (ca : Called Tryz.prog 15 [.agg [.str a0, .str b0, .str a1, .str b1, .str a2, .str b2]] (.int .i64 0))
    (cb : Called Tryz.prog 15 [.agg [.str e0, .str f0, .str e1, .str f1, .str e2, .str f2]] (.int .i64 0)) (fr : Called Tryz.prog 43 [.slf 2 1 (fun j => List.take 2 (List.drop (j * 2) [.str t, .str u]))] (.int .i64 0))
    (g : Called Tryz.prog 48 [.fn 69 [] [.ref [.str t, .str u], .ref [.str a0, .str b0, .str a1, .str b1, .str a2, .str b2], .ref [.str e0, .str f0, .str e1, .str f1, .str e2, .str f2]]] (.tup [.agg [.str w0, .str v0, .str w1, .str v1, .str w2, .str v2], .int .i64 e])) :
    Called Tryz.prog 33 [.agg [.str a0, .str b0, .str a1, .str b1, .str a2, .str b2], .agg [.str e0, .str f0, .str e1, .str f1, .str e2, .str f2], .agg [.str t, .str u]] (.tup [.agg [.str w0, .str v0, .str w1, .str v1, .str w2, .str v2], .int .i64 e]) := by
  refine called_of_run tbOk 6 ⟨Tryz.func33, rfl, rfl, Nat.le_of_ble_eq_true rfl⟩ ?_
  (conv => whnf)
  (conv => whnf)
  (try simp only [Nat.zero_add])
  repeat ((first | refine V.s1 ?_ | ((try ((with_reducible refine .ext ?_); (conv => whnf); (try simp only [Nat.zero_add]))); (with_reducible refine call_intro (r := ?_) ?_ ?_); rotate_left; (focus (first | exact (ca) | exact (cb) | exact (fr) | exact (g))); (conv => whnf))); (try simp only [Nat.zero_add]))
  exact Fin.of rfl
end Go.Proofs.YtfilfmadapjajaaGreatDoor
end
section
namespace Go.Proofs.YtfilfmadapjajaaGreatDoor
open Go Go.V Go.Nb
theorem chk3_ok {x y z : Tx} (h : chk3 x y z = 0) : okX x = true ∧ okX y = true ∧ okX z = true := by
  unfold chk3 at h
  by_cases hc : (okX x && okX y && okX z) = true
  · simp only [Bool.and_eq_true] at hc
    exact ⟨hc.1.1, hc.1.2, hc.2⟩
  · rw [if_neg hc] at h
    cases h
theorem lmix_c {n : Nat} {a b : Tx × Tx × Tx} {t : Tx} (ba : BdX n a.1 ∧ BdX n a.2.1 ∧ BdX n a.2.2) (bb : BdX n b.1 ∧ BdX n b.2.1 ∧ BdX n b.2.2) (bt : BdX n t) (h0 : 0 < n ∧ n ≤ 100) :
    Called Tryz.prog 33 [triD a.1 a.2.1 a.2.2, triD b.1 b.2.1 b.2.2, txD t] (mixX a b t) := by
  have ca := (chk_c ba.1 ba.2.1 ba.2.2 ⟨h0.1, by omega⟩).lc
  have cb := (chk_c bb.1 bb.2.1 bb.2.2 ⟨h0.1, by omega⟩).lc
  have f := fractions1 t.1 t.2 _ (fcheck_c _ _ bt.1.1 bt.1.2)
  unfold mixX
  by_cases ha : chk3 a.1 a.2.1 a.2.2 = 0
  · rw [if_pos ha]
    have ca0 := ca
    rw [ha] at ca0
    by_cases hb : chk3 b.1 b.2.1 b.2.2 = 0
    · rw [if_pos hb]
      have cb0 := cb
      rw [hb] at cb0
      by_cases ht : okX t = true
      · rw [if_pos ht]
        have f0 := f
        rw [show okP t.1 t.2 = true from ht, if_pos rfl] at f0
        obtain ⟨ka0, ka1, ka2⟩ := chk3_ok ha
        obtain ⟨kb0, kb1, kb2⟩ := chk3_ok hb
        have qt := bt.2 ht
        have qa0 := ba.1.2 ka0
        have qa1 := ba.2.1.2 ka1
        have qa2 := ba.2.2.2 ka2
        have qb0 := bb.1.2 kb0
        have qb1 := bb.2.1.2 kb1
        have qb2 := bb.2.2.2 kb2
        have et := txD_q ht
        have ea0 := txD_q ka0
        have ea1 := txD_q ka1
        have ea2 := txD_q ka2
        have eb0 := txD_q kb0
        have eb1 := txD_q kb1
        have eb2 := txD_q kb2
        have r1 := lratio (n := 1) (m := 1) (by omega) (by omega)
        rw [one_divInt] at r1
        have sg := lsign qt ⟨h0.1, by omega⟩
        have ab := labove qt fq_one ⟨h0.1, by omega⟩ ⟨by omega, by omega⟩
        rw [ordQ_gt1] at ab
        have st := fq_one.sub qt
        have sb := lsub fq_one qt (by omega) h0.1 (by omega)
        rw [← et] at sg ab sb
        unfold frT at r1
        unfold txD at sg
        unfold frT txD at ab sb
        have hp : ∀ z : Int, InR .i64 z → Panics Tryz.prog 69 [.ref [.str t.1, .str t.2], .ref [.str a.1.1, .str a.1.2, .str a.2.1.1, .str a.2.1.2, .str a.2.2.1, .str a.2.2.2], .ref [.str b.1.1, .str b.1.2, .str b.2.1.1, .str b.2.1.2, .str b.2.2.1, .str b.2.2.2]] (.iface 38 (.int .i64 z)) → Called Tryz.prog 33 [triD a.1 a.2.1 a.2.2, triD b.1 b.2.1 b.2.2, txD t] (triE no3 z) :=
          fun z hz p => lmix_go _ _ _ _ _ _ _ _ _ _ _ _ _ _ _ _ _ _ _ _ _ ca0 cb0 f0 (guard_tri_pan hz p)
        have i2 : InR .i64 2 := by simp [InR, V.lo, V.hi]
        by_cases g0 : (qX t).num < 0
        · rw [if_pos (.inl g0)]
          exact hp 2 i2 (mixcl_pan1 _ _ _ _ _ _ _ _ _ _ _ _ _ _ _ _ _ (by rw [sgn_lt]; exact g0) r1 sg)
        · by_cases g1 : 1 < qX t
          · rw [if_pos (.inr g1)]
            rw [decide_eq_true g1] at ab
            exact hp 2 i2 (mixcl_pan2 _ _ _ _ _ _ _ _ _ _ _ _ _ _ _ _ _ (by rw [sgn_lt]; exact g0) r1 sg ab)
          · rw [if_neg (fun hh => hh.elim g0 g1)]
            rw [decide_eq_false g1] at ab
            have ma0 := lmul st qa0 (by omega) h0.1 (by omega)
            have mb0 := lmul qt qb0 h0.1 h0.1 (by omega)
            have mc0 := ladd (st.mul qa0) (qt.mul qb0) (by omega) (by omega) (by omega)
            rw [← ea0] at ma0
            rw [← et, ← eb0] at mb0
            unfold frT txD at ma0 mb0
            unfold frT at mc0
            have x0 := mix1_0 _ _ _ _ a.1.1 a.1.2 a.2.1.1 a.2.1.2 a.2.2.1 a.2.2.2 b.1.1 b.1.2 b.2.1.1 b.2.1.2 b.2.2.1 b.2.2.2 _ _ _ _ _ _ _ _ sb ma0 mb0 mc0
            have ma1 := lmul st qa1 (by omega) h0.1 (by omega)
            have mb1 := lmul qt qb1 h0.1 h0.1 (by omega)
            have mc1 := ladd (st.mul qa1) (qt.mul qb1) (by omega) (by omega) (by omega)
            rw [← ea1] at ma1
            rw [← et, ← eb1] at mb1
            unfold frT txD at ma1 mb1
            unfold frT at mc1
            have x1 := mix1_1 _ _ _ _ a.1.1 a.1.2 a.2.1.1 a.2.1.2 a.2.2.1 a.2.2.2 b.1.1 b.1.2 b.2.1.1 b.2.1.2 b.2.2.1 b.2.2.2 _ _ _ _ _ _ _ _ sb ma1 mb1 mc1
            have ma2 := lmul st qa2 (by omega) h0.1 (by omega)
            have mb2 := lmul qt qb2 h0.1 h0.1 (by omega)
            have mc2 := ladd (st.mul qa2) (qt.mul qb2) (by omega) (by omega) (by omega)
            rw [← ea2] at ma2
            rw [← et, ← eb2] at mb2
            unfold frT txD at ma2 mb2
            unfold frT at mc2
            have x2 := mix1_2 _ _ _ _ a.1.1 a.1.2 a.2.1.1 a.2.1.2 a.2.2.1 a.2.2.2 b.1.1 b.1.2 b.2.1.1 b.2.1.2 b.2.2.1 b.2.2.2 _ _ _ _ _ _ _ _ sb ma2 mb2 mc2
            exact lmix_go _ _ _ _ _ _ _ _ _ _ _ _ _ _ _ _ _ _ _ _ _ ca0 cb0 f0 (guard_tri_ok (mixcl_ok _ _ _ _ _ _ _ _ _ _ _ _ _ _ _ _ _ _ _ _ _ _ _ (by rw [sgn_lt]; exact g0) r1 sg ab x0 x1 x2))
      · rw [if_neg ht]
        rw [show okP t.1 t.2 = false from Bool.eq_false_iff.2 ht] at f
        exact lmix_no3 _ _ _ _ _ _ _ _ _ _ _ _ _ _ _ (by omega) ca0 cb0 f
    · rw [if_neg hb]
      exact lmix_no2 _ _ _ _ _ _ _ _ _ _ _ _ _ _ _ hb ca0 cb
  · rw [if_neg ha]
    exact lmix_no1 _ _ _ _ _ _ _ _ _ _ _ _ _ _ _ ha ca
end Go.Proofs.YtfilfmadapjajaaGreatDoor
end
section
namespace Go.Proofs.YtfilfmadapjajaaGreatDoor
open Go Go.V Go.Nb
def tyS (p0 q0 p1 q1 p2 q2 p3 q3 : List UInt8) : Nat → List D
  | 0 => [.str p0, .str q0]
  | 1 => [.str p1, .str q1]
  | 2 => [.str p2, .str q2]
  | _ => [.str p3, .str q3]
theorem zZ20_0 : type_of% @Nat.zero_add ∧ type_of% @tn0 ∧ type_of% @tn1 ∧ type_of% @tn2 := ⟨@Nat.zero_add, @tn0, @tn1, @tn2⟩
theorem tocl_pan (a0 b0 a1 b1 a2 b2 p0 q0 p1 q1 p2 q2 p3 q3 : List UInt8) (r1 : Called Tryz.prog 51 [.int .i64 0, .int .i64 1] (.agg [.str p0, .str q0]))
    (x0 : Called Tryz.prog 56 [.agg [.str p0, .str q0], .agg [.str a0, .str b0]] (.agg [.str p1, .str q1])) (x1 : Called Tryz.prog 56 [.agg [.str p1, .str q1], .agg [.str a1, .str b1]] (.agg [.str p2, .str q2])) (x2 : Called Tryz.prog 56 [.agg [.str p2, .str q2], .agg [.str a2, .str b2]] (.agg [.str p3, .str q3]))
    (sg : Called Tryz.prog 54 [.agg [.str p3, .str q3]] (.int .i64 0)) :
    Panics Tryz.prog 61 [.ref [.str a0, .str b0, .str a1, .str b1, .str a2, .str b2]] (.iface 38 (.int .i64 7)) := by
  have nm := numbers_c a0 b0 a1 b1 a2 b2
  refine panics_of_run tbOk 6 ⟨Tryz.func61, rfl, rfl, Nat.le_of_ble_eq_true rfl⟩ ?_
  (conv => whnf)
  (conv => whnf)
  (try simp only [Nat.zero_add])
  repeat ((first | refine V.s1 ?_ | ((try ((with_reducible refine .ext ?_); (conv => whnf); (try simp only [Nat.zero_add]))); (with_reducible refine call_intro (r := ?_) ?_ ?_); rotate_left; (focus (first | exact (r1) | exact (nm))); (conv => whnf))); (try simp only [Nat.zero_add]))
  refine ⟨_, _, ⟨Tryz.func82, rfl, rfl, Nat.le_of_ble_eq_true rfl⟩, ?_⟩
  (conv => whnf)
  (conv => whnf)
  (try simp only [Nat.zero_add])
  repeat ((first | refine V.s1 ?_); (try simp only [Nat.zero_add]))
  refine lp_any (0) (fun k => k ≤ 3) (fun k => 3 - k) (fun k => [(6, .int .i64 k)]) (fun k => [(28, .lp none), (2, .box (tyS p0 q0 p1 q1 p2 q2 p3 q3 k))]) ?_ ?_ ?_
  · exact V.wk
  · exact Nat.zero_le _
  intro k hk
  have hk4 : k = 0 ∨ k = 1 ∨ k = 2 ∨ k = 3 := by omega
  rcases hk4 with e | e | e | e
  all_goals subst e
  · simp only [k0, tyS]
    (conv => whnf)
    (try simp only [zZ20_0])
    repeat ((first | refine V.s1 ?_ | ((try ((with_reducible refine .ext ?_); (conv => whnf); (try simp only [zZ20_0]))); (with_reducible refine call_intro (r := ?_) ?_ ?_); rotate_left; (focus (first | exact (x0))); (conv => whnf))); (try simp only [zZ20_0]))
    exact ⟨1, by omega, by omega, V.wk⟩
  · simp only [k1, tyS]
    (conv => whnf)
    (try simp only [zZ20_0])
    repeat ((first | refine V.s1 ?_ | ((try ((with_reducible refine .ext ?_); (conv => whnf); (try simp only [zZ20_0]))); (with_reducible refine call_intro (r := ?_) ?_ ?_); rotate_left; (focus (first | exact (x1))); (conv => whnf))); (try simp only [zZ20_0]))
    exact ⟨2, by omega, by omega, V.wk⟩
  · simp only [k2, tyS]
    (conv => whnf)
    (try simp only [zZ20_0])
    repeat ((first | refine V.s1 ?_ | ((try ((with_reducible refine .ext ?_); (conv => whnf); (try simp only [zZ20_0]))); (with_reducible refine call_intro (r := ?_) ?_ ?_); rotate_left; (focus (first | exact (x2))); (conv => whnf))); (try simp only [zZ20_0]))
    exact ⟨3, by omega, by omega, V.wk⟩
  simp only [k3, tyS]
  (conv => whnf)
  (try simp only [Nat.zero_add])
  repeat ((first | refine V.s1 ?_ | ((try ((with_reducible refine .ext ?_); (conv => whnf); (try simp only [Nat.zero_add]))); (with_reducible refine call_intro (r := ?_) ?_ ?_); rotate_left; (focus (first | exact (sg))); (conv => whnf))); (try simp only [Nat.zero_add]))
  refine Cnd.split (CondB.mk (fun hq => ?_) (fun hq => ?_))
  · (conv => whnf)
    (try simp only [Nat.zero_add])
    repeat ((first | refine V.s1 ?_); (try simp only [Nat.zero_add]))
    done
  · simp at hq
theorem tocl_ok (a0 b0 a1 b1 a2 b2 p0 q0 p1 q1 p2 q2 p3 q3 u0 v0 u1 v1 : List UInt8) (g : Int) (h : ¬ g = 0) (r1 : Called Tryz.prog 51 [.int .i64 0, .int .i64 1] (.agg [.str p0, .str q0]))
    (x0 : Called Tryz.prog 56 [.agg [.str p0, .str q0], .agg [.str a0, .str b0]] (.agg [.str p1, .str q1])) (x1 : Called Tryz.prog 56 [.agg [.str p1, .str q1], .agg [.str a1, .str b1]] (.agg [.str p2, .str q2])) (x2 : Called Tryz.prog 56 [.agg [.str p2, .str q2], .agg [.str a2, .str b2]] (.agg [.str p3, .str q3]))
    (sg : Called Tryz.prog 54 [.agg [.str p3, .str q3]] (.int .i64 g)) (d0 : Called Tryz.prog 62 [.agg [.str a0, .str b0], .agg [.str p3, .str q3]] (.agg [.str u0, .str v0])) (d1 : Called Tryz.prog 62 [.agg [.str a1, .str b1], .agg [.str p3, .str q3]] (.agg [.str u1, .str v1])) :
    Called Tryz.prog 61 [.ref [.str a0, .str b0, .str a1, .str b1, .str a2, .str b2]] (.agg [.str u0, .str v0, .str u1, .str v1, .str a1, .str b1]) := by
  have nm := numbers_c a0 b0 a1 b1 a2 b2
  refine called_of_run tbOk 6 ⟨Tryz.func61, rfl, rfl, Nat.le_of_ble_eq_true rfl⟩ ?_
  (conv => whnf)
  (conv => whnf)
  (try simp only [Nat.zero_add])
  repeat ((first | refine V.s1 ?_ | ((try ((with_reducible refine .ext ?_); (conv => whnf); (try simp only [Nat.zero_add]))); (with_reducible refine call_intro (r := ?_) ?_ ?_); rotate_left; (focus (first | exact (r1) | exact (nm))); (conv => whnf))); (try simp only [Nat.zero_add]))
  refine ⟨_, _, ⟨Tryz.func82, rfl, rfl, Nat.le_of_ble_eq_true rfl⟩, ?_⟩
  (conv => whnf)
  (conv => whnf)
  (try simp only [Nat.zero_add])
  repeat ((first | refine V.s1 ?_); (try simp only [Nat.zero_add]))
  refine lp_any (0) (fun k => k ≤ 3) (fun k => 3 - k) (fun k => [(6, .int .i64 k)]) (fun k => [(28, .lp none), (2, .box (tyS p0 q0 p1 q1 p2 q2 p3 q3 k))]) ?_ ?_ ?_
  · exact V.wk
  · exact Nat.zero_le _
  intro k hk
  have hk4 : k = 0 ∨ k = 1 ∨ k = 2 ∨ k = 3 := by omega
  rcases hk4 with e | e | e | e
  all_goals subst e
  · simp only [k0, tyS]
    (conv => whnf)
    (try simp only [zZ20_0])
    repeat ((first | refine V.s1 ?_ | ((try ((with_reducible refine .ext ?_); (conv => whnf); (try simp only [zZ20_0]))); (with_reducible refine call_intro (r := ?_) ?_ ?_); rotate_left; (focus (first | exact (x0))); (conv => whnf))); (try simp only [zZ20_0]))
    exact ⟨1, by omega, by omega, V.wk⟩
  · simp only [k1, tyS]
    (conv => whnf)
    (try simp only [zZ20_0])
    repeat ((first | refine V.s1 ?_ | ((try ((with_reducible refine .ext ?_); (conv => whnf); (try simp only [zZ20_0]))); (with_reducible refine call_intro (r := ?_) ?_ ?_); rotate_left; (focus (first | exact (x1))); (conv => whnf))); (try simp only [zZ20_0]))
    exact ⟨2, by omega, by omega, V.wk⟩
  · simp only [k2, tyS]
    (conv => whnf)
    (try simp only [zZ20_0])
    repeat ((first | refine V.s1 ?_ | ((try ((with_reducible refine .ext ?_); (conv => whnf); (try simp only [zZ20_0]))); (with_reducible refine call_intro (r := ?_) ?_ ?_); rotate_left; (focus (first | exact (x2))); (conv => whnf))); (try simp only [zZ20_0]))
    exact ⟨3, by omega, by omega, V.wk⟩
  simp only [k3, tyS]
  (conv => whnf)
  (try simp only [Nat.zero_add])
  repeat ((first | refine V.s1 ?_ | ((try ((with_reducible refine .ext ?_); (conv => whnf); (try simp only [Nat.zero_add]))); (with_reducible refine call_intro (r := ?_) ?_ ?_); rotate_left; (focus (first | exact (sg))); (conv => whnf))); (try simp only [Nat.zero_add]))
  refine Cnd.split (CondB.mk (fun hq => ?_) (fun hq => ?_))
  · exfalso
    simp at hq
    exact h hq
  (conv => whnf)
  (try simp only [Nat.zero_add])
  repeat ((first | refine V.s1 ?_); (try simp only [Nat.zero_add]))
  refine ⟨(.take 0 (.take 1 (.take 2 (.take 4 (.take 5 (.take 6 (.take 8 (.take 9 (.ev (.cons 3 [9, 8, 6, 5, 4] (.ev (.cons 7 [9, 8] (.take 10 (.ev (.cons 11 [] (.done) (.nil)))) (.nil))) (.nil))))))))))), [], ⟨by kernel_rfl, by kernel_rfl, by kernel_rfl, by kernel_rfl⟩, ?_⟩
  refine drw_meet [] [(1, .box [.str u0, .str v0, .str u1, .str v1, .str a1, .str b1])] ?_ ?_
  · (conv => whnf); (try simp only [zZ20_0])
    repeat' (first | exact V.wk | ((first | refine V.s1 ?_ | ((with_reducible refine recheck_and ?_ ?_); (focus ((conv => whnf); (try simp only [zZ20_0]); (repeat (refine V.s1 ?_; (try simp only [zZ20_0]))); exact ⟨rfl⟩)); (conv => whnf)) | ((try ((with_reducible refine .ext ?_); (conv => whnf); (try simp only [zZ20_0]))); (with_reducible refine call_intro (r := ?_) ?_ ?_); rotate_left; (focus (first | exact (d0) | exact (d1))); (conv => whnf))); (try simp only [zZ20_0])) | (refine And.intro ?_ ?_ <;> (conv => whnf); (try simp only [zZ20_0])))
  (conv => whnf)
  (try simp only [Nat.zero_add])
  repeat ((first | refine V.s1 ?_); (try simp only [Nat.zero_add]))
  exact Fin.of rfl
end Go.Proofs.YtfilfmadapjajaaGreatDoor
end
section
namespace Go.Proofs.YtfilfmadapjajaaGreatDoor
open Go Go.V Go.Nb
theorem lto_no (a0 b0 a1 b1 a2 b2 : List UInt8) (e : Int) (he : e ≠ 0) (ca : Called Tryz.prog 15 [.agg [.str a0, .str b0, .str a1, .str b1, .str a2, .str b2]] (.int .i64 e)) :
    Called Tryz.prog 27 [.agg [.str a0, .str b0, .str a1, .str b1, .str a2, .str b2]] (.tup [.agg [.str [], .str []], .agg [.str [], .str []], .agg [.str [], .str []], .int .i64 e]) := by
  refine called_of_run tbOk 6 ⟨Tryz.func27, rfl, rfl, Nat.le_of_ble_eq_true rfl⟩ ?_
  (conv => whnf)
  (conv => whnf)
  (try simp only [Nat.zero_add])
  repeat ((first | refine V.s1 ?_ | ((try ((with_reducible refine .ext ?_); (conv => whnf); (try simp only [Nat.zero_add]))); (with_reducible refine call_intro (r := ?_) ?_ ?_); rotate_left; (focus (first | exact (ca))); (conv => whnf))); (try simp only [Nat.zero_add]))
  refine Cnd.split (CondB.mk (fun hq => ?_) (fun hq => ?_))
  · (conv => whnf)
    (try simp only [Nat.zero_add])
    repeat ((first | refine V.s1 ?_); (try simp only [Nat.zero_add]))
    exact Fin.of rfl
  · exfalso
    simp at hq
    exact he hq
theorem lto_go (a0 b0 a1 b1 a2 b2 u0 v0 u1 v1 u2 v2 : List UInt8) (e : Int) (ca : Called Tryz.prog 15 [.agg [.str a0, .str b0, .str a1, .str b1, .str a2, .str b2]] (.int .i64 0))
    (g : Called Tryz.prog 48 [.fn 61 [] [.ref [.str a0, .str b0, .str a1, .str b1, .str a2, .str b2]]] (.tup [.agg [.str u0, .str v0, .str u1, .str v1, .str u2, .str v2], .int .i64 e])) :
    Called Tryz.prog 27 [.agg [.str a0, .str b0, .str a1, .str b1, .str a2, .str b2]] (.tup [.agg [.str u0, .str v0], .agg [.str u1, .str v1], .agg [.str u2, .str v2], .int .i64 e]) := by
  refine called_of_run tbOk 6 ⟨Tryz.func27, rfl, rfl, Nat.le_of_ble_eq_true rfl⟩ ?_
  (conv => whnf)
  (conv => whnf)
  (try simp only [Nat.zero_add])
  repeat ((first | refine V.s1 ?_ | ((try ((with_reducible refine .ext ?_); (conv => whnf); (try simp only [Nat.zero_add]))); (with_reducible refine call_intro (r := ?_) ?_ ?_); rotate_left; (focus (first | exact (ca) | exact (g))); (conv => whnf))); (try simp only [Nat.zero_add]))
  refine ⟨(.take 0 (.take 1 (.take 2 (.take 3 (.take 4 (.take 5 (.take 6 (.ev (.cons 7 [6, 5, 4, 3, 2] (.ev (.cons 8 [6, 5, 4] (.ev (.cons 9 [6] (.ev (.cons 10 [] (.done) (.nil))) (.nil))) (.nil))) (.nil)))))))))), [], ⟨by kernel_rfl, by kernel_rfl, by kernel_rfl, by kernel_rfl⟩, ?_⟩
  refine drw_meet [(5, .int .i64 e)] [(2, .box [.str u0, .str v0]), (3, .box [.str u1, .str v1]), (4, .box [.str u2, .str v2])] ?_ ?_
  · (conv => whnf); (try simp only [Nat.zero_add, tn0, tn1, tn2])
    repeat' (first | exact V.wk | ((first | refine V.s1 ?_ | ((with_reducible refine recheck_and ?_ ?_); (focus ((conv => whnf); (try simp only [Nat.zero_add, tn0, tn1, tn2]); (repeat (refine V.s1 ?_; (try simp only [Nat.zero_add, tn0, tn1, tn2]))); exact ⟨rfl⟩)); (conv => whnf))); (try simp only [Nat.zero_add, tn0, tn1, tn2])) | (refine And.intro ?_ ?_ <;> (conv => whnf); (try simp only [Nat.zero_add, tn0, tn1, tn2])))
  (conv => whnf)
  (try simp only [Nat.zero_add])
  repeat ((first | refine V.s1 ?_); (try simp only [Nat.zero_add]))
  exact Fin.of rfl
theorem fq_zero : Fq 1 0 := ⟨by decide, by decide⟩
theorem lto_c {n : Nat} {x y z : Tx} (bx : BdX n x) (b_y : BdX n y) (bz : BdX n z) (h0 : 0 < n ∧ n ≤ 100) : Called Tryz.prog 27 [triD x y z] (toX x y z) := by
  have ca := (chk_c bx b_y bz ⟨h0.1, by omega⟩).lc
  unfold toX
  by_cases ha : chk3 x y z = 0
  · rw [if_pos ha]
    have ca0 := ca
    rw [ha] at ca0
    obtain ⟨kx, ky, kz⟩ := chk3_ok ha
    have qx := bx.2 kx
    have qy := b_y.2 ky
    have qz := bz.2 kz
    have ex := txD_q kx
    have ey := txD_q ky
    have ez := txD_q kz
    have r1 := lratio (n := 0) (m := 1) (by omega) (by omega)
    rw [Rat.zero_divInt] at r1
    have x0 := ladd fq_zero qx (by omega) h0.1 (by omega)
    have x1 := ladd (fq_zero.add qx) qy (by omega) h0.1 (by omega)
    have x2 := ladd ((fq_zero.add qx).add qy) qz (by omega) h0.1 (by omega)
    have qs := ((fq_zero.add qx).add qy).add qz
    rw [Rat.zero_add] at x0 x1 x2 qs
    have sg := lsign qs ⟨by omega, by omega⟩
    have hs : ∀ w : Rat, w = qX x + qX y + qX z → (w.num = 0 ∨ ¬ w.num = 0) := fun w _ => Decidable.em _
    by_cases g0 : (qX x + qX y + qX z).num = 0
    · rw [if_pos g0]
      rw [g0, show Int.sign 0 = 0 from rfl] at sg
      rw [← ex] at x0
      rw [← ex, ← ey] at x1
      rw [← ez] at x2
      unfold frT at r1 sg
      unfold frT txD at x0 x1 x2
      exact lto_go _ _ _ _ _ _ _ _ _ _ _ _ _ ca0 (guard_tri_pan (by simp [InR, V.lo, V.hi]) (tocl_pan _ _ _ _ _ _ _ _ _ _ _ _ _ _ r1 x0 x1 x2 sg))
    · rw [if_neg g0]
      have d0 := ldiv qx qs g0 h0.1 (by omega) (by omega)
      have d1 := ldiv qy qs g0 h0.1 (by omega) (by omega)
      rw [← ex] at x0 d0
      rw [← ex, ← ey] at x1
      rw [← ey] at d1
      rw [← ez] at x2
      unfold frT at r1 sg
      unfold frT txD at x0 x1 x2 d0 d1
      exact lto_go _ _ _ _ _ _ _ _ _ _ _ _ _ ca0 (guard_tri_ok (tocl_ok _ _ _ _ _ _ _ _ _ _ _ _ _ _ _ _ _ _ _ (by rw [sgn_eq]; exact g0) r1 x0 x1 x2 sg d0 d1))
  · rw [if_neg ha]
    exact lto_no _ _ _ _ _ _ _ ha ca
end Go.Proofs.YtfilfmadapjajaaGreatDoor
end
section
namespace Go.Proofs.YtfilfmadapjajaaGreatDoor
open Go Go.V Go.Nb
theorem whcl (l0 l1 l2 : Int) (u0 v0 u1 v1 c d w0 x0 w1 x1 w2 x2 : List UInt8) (r0 : Called Tryz.prog 51 [.int .i64 l0, .int .i64 l2] (.agg [.str u0, .str v0])) (r1 : Called Tryz.prog 51 [.int .i64 l1, .int .i64 l2] (.agg [.str u1, .str v1])) (r2 : Called Tryz.prog 51 [.int .i64 1, .int .i64 1] (.agg [.str c, .str d]))
    (cl : Called Tryz.prog 50 [.agg [.str u0, .str v0], .agg [.str u1, .str v1], .agg [.str c, .str d]] (.agg [.str w0, .str x0, .str w1, .str x1, .str w2, .str x2])) :
    Called Tryz.prog 49 [.ref [.int .i64 l0, .int .i64 l1, .int .i64 l2]] (.agg [.str w0, .str x0, .str w1, .str x1, .str w2, .str x2]) := by
  refine called_of_run tbOk 6 ⟨Tryz.func49, rfl, rfl, Nat.le_of_ble_eq_true rfl⟩ ?_
  (conv => whnf)
  (conv => whnf)
  (try simp only [Nat.zero_add])
  repeat ((first | refine V.s1 ?_); (try simp only [Nat.zero_add]))
  refine ⟨(.take 0 (.take 1 (.take 2 (.take 3 (.take 5 (.take 6 (.take 7 (.take 8 (.ev (.cons 4 [8, 7, 6, 5] (.ev (.cons 9 [] (.ev (.cons 10 [] (.ev (.cons 11 [] (.ev (.cons 12 [] (.done) (.nil))) (.nil))) (.nil))) (.nil))) (.nil))))))))))), [], ⟨by kernel_rfl, by kernel_rfl, by kernel_rfl, by kernel_rfl⟩, ?_⟩
  refine drw_meet [] [(1, .box [.str w0, .str x0, .str w1, .str x1, .str w2, .str x2])] ?_ ?_
  · (conv => whnf); (try simp only [Nat.zero_add, tn0, tn1, tn2])
    repeat' (first | exact V.wk | ((first | refine V.s1 ?_ | ((with_reducible refine recheck_and ?_ ?_); (focus ((conv => whnf); (try simp only [Nat.zero_add, tn0, tn1, tn2]); (repeat (refine V.s1 ?_; (try simp only [Nat.zero_add, tn0, tn1, tn2]))); exact ⟨rfl⟩)); (conv => whnf)) | ((try ((with_reducible refine .ext ?_); (conv => whnf); (try simp only [Nat.zero_add, tn0, tn1, tn2]))); (with_reducible refine call_intro (r := ?_) ?_ ?_); rotate_left; (focus (first | exact (r0) | exact (r1) | exact (r2) | exact (cl))); (conv => whnf))); (try simp only [Nat.zero_add, tn0, tn1, tn2])) | (refine And.intro ?_ ?_ <;> (conv => whnf); (try simp only [Nat.zero_add, tn0, tn1, tn2])))
  (conv => whnf)
  (try simp only [Nat.zero_add])
  repeat ((first | refine V.s1 ?_); (try simp only [Nat.zero_add]))
  exact Fin.of rfl
theorem lwhite_no (n : Int) (h : n < 1 ∨ 7 < n) : Called Tryz.prog 19 [.int .i64 n] (.tup [noT, .int .i64 2]) := by
  refine called_of_run tbOk 6 ⟨Tryz.func19, rfl, rfl, Nat.le_of_ble_eq_true rfl⟩ ?_
  (conv => whnf)
  (conv => whnf)
  (try simp only [Nat.zero_add])
  repeat ((first | refine V.s1 ?_); (try simp only [Nat.zero_add]))
  refine Cnd.split (CondB.mk (fun hq => ?_) (fun hq => ?_))
  · (conv => whnf)
    (try simp only [Nat.zero_add])
    repeat ((first | refine V.s1 ?_); (try simp only [Nat.zero_add]))
    exact Fin.of rfl
  · exfalso
    simp at hq
    omega
theorem tn4 : (4 : Int).toNat = 4 := rfl
theorem tn5 : (5 : Int).toNat = 5 := rfl
theorem tn6 : (6 : Int).toNat = 6 := rfl
theorem zZ22_0 : type_of% @Nat.zero_add ∧ type_of% @tn0 ∧ type_of% @tn1 ∧ type_of% @tn2 ∧ type_of% @tn3 ∧ type_of% @tn4 ∧ type_of% @tn5 ∧ type_of% @tn6 := ⟨@Nat.zero_add, @tn0, @tn1, @tn2, @tn3, @tn4, @tn5, @tn6⟩
theorem lwhite_1 (w0 x0 w1 x1 w2 x2 : List UInt8) (e : Int) (g : Called Tryz.prog 48 [.fn 49 [] [.ref [.int .i64 44757, .int .i64 40745, .int .i64 100000]]] (.tup [.agg [.str w0, .str x0, .str w1, .str x1, .str w2, .str x2], .int .i64 e])) :
    Called Tryz.prog 19 [.int .i64 1] (.tup [.agg [.str w0, .str x0, .str w1, .str x1, .str w2, .str x2], .int .i64 e]) := by
  refine called_of_run tbOk 6 ⟨Tryz.func19, rfl, rfl, Nat.le_of_ble_eq_true rfl⟩ ?_
  (conv => whnf)
  (conv => whnf)
  (try simp only [zZ22_0])
  repeat ((first | refine V.s1 ?_ | ((try ((with_reducible refine .ext ?_); (conv => whnf); (try simp only [zZ22_0]))); (with_reducible refine call_intro (r := ?_) ?_ ?_); rotate_left; (focus (first | exact (g))); (conv => whnf))); (try simp only [zZ22_0]))
  exact Fin.of rfl
theorem lwhite_2 (w0 x0 w1 x1 w2 x2 : List UInt8) (e : Int) (g : Called Tryz.prog 48 [.fn 49 [] [.ref [.int .i64 31006, .int .i64 31616, .int .i64 100000]]] (.tup [.agg [.str w0, .str x0, .str w1, .str x1, .str w2, .str x2], .int .i64 e])) :
    Called Tryz.prog 19 [.int .i64 2] (.tup [.agg [.str w0, .str x0, .str w1, .str x1, .str w2, .str x2], .int .i64 e]) := by
  refine called_of_run tbOk 6 ⟨Tryz.func19, rfl, rfl, Nat.le_of_ble_eq_true rfl⟩ ?_
  (conv => whnf)
  (conv => whnf)
  (try simp only [zZ22_0])
  repeat ((first | refine V.s1 ?_ | ((try ((with_reducible refine .ext ?_); (conv => whnf); (try simp only [zZ22_0]))); (with_reducible refine call_intro (r := ?_) ?_ ?_); rotate_left; (focus (first | exact (g))); (conv => whnf))); (try simp only [zZ22_0]))
  exact Fin.of rfl
theorem lwhite_3 (w0 x0 w1 x1 w2 x2 : List UInt8) (e : Int) (g : Called Tryz.prog 48 [.fn 49 [] [.ref [.int .i64 34567, .int .i64 35850, .int .i64 100000]]] (.tup [.agg [.str w0, .str x0, .str w1, .str x1, .str w2, .str x2], .int .i64 e])) :
    Called Tryz.prog 19 [.int .i64 3] (.tup [.agg [.str w0, .str x0, .str w1, .str x1, .str w2, .str x2], .int .i64 e]) := by
  refine called_of_run tbOk 6 ⟨Tryz.func19, rfl, rfl, Nat.le_of_ble_eq_true rfl⟩ ?_
  (conv => whnf)
  (conv => whnf)
  (try simp only [zZ22_0])
  repeat ((first | refine V.s1 ?_ | ((try ((with_reducible refine .ext ?_); (conv => whnf); (try simp only [zZ22_0]))); (with_reducible refine call_intro (r := ?_) ?_ ?_); rotate_left; (focus (first | exact (g))); (conv => whnf))); (try simp only [zZ22_0]))
  exact Fin.of rfl
theorem lwhite_4 (w0 x0 w1 x1 w2 x2 : List UInt8) (e : Int) (g : Called Tryz.prog 48 [.fn 49 [] [.ref [.int .i64 33242, .int .i64 34743, .int .i64 100000]]] (.tup [.agg [.str w0, .str x0, .str w1, .str x1, .str w2, .str x2], .int .i64 e])) :
    Called Tryz.prog 19 [.int .i64 4] (.tup [.agg [.str w0, .str x0, .str w1, .str x1, .str w2, .str x2], .int .i64 e]) := by
  refine called_of_run tbOk 6 ⟨Tryz.func19, rfl, rfl, Nat.le_of_ble_eq_true rfl⟩ ?_
  (conv => whnf)
  (conv => whnf)
  (try simp only [zZ22_0])
  repeat ((first | refine V.s1 ?_ | ((try ((with_reducible refine .ext ?_); (conv => whnf); (try simp only [zZ22_0]))); (with_reducible refine call_intro (r := ?_) ?_ ?_); rotate_left; (focus (first | exact (g))); (conv => whnf))); (try simp only [zZ22_0]))
  exact Fin.of rfl
theorem lwhite_5 (w0 x0 w1 x1 w2 x2 : List UInt8) (e : Int) (g : Called Tryz.prog 48 [.fn 49 [] [.ref [.int .i64 31272, .int .i64 32903, .int .i64 100000]]] (.tup [.agg [.str w0, .str x0, .str w1, .str x1, .str w2, .str x2], .int .i64 e])) :
    Called Tryz.prog 19 [.int .i64 5] (.tup [.agg [.str w0, .str x0, .str w1, .str x1, .str w2, .str x2], .int .i64 e]) := by
  refine called_of_run tbOk 6 ⟨Tryz.func19, rfl, rfl, Nat.le_of_ble_eq_true rfl⟩ ?_
  (conv => whnf)
  (conv => whnf)
  (try simp only [zZ22_0])
  repeat ((first | refine V.s1 ?_ | ((try ((with_reducible refine .ext ?_); (conv => whnf); (try simp only [zZ22_0]))); (with_reducible refine call_intro (r := ?_) ?_ ?_); rotate_left; (focus (first | exact (g))); (conv => whnf))); (try simp only [zZ22_0]))
  exact Fin.of rfl
theorem lwhite_6 (w0 x0 w1 x1 w2 x2 : List UInt8) (e : Int) (g : Called Tryz.prog 48 [.fn 49 [] [.ref [.int .i64 29902, .int .i64 31485, .int .i64 100000]]] (.tup [.agg [.str w0, .str x0, .str w1, .str x1, .str w2, .str x2], .int .i64 e])) :
    Called Tryz.prog 19 [.int .i64 6] (.tup [.agg [.str w0, .str x0, .str w1, .str x1, .str w2, .str x2], .int .i64 e]) := by
  refine called_of_run tbOk 6 ⟨Tryz.func19, rfl, rfl, Nat.le_of_ble_eq_true rfl⟩ ?_
  (conv => whnf)
  (conv => whnf)
  (try simp only [zZ22_0])
  repeat ((first | refine V.s1 ?_ | ((try ((with_reducible refine .ext ?_); (conv => whnf); (try simp only [zZ22_0]))); (with_reducible refine call_intro (r := ?_) ?_ ?_); rotate_left; (focus (first | exact (g))); (conv => whnf))); (try simp only [zZ22_0]))
  exact Fin.of rfl
theorem lwhite_7 (w0 x0 w1 x1 w2 x2 : List UInt8) (e : Int) (g : Called Tryz.prog 48 [.fn 49 [] [.ref [.int .i64 1, .int .i64 1, .int .i64 3]]] (.tup [.agg [.str w0, .str x0, .str w1, .str x1, .str w2, .str x2], .int .i64 e])) :
    Called Tryz.prog 19 [.int .i64 7] (.tup [.agg [.str w0, .str x0, .str w1, .str x1, .str w2, .str x2], .int .i64 e]) := by
  refine called_of_run tbOk 6 ⟨Tryz.func19, rfl, rfl, Nat.le_of_ble_eq_true rfl⟩ ?_
  (conv => whnf)
  (conv => whnf)
  (try simp only [zZ22_0])
  repeat ((first | refine V.s1 ?_ | ((try ((with_reducible refine .ext ?_); (conv => whnf); (try simp only [zZ22_0]))); (with_reducible refine call_intro (r := ?_) ?_ ?_); rotate_left; (focus (first | exact (g))); (conv => whnf))); (try simp only [zZ22_0]))
  exact Fin.of rfl
end Go.Proofs.YtfilfmadapjajaaGreatDoor
end
section
namespace Go.Proofs.YtfilfmadapjajaaGreatDoor
open Go Go.V Go.Nb
def lxQ (n : Int) : Rat := if n = 1 then Rat.divInt 44757 100000 else if n = 2 then Rat.divInt 31006 100000 else if n = 3 then Rat.divInt 34567 100000 else if n = 4 then Rat.divInt 33242 100000 else if n = 5 then Rat.divInt 31272 100000 else if n = 6 then Rat.divInt 29902 100000 else Rat.divInt 1 3
def lyQ (n : Int) : Rat := if n = 1 then Rat.divInt 40745 100000 else if n = 2 then Rat.divInt 31616 100000 else if n = 3 then Rat.divInt 35850 100000 else if n = 4 then Rat.divInt 34743 100000 else if n = 5 then Rat.divInt 32903 100000 else if n = 6 then Rat.divInt 31485 100000 else Rat.divInt 1 3
def whX (n : Int) : D := if n < 1 ∨ 7 < n then triE no3 2 else triE (colX (lxQ n) (lyQ n) 1) 0
theorem whc_1 : Called Tryz.prog 19 [.int .i64 1] (triE (colX (lxQ 1) (lyQ 1) 1) 0) := by
  have r0 := lratio (n := 44757) (m := 100000) (by omega) (by omega)
  have r1 := lratio (n := 40745) (m := 100000) (by omega) (by omega)
  have r2 := lratio (n := 1) (m := 1) (by omega) (by omega)
  have f0 := fq_small (n := 44757) (m := 100000) (by omega) (by omega)
  have f1 := fq_small (n := 40745) (m := 100000) (by omega) (by omega)
  have e0 : lxQ 1 = Rat.divInt 44757 100000 := by simp [lxQ]
  have e1 : lyQ 1 = Rat.divInt 40745 100000 := by simp [lyQ]
  rw [one_divInt] at r2
  have cl := lcolour f0 f1 (fq_one.mono (by omega)) (by decide +kernel) (by omega)
  rw [e0, e1]
  generalize Rat.divInt 44757 100000 = p at *
  generalize Rat.divInt 40745 100000 = q at *
  unfold frT at r0 r1 r2 cl
  unfold triQ at cl
  have c := whcl _ _ _ _ _ _ _ _ _ _ _ _ _ _ _ r0 r1 r2 cl
  exact lwhite_1 _ _ _ _ _ _ _ (guard_tri_ok c)
theorem whc_2 : Called Tryz.prog 19 [.int .i64 2] (triE (colX (lxQ 2) (lyQ 2) 1) 0) := by
  have r0 := lratio (n := 31006) (m := 100000) (by omega) (by omega)
  have r1 := lratio (n := 31616) (m := 100000) (by omega) (by omega)
  have r2 := lratio (n := 1) (m := 1) (by omega) (by omega)
  have f0 := fq_small (n := 31006) (m := 100000) (by omega) (by omega)
  have f1 := fq_small (n := 31616) (m := 100000) (by omega) (by omega)
  have e0 : lxQ 2 = Rat.divInt 31006 100000 := by simp [lxQ]
  have e1 : lyQ 2 = Rat.divInt 31616 100000 := by simp [lyQ]
  rw [one_divInt] at r2
  have cl := lcolour f0 f1 (fq_one.mono (by omega)) (by decide +kernel) (by omega)
  rw [e0, e1]
  generalize Rat.divInt 31006 100000 = p at *
  generalize Rat.divInt 31616 100000 = q at *
  unfold frT at r0 r1 r2 cl
  unfold triQ at cl
  have c := whcl _ _ _ _ _ _ _ _ _ _ _ _ _ _ _ r0 r1 r2 cl
  exact lwhite_2 _ _ _ _ _ _ _ (guard_tri_ok c)
theorem whc_3 : Called Tryz.prog 19 [.int .i64 3] (triE (colX (lxQ 3) (lyQ 3) 1) 0) := by
  have r0 := lratio (n := 34567) (m := 100000) (by omega) (by omega)
  have r1 := lratio (n := 35850) (m := 100000) (by omega) (by omega)
  have r2 := lratio (n := 1) (m := 1) (by omega) (by omega)
  have f0 := fq_small (n := 34567) (m := 100000) (by omega) (by omega)
  have f1 := fq_small (n := 35850) (m := 100000) (by omega) (by omega)
  have e0 : lxQ 3 = Rat.divInt 34567 100000 := by simp [lxQ]
  have e1 : lyQ 3 = Rat.divInt 35850 100000 := by simp [lyQ]
  rw [one_divInt] at r2
  have cl := lcolour f0 f1 (fq_one.mono (by omega)) (by decide +kernel) (by omega)
  rw [e0, e1]
  generalize Rat.divInt 34567 100000 = p at *
  generalize Rat.divInt 35850 100000 = q at *
  unfold frT at r0 r1 r2 cl
  unfold triQ at cl
  have c := whcl _ _ _ _ _ _ _ _ _ _ _ _ _ _ _ r0 r1 r2 cl
  exact lwhite_3 _ _ _ _ _ _ _ (guard_tri_ok c)
theorem whc_4 : Called Tryz.prog 19 [.int .i64 4] (triE (colX (lxQ 4) (lyQ 4) 1) 0) := by
  have r0 := lratio (n := 33242) (m := 100000) (by omega) (by omega)
  have r1 := lratio (n := 34743) (m := 100000) (by omega) (by omega)
  have r2 := lratio (n := 1) (m := 1) (by omega) (by omega)
  have f0 := fq_small (n := 33242) (m := 100000) (by omega) (by omega)
  have f1 := fq_small (n := 34743) (m := 100000) (by omega) (by omega)
  have e0 : lxQ 4 = Rat.divInt 33242 100000 := by simp [lxQ]
  have e1 : lyQ 4 = Rat.divInt 34743 100000 := by simp [lyQ]
  rw [one_divInt] at r2
  have cl := lcolour f0 f1 (fq_one.mono (by omega)) (by decide +kernel) (by omega)
  rw [e0, e1]
  generalize Rat.divInt 33242 100000 = p at *
  generalize Rat.divInt 34743 100000 = q at *
  unfold frT at r0 r1 r2 cl
  unfold triQ at cl
  have c := whcl _ _ _ _ _ _ _ _ _ _ _ _ _ _ _ r0 r1 r2 cl
  exact lwhite_4 _ _ _ _ _ _ _ (guard_tri_ok c)
theorem whc_5 : Called Tryz.prog 19 [.int .i64 5] (triE (colX (lxQ 5) (lyQ 5) 1) 0) := by
  have r0 := lratio (n := 31272) (m := 100000) (by omega) (by omega)
  have r1 := lratio (n := 32903) (m := 100000) (by omega) (by omega)
  have r2 := lratio (n := 1) (m := 1) (by omega) (by omega)
  have f0 := fq_small (n := 31272) (m := 100000) (by omega) (by omega)
  have f1 := fq_small (n := 32903) (m := 100000) (by omega) (by omega)
  have e0 : lxQ 5 = Rat.divInt 31272 100000 := by simp [lxQ]
  have e1 : lyQ 5 = Rat.divInt 32903 100000 := by simp [lyQ]
  rw [one_divInt] at r2
  have cl := lcolour f0 f1 (fq_one.mono (by omega)) (by decide +kernel) (by omega)
  rw [e0, e1]
  generalize Rat.divInt 31272 100000 = p at *
  generalize Rat.divInt 32903 100000 = q at *
  unfold frT at r0 r1 r2 cl
  unfold triQ at cl
  have c := whcl _ _ _ _ _ _ _ _ _ _ _ _ _ _ _ r0 r1 r2 cl
  exact lwhite_5 _ _ _ _ _ _ _ (guard_tri_ok c)
theorem whc_6 : Called Tryz.prog 19 [.int .i64 6] (triE (colX (lxQ 6) (lyQ 6) 1) 0) := by
  have r0 := lratio (n := 29902) (m := 100000) (by omega) (by omega)
  have r1 := lratio (n := 31485) (m := 100000) (by omega) (by omega)
  have r2 := lratio (n := 1) (m := 1) (by omega) (by omega)
  have f0 := fq_small (n := 29902) (m := 100000) (by omega) (by omega)
  have f1 := fq_small (n := 31485) (m := 100000) (by omega) (by omega)
  have e0 : lxQ 6 = Rat.divInt 29902 100000 := by simp [lxQ]
  have e1 : lyQ 6 = Rat.divInt 31485 100000 := by simp [lyQ]
  rw [one_divInt] at r2
  have cl := lcolour f0 f1 (fq_one.mono (by omega)) (by decide +kernel) (by omega)
  rw [e0, e1]
  generalize Rat.divInt 29902 100000 = p at *
  generalize Rat.divInt 31485 100000 = q at *
  unfold frT at r0 r1 r2 cl
  unfold triQ at cl
  have c := whcl _ _ _ _ _ _ _ _ _ _ _ _ _ _ _ r0 r1 r2 cl
  exact lwhite_6 _ _ _ _ _ _ _ (guard_tri_ok c)
theorem whc_7 : Called Tryz.prog 19 [.int .i64 7] (triE (colX (lxQ 7) (lyQ 7) 1) 0) := by
  have r0 := lratio (n := 1) (m := 3) (by omega) (by omega)
  have r1 := lratio (n := 1) (m := 3) (by omega) (by omega)
  have r2 := lratio (n := 1) (m := 1) (by omega) (by omega)
  have f0 := fq_small (n := 1) (m := 3) (by omega) (by omega)
  have f1 := fq_small (n := 1) (m := 3) (by omega) (by omega)
  have e0 : lxQ 7 = Rat.divInt 1 3 := by simp [lxQ]
  have e1 : lyQ 7 = Rat.divInt 1 3 := by simp [lyQ]
  rw [one_divInt] at r2
  have cl := lcolour f0 f1 (fq_one.mono (by omega)) (by decide +kernel) (by omega)
  rw [e0, e1]
  generalize Rat.divInt 1 3 = p at *
  generalize Rat.divInt 1 3 = q at *
  unfold frT at r0 r1 r2 cl
  unfold triQ at cl
  have c := whcl _ _ _ _ _ _ _ _ _ _ _ _ _ _ _ r0 r1 r2 cl
  exact lwhite_7 _ _ _ _ _ _ _ (guard_tri_ok c)
theorem lwhite_c (n : Int) : Called Tryz.prog 19 [.int .i64 n] (whX n) := by
  unfold whX
  split
  · rename_i h
    exact lwhite_no n h
  · rename_i h
    have h7 : n = 1 ∨ n = 2 ∨ n = 3 ∨ n = 4 ∨ n = 5 ∨ n = 6 ∨ n = 7 := by omega
    rcases h7 with e | e | e | e | e | e | e
    all_goals subst e
    · exact whc_1
    · exact whc_2
    · exact whc_3
    · exact whc_4
    · exact whc_5
    · exact whc_6
    · exact whc_7
end Go.Proofs.YtfilfmadapjajaaGreatDoor
end
section
namespace Go.Proofs.YtfilfmadapjajaaGreatDoor
open Go Go.V Go.Nb
theorem k4 : ((4 : Nat) : Int) = 4 := rfl
theorem ex30 : (3 : Int) - 1 - 0 = 2 := rfl
theorem ex31 : (3 : Int) - 1 - 1 = 1 := rfl
theorem ex32 : (3 : Int) - 1 - 2 = 0 := rfl
theorem ex40 : (4 : Int) - 1 - 0 = 3 := rfl
theorem ex41 : (4 : Int) - 1 - 1 = 2 := rfl
theorem ex42 : (4 : Int) - 1 - 2 = 1 := rfl
theorem ex43 : (4 : Int) - 1 - 3 = 0 := rfl
def plS3 (s0 t0 s1 t1 s2 t2 s3 t3 : List UInt8) : Nat → List D
  | 0 => [.str s0, .str t0]
  | 1 => [.str s1, .str t1]
  | 2 => [.str s2, .str t2]
  | _ => [.str s3, .str t3]
theorem zZ24_0 : type_of% @Nat.zero_add ∧ type_of% @tn0 ∧ type_of% @tn1 ∧ type_of% @tn2 ∧ type_of% @tn3 := ⟨@Nat.zero_add, @tn0, @tn1, @tn2, @tn3⟩
theorem poly3_t (x y a0 b0 u0 v0 p0 q0 a1 b1 u1 v1 p1 q1 a2 b2 u2 v2 p2 q2 s0 t0 s1 t1 s2 t2 s3 t3 : List UInt8) (r : Called Tryz.prog 51 [.int .i64 0, .int .i64 1] (.agg [.str s0, .str t0]))
    (w0 : Called Tryz.prog 98 [.agg [.str x, .str y], .int .i64 2] (.tup [.agg [.str u0, .str v0], .int .i64 0])) (m0 : Called Tryz.prog 71 [.agg [.str a0, .str b0], .agg [.str u0, .str v0]] (.agg [.str p0, .str q0])) (d0 : Called Tryz.prog 56 [.agg [.str s0, .str t0], .agg [.str p0, .str q0]] (.agg [.str s1, .str t1]))
    (w1 : Called Tryz.prog 98 [.agg [.str x, .str y], .int .i64 1] (.tup [.agg [.str u1, .str v1], .int .i64 0])) (m1 : Called Tryz.prog 71 [.agg [.str a1, .str b1], .agg [.str u1, .str v1]] (.agg [.str p1, .str q1])) (d1 : Called Tryz.prog 56 [.agg [.str s1, .str t1], .agg [.str p1, .str q1]] (.agg [.str s2, .str t2]))
    (w2 : Called Tryz.prog 98 [.agg [.str x, .str y], .int .i64 0] (.tup [.agg [.str u2, .str v2], .int .i64 0])) (m2 : Called Tryz.prog 71 [.agg [.str a2, .str b2], .agg [.str u2, .str v2]] (.agg [.str p2, .str q2])) (d2 : Called Tryz.prog 56 [.agg [.str s2, .str t2], .agg [.str p2, .str q2]] (.agg [.str s3, .str t3]))
    :
    Called Tryz.prog 65 [.agg [.str x, .str y], .slf 2 3 (fun j => List.take 2 (List.drop (j * 2) [.str a0, .str b0, .str a1, .str b1, .str a2, .str b2]))] (.agg [.str s3, .str t3]) := by
  have mu := must_ok
  refine called_of_run tbOk 6 ⟨Tryz.func65, rfl, rfl, Nat.le_of_ble_eq_true rfl⟩ ?_
  (conv => whnf)
  (conv => whnf)
  (try simp only [Nat.zero_add])
  repeat ((first | refine V.s1 ?_ | ((try ((with_reducible refine .ext ?_); (conv => whnf); (try simp only [Nat.zero_add]))); (with_reducible refine call_intro (r := ?_) ?_ ?_); rotate_left; (focus (first | exact (r))); (conv => whnf))); (try simp only [Nat.zero_add]))
  refine lp_any (0) (fun k => k ≤ 3) (fun k => 3 - k) (fun k => [(11, .int .i64 k)]) (fun k => [(5, .box (plS3 s0 t0 s1 t1 s2 t2 s3 t3 k))]) ?_ ?_ ?_
  · exact V.wk
  · exact Nat.zero_le _
  intro k hk
  have hk4 : k = 0 ∨ k = 1 ∨ k = 2 ∨ k = 3 := by omega
  rcases hk4 with e | e | e | e
  all_goals subst e
  · simp only [k0, plS3]
    (conv => whnf)
    (try simp only [zZ24_0])
    repeat ((first | refine V.s1 ?_); (try simp only [zZ24_0]))
    refine ⟨(.take 0 (.take 1 (.take 2 (.take 3 (.take 4 (.take 5 (.take 6 (.take 7 (.ev (.cons 8 [1, 0] (.take 9 (.take 10 (.ev (.cons 11 [1, 0] (.ev (.cons 12 [0] (.ev (.cons 13 [] (.ev (.cons 14 [] (.done) (.nil))) (.nil))) (.nil))) (.nil))))) (.nil))))))))))), [], ⟨by kernel_rfl, by kernel_rfl, by kernel_rfl, by kernel_rfl⟩, ?_⟩
    refine drw_meet [] [(5, .box [.str s1, .str t1])] ?_ ?_
    · (conv => whnf); (try simp only [Nat.zero_add, ex30])
      repeat' (first | exact V.wk | ((first | refine V.s1 ?_ | ((with_reducible refine recheck_and ?_ ?_); (focus ((conv => whnf); (try simp only [Nat.zero_add, ex30]); (repeat (refine V.s1 ?_; (try simp only [Nat.zero_add, ex30]))); exact ⟨rfl⟩)); (conv => whnf)) | ((try ((with_reducible refine .ext ?_); (conv => whnf); (try simp only [Nat.zero_add, ex30]))); (with_reducible refine call_intro (r := ?_) ?_ ?_); rotate_left; (focus (first | exact (w0) | exact (mu _ _) | exact (m0) | exact (d0))); (conv => whnf))); (try simp only [Nat.zero_add, ex30])) | (refine And.intro ?_ ?_ <;> (conv => whnf); (try simp only [Nat.zero_add, ex30])))
    (conv => whnf)
    (try simp only [Nat.zero_add])
    repeat ((first | refine V.s1 ?_); (try simp only [Nat.zero_add]))
    exact ⟨1, by omega, by omega, V.wk⟩
  · simp only [k1, plS3]
    (conv => whnf)
    (try simp only [zZ24_0])
    repeat ((first | refine V.s1 ?_); (try simp only [zZ24_0]))
    refine ⟨(.take 0 (.take 1 (.take 2 (.take 3 (.take 4 (.take 5 (.take 6 (.take 7 (.ev (.cons 8 [1, 0] (.take 9 (.take 10 (.ev (.cons 11 [1, 0] (.ev (.cons 12 [0] (.ev (.cons 13 [] (.ev (.cons 14 [] (.done) (.nil))) (.nil))) (.nil))) (.nil))))) (.nil))))))))))), [], ⟨by kernel_rfl, by kernel_rfl, by kernel_rfl, by kernel_rfl⟩, ?_⟩
    refine drw_meet [] [(5, .box [.str s2, .str t2])] ?_ ?_
    · (conv => whnf); (try simp only [Nat.zero_add, ex31])
      repeat' (first | exact V.wk | ((first | refine V.s1 ?_ | ((with_reducible refine recheck_and ?_ ?_); (focus ((conv => whnf); (try simp only [Nat.zero_add, ex31]); (repeat (refine V.s1 ?_; (try simp only [Nat.zero_add, ex31]))); exact ⟨rfl⟩)); (conv => whnf)) | ((try ((with_reducible refine .ext ?_); (conv => whnf); (try simp only [Nat.zero_add, ex31]))); (with_reducible refine call_intro (r := ?_) ?_ ?_); rotate_left; (focus (first | exact (w1) | exact (mu _ _) | exact (m1) | exact (d1))); (conv => whnf))); (try simp only [Nat.zero_add, ex31])) | (refine And.intro ?_ ?_ <;> (conv => whnf); (try simp only [Nat.zero_add, ex31])))
    (conv => whnf)
    (try simp only [Nat.zero_add])
    repeat ((first | refine V.s1 ?_); (try simp only [Nat.zero_add]))
    exact ⟨2, by omega, by omega, V.wk⟩
  · simp only [k2, plS3]
    (conv => whnf)
    (try simp only [zZ24_0])
    repeat ((first | refine V.s1 ?_); (try simp only [zZ24_0]))
    refine ⟨(.take 0 (.take 1 (.take 2 (.take 3 (.take 4 (.take 5 (.take 6 (.take 7 (.ev (.cons 8 [1, 0] (.take 9 (.take 10 (.ev (.cons 11 [1, 0] (.ev (.cons 12 [0] (.ev (.cons 13 [] (.ev (.cons 14 [] (.done) (.nil))) (.nil))) (.nil))) (.nil))))) (.nil))))))))))), [], ⟨by kernel_rfl, by kernel_rfl, by kernel_rfl, by kernel_rfl⟩, ?_⟩
    refine drw_meet [] [(5, .box [.str s3, .str t3])] ?_ ?_
    · (conv => whnf); (try simp only [Nat.zero_add, ex32])
      repeat' (first | exact V.wk | ((first | refine V.s1 ?_ | ((with_reducible refine recheck_and ?_ ?_); (focus ((conv => whnf); (try simp only [Nat.zero_add, ex32]); (repeat (refine V.s1 ?_; (try simp only [Nat.zero_add, ex32]))); exact ⟨rfl⟩)); (conv => whnf)) | ((try ((with_reducible refine .ext ?_); (conv => whnf); (try simp only [Nat.zero_add, ex32]))); (with_reducible refine call_intro (r := ?_) ?_ ?_); rotate_left; (focus (first | exact (w2) | exact (mu _ _) | exact (m2) | exact (d2))); (conv => whnf))); (try simp only [Nat.zero_add, ex32])) | (refine And.intro ?_ ?_ <;> (conv => whnf); (try simp only [Nat.zero_add, ex32])))
    (conv => whnf)
    (try simp only [Nat.zero_add])
    repeat ((first | refine V.s1 ?_); (try simp only [Nat.zero_add]))
    exact ⟨3, by omega, by omega, V.wk⟩
  · simp only [k3, plS3]
    (conv => whnf)
    (try simp only [Nat.zero_add])
    repeat ((first | refine V.s1 ?_); (try simp only [Nat.zero_add]))
    exact Fin.of rfl
def plS4 (s0 t0 s1 t1 s2 t2 s3 t3 s4 t4 : List UInt8) : Nat → List D
  | 0 => [.str s0, .str t0]
  | 1 => [.str s1, .str t1]
  | 2 => [.str s2, .str t2]
  | 3 => [.str s3, .str t3]
  | _ => [.str s4, .str t4]
theorem poly4_t (x y a0 b0 u0 v0 p0 q0 a1 b1 u1 v1 p1 q1 a2 b2 u2 v2 p2 q2 a3 b3 u3 v3 p3 q3 s0 t0 s1 t1 s2 t2 s3 t3 s4 t4 : List UInt8) (r : Called Tryz.prog 51 [.int .i64 0, .int .i64 1] (.agg [.str s0, .str t0]))
    (w0 : Called Tryz.prog 98 [.agg [.str x, .str y], .int .i64 3] (.tup [.agg [.str u0, .str v0], .int .i64 0])) (m0 : Called Tryz.prog 71 [.agg [.str a0, .str b0], .agg [.str u0, .str v0]] (.agg [.str p0, .str q0])) (d0 : Called Tryz.prog 56 [.agg [.str s0, .str t0], .agg [.str p0, .str q0]] (.agg [.str s1, .str t1]))
    (w1 : Called Tryz.prog 98 [.agg [.str x, .str y], .int .i64 2] (.tup [.agg [.str u1, .str v1], .int .i64 0])) (m1 : Called Tryz.prog 71 [.agg [.str a1, .str b1], .agg [.str u1, .str v1]] (.agg [.str p1, .str q1])) (d1 : Called Tryz.prog 56 [.agg [.str s1, .str t1], .agg [.str p1, .str q1]] (.agg [.str s2, .str t2]))
    (w2 : Called Tryz.prog 98 [.agg [.str x, .str y], .int .i64 1] (.tup [.agg [.str u2, .str v2], .int .i64 0])) (m2 : Called Tryz.prog 71 [.agg [.str a2, .str b2], .agg [.str u2, .str v2]] (.agg [.str p2, .str q2])) (d2 : Called Tryz.prog 56 [.agg [.str s2, .str t2], .agg [.str p2, .str q2]] (.agg [.str s3, .str t3]))
    (w3 : Called Tryz.prog 98 [.agg [.str x, .str y], .int .i64 0] (.tup [.agg [.str u3, .str v3], .int .i64 0])) (m3 : Called Tryz.prog 71 [.agg [.str a3, .str b3], .agg [.str u3, .str v3]] (.agg [.str p3, .str q3])) (d3 : Called Tryz.prog 56 [.agg [.str s3, .str t3], .agg [.str p3, .str q3]] (.agg [.str s4, .str t4]))
    :
    Called Tryz.prog 65 [.agg [.str x, .str y], .slf 2 4 (fun j => List.take 2 (List.drop (j * 2) [.str a0, .str b0, .str a1, .str b1, .str a2, .str b2, .str a3, .str b3]))] (.agg [.str s4, .str t4]) := by
  have mu := must_ok
  refine called_of_run tbOk 6 ⟨Tryz.func65, rfl, rfl, Nat.le_of_ble_eq_true rfl⟩ ?_
  (conv => whnf)
  (conv => whnf)
  (try simp only [Nat.zero_add])
  repeat ((first | refine V.s1 ?_ | ((try ((with_reducible refine .ext ?_); (conv => whnf); (try simp only [Nat.zero_add]))); (with_reducible refine call_intro (r := ?_) ?_ ?_); rotate_left; (focus (first | exact (r))); (conv => whnf))); (try simp only [Nat.zero_add]))
  refine lp_any (0) (fun k => k ≤ 4) (fun k => 4 - k) (fun k => [(11, .int .i64 k)]) (fun k => [(5, .box (plS4 s0 t0 s1 t1 s2 t2 s3 t3 s4 t4 k))]) ?_ ?_ ?_
  · exact V.wk
  · exact Nat.zero_le _
  intro k hk
  have hk4 : k = 0 ∨ k = 1 ∨ k = 2 ∨ k = 3 ∨ k = 4 := by omega
  rcases hk4 with e | e | e | e | e
  all_goals subst e
  · simp only [k0, plS4]
    (conv => whnf)
    (try simp only [zZ24_0])
    repeat ((first | refine V.s1 ?_); (try simp only [zZ24_0]))
    refine ⟨(.take 0 (.take 1 (.take 2 (.take 3 (.take 4 (.take 5 (.take 6 (.take 7 (.ev (.cons 8 [1, 0] (.take 9 (.take 10 (.ev (.cons 11 [1, 0] (.ev (.cons 12 [0] (.ev (.cons 13 [] (.ev (.cons 14 [] (.done) (.nil))) (.nil))) (.nil))) (.nil))))) (.nil))))))))))), [], ⟨by kernel_rfl, by kernel_rfl, by kernel_rfl, by kernel_rfl⟩, ?_⟩
    refine drw_meet [] [(5, .box [.str s1, .str t1])] ?_ ?_
    · (conv => whnf); (try simp only [Nat.zero_add, ex40])
      repeat' (first | exact V.wk | ((first | refine V.s1 ?_ | ((with_reducible refine recheck_and ?_ ?_); (focus ((conv => whnf); (try simp only [Nat.zero_add, ex40]); (repeat (refine V.s1 ?_; (try simp only [Nat.zero_add, ex40]))); exact ⟨rfl⟩)); (conv => whnf)) | ((try ((with_reducible refine .ext ?_); (conv => whnf); (try simp only [Nat.zero_add, ex40]))); (with_reducible refine call_intro (r := ?_) ?_ ?_); rotate_left; (focus (first | exact (w0) | exact (mu _ _) | exact (m0) | exact (d0))); (conv => whnf))); (try simp only [Nat.zero_add, ex40])) | (refine And.intro ?_ ?_ <;> (conv => whnf); (try simp only [Nat.zero_add, ex40])))
    (conv => whnf)
    (try simp only [Nat.zero_add])
    repeat ((first | refine V.s1 ?_); (try simp only [Nat.zero_add]))
    exact ⟨1, by omega, by omega, V.wk⟩
  · simp only [k1, plS4]
    (conv => whnf)
    (try simp only [zZ24_0])
    repeat ((first | refine V.s1 ?_); (try simp only [zZ24_0]))
    refine ⟨(.take 0 (.take 1 (.take 2 (.take 3 (.take 4 (.take 5 (.take 6 (.take 7 (.ev (.cons 8 [1, 0] (.take 9 (.take 10 (.ev (.cons 11 [1, 0] (.ev (.cons 12 [0] (.ev (.cons 13 [] (.ev (.cons 14 [] (.done) (.nil))) (.nil))) (.nil))) (.nil))))) (.nil))))))))))), [], ⟨by kernel_rfl, by kernel_rfl, by kernel_rfl, by kernel_rfl⟩, ?_⟩
    refine drw_meet [] [(5, .box [.str s2, .str t2])] ?_ ?_
    · (conv => whnf); (try simp only [Nat.zero_add, ex41])
      repeat' (first | exact V.wk | ((first | refine V.s1 ?_ | ((with_reducible refine recheck_and ?_ ?_); (focus ((conv => whnf); (try simp only [Nat.zero_add, ex41]); (repeat (refine V.s1 ?_; (try simp only [Nat.zero_add, ex41]))); exact ⟨rfl⟩)); (conv => whnf)) | ((try ((with_reducible refine .ext ?_); (conv => whnf); (try simp only [Nat.zero_add, ex41]))); (with_reducible refine call_intro (r := ?_) ?_ ?_); rotate_left; (focus (first | exact (w1) | exact (mu _ _) | exact (m1) | exact (d1))); (conv => whnf))); (try simp only [Nat.zero_add, ex41])) | (refine And.intro ?_ ?_ <;> (conv => whnf); (try simp only [Nat.zero_add, ex41])))
    (conv => whnf)
    (try simp only [Nat.zero_add])
    repeat ((first | refine V.s1 ?_); (try simp only [Nat.zero_add]))
    exact ⟨2, by omega, by omega, V.wk⟩
  · simp only [k2, plS4]
    (conv => whnf)
    (try simp only [zZ24_0])
    repeat ((first | refine V.s1 ?_); (try simp only [zZ24_0]))
    refine ⟨(.take 0 (.take 1 (.take 2 (.take 3 (.take 4 (.take 5 (.take 6 (.take 7 (.ev (.cons 8 [1, 0] (.take 9 (.take 10 (.ev (.cons 11 [1, 0] (.ev (.cons 12 [0] (.ev (.cons 13 [] (.ev (.cons 14 [] (.done) (.nil))) (.nil))) (.nil))) (.nil))))) (.nil))))))))))), [], ⟨by kernel_rfl, by kernel_rfl, by kernel_rfl, by kernel_rfl⟩, ?_⟩
    refine drw_meet [] [(5, .box [.str s3, .str t3])] ?_ ?_
    · (conv => whnf); (try simp only [Nat.zero_add, ex42])
      repeat' (first | exact V.wk | ((first | refine V.s1 ?_ | ((with_reducible refine recheck_and ?_ ?_); (focus ((conv => whnf); (try simp only [Nat.zero_add, ex42]); (repeat (refine V.s1 ?_; (try simp only [Nat.zero_add, ex42]))); exact ⟨rfl⟩)); (conv => whnf)) | ((try ((with_reducible refine .ext ?_); (conv => whnf); (try simp only [Nat.zero_add, ex42]))); (with_reducible refine call_intro (r := ?_) ?_ ?_); rotate_left; (focus (first | exact (w2) | exact (mu _ _) | exact (m2) | exact (d2))); (conv => whnf))); (try simp only [Nat.zero_add, ex42])) | (refine And.intro ?_ ?_ <;> (conv => whnf); (try simp only [Nat.zero_add, ex42])))
    (conv => whnf)
    (try simp only [Nat.zero_add])
    repeat ((first | refine V.s1 ?_); (try simp only [Nat.zero_add]))
    exact ⟨3, by omega, by omega, V.wk⟩
  · simp only [k3, plS4]
    (conv => whnf)
    (try simp only [zZ24_0])
    repeat ((first | refine V.s1 ?_); (try simp only [zZ24_0]))
    refine ⟨(.take 0 (.take 1 (.take 2 (.take 3 (.take 4 (.take 5 (.take 6 (.take 7 (.ev (.cons 8 [1, 0] (.take 9 (.take 10 (.ev (.cons 11 [1, 0] (.ev (.cons 12 [0] (.ev (.cons 13 [] (.ev (.cons 14 [] (.done) (.nil))) (.nil))) (.nil))) (.nil))))) (.nil))))))))))), [], ⟨by kernel_rfl, by kernel_rfl, by kernel_rfl, by kernel_rfl⟩, ?_⟩
    refine drw_meet [] [(5, .box [.str s4, .str t4])] ?_ ?_
    · (conv => whnf); (try simp only [Nat.zero_add, ex43])
      repeat' (first | exact V.wk | ((first | refine V.s1 ?_ | ((with_reducible refine recheck_and ?_ ?_); (focus ((conv => whnf); (try simp only [Nat.zero_add, ex43]); (repeat (refine V.s1 ?_; (try simp only [Nat.zero_add, ex43]))); exact ⟨rfl⟩)); (conv => whnf)) | ((try ((with_reducible refine .ext ?_); (conv => whnf); (try simp only [Nat.zero_add, ex43]))); (with_reducible refine call_intro (r := ?_) ?_ ?_); rotate_left; (focus (first | exact (w3) | exact (mu _ _) | exact (m3) | exact (d3))); (conv => whnf))); (try simp only [Nat.zero_add, ex43])) | (refine And.intro ?_ ?_ <;> (conv => whnf); (try simp only [Nat.zero_add, ex43])))
    (conv => whnf)
    (try simp only [Nat.zero_add])
    repeat ((first | refine V.s1 ?_); (try simp only [Nat.zero_add]))
    exact ⟨4, by omega, by omega, V.wk⟩
  · simp only [k4, plS4]
    (conv => whnf)
    (try simp only [Nat.zero_add])
    repeat ((first | refine V.s1 ?_); (try simp only [Nat.zero_add]))
    exact Fin.of rfl
end Go.Proofs.YtfilfmadapjajaaGreatDoor
end
section
namespace Go.Proofs.YtfilfmadapjajaaGreatDoor
open Go Go.V Go.Nb
theorem Fq.pow {n : Nat} {q : Rat} (h : Fq n q) {m : Nat} (hm : 0 < m) : Fq (n * m) (q ^ m) := by
  refine ⟨?_, ?_⟩
  · rw [Rat.num_pow, Int.natAbs_pow, Nat.pow_mul]
    exact Nat.pow_lt_pow_left h.1 (by omega)
  · rw [Rat.den_pow, Nat.pow_mul]
    exact Nat.pow_lt_pow_left h.2 (by omega)
theorem rpow1 (q : Rat) : q ^ 1 = q := by rw [Rat.pow_succ, Rat.pow_zero, Rat.one_mul]
def slD (a b c : Rat) : D := .slf 2 3 (fun j => List.take 2 (List.drop (j * 2) [.str (decZ a.num), .str (dec a.den), .str (decZ b.num), .str (dec b.den), .str (decZ c.num), .str (dec c.den)]))
def slE (a b c d : Rat) : D := .slf 2 4 (fun j => List.take 2 (List.drop (j * 2) [.str (decZ a.num), .str (dec a.den), .str (decZ b.num), .str (dec b.den), .str (decZ c.num), .str (dec c.den), .str (decZ d.num), .str (dec d.den)]))
theorem fq_poly4 {n : Nat} {x a b c d : Rat} (hx : Fq n x) (ha : Fq 10 a) (hb : Fq 10 b) (hc : Fq 10 c) (hd : Fq 10 d) : Fq (46 + 6 * n) (a * x ^ 3 + b * x ^ 2 + c * x + d) :=
  (((((ha.mul (hx.pow (m := 3) (by omega))).add (hb.mul (hx.pow (m := 2) (by omega)))).add (hc.mul hx)).add hd)).mono (by omega)
theorem fq_poly3 {n : Nat} {x a b c : Rat} (hx : Fq n x) (ha : Fq 10 a) (hb : Fq 10 b) (hc : Fq 10 c) : Fq (46 + 6 * n) (a * x ^ 2 + b * x + c) :=
  ((((ha.mul (hx.pow (m := 2) (by omega))).add (hb.mul hx)).add hc)).mono (by omega)
theorem lpoly4 {n : Nat} {x a b c d : Rat} (hx : Fq n x) (ha : Fq 10 a) (hb : Fq 10 b) (hc : Fq 10 c) (hd : Fq 10 d) (h0 : 0 < n ∧ n ≤ 80) : Called Tryz.prog 65 [frT x, slE a b c d] (frT (a * x ^ 3 + b * x ^ 2 + c * x + d)) := by
  have r := lratio (n := 0) (m := 1) (by omega) (by omega)
  rw [Rat.zero_divInt] at r
  have w0 : Called Tryz.prog 98 [frT x, .int .i64 3] (.tup [frT (x ^ 3), .int .i64 0]) := zpow (m := 3) hx (by omega) h0.1 (by omega) (by omega)
  have w1 : Called Tryz.prog 98 [frT x, .int .i64 2] (.tup [frT (x ^ 2), .int .i64 0]) := zpow (m := 2) hx (by omega) h0.1 (by omega) (by omega)
  have w2 : Called Tryz.prog 98 [frT x, .int .i64 1] (.tup [frT (x ^ 1), .int .i64 0]) := zpow (m := 1) hx (by omega) h0.1 (by omega) (by omega)
  have w3 : Called Tryz.prog 98 [frT x, .int .i64 0] (.tup [frT (x ^ 0), .int .i64 0]) := zpow (m := 0) hx (by omega) h0.1 (by omega) (by omega)
  rw [rpow1] at w2
  rw [Rat.pow_zero] at w3
  have q3 := hx.pow (m := 3) (by omega)
  have q2 := hx.pow (m := 2) (by omega)
  have m0 := lmul ha q3 (by omega) (by omega) (by omega)
  have m1 := lmul hb q2 (by omega) (by omega) (by omega)
  have m2 := lmul hc hx (by omega) (by omega) (by omega)
  have m3 := lmul hd fq_one (by omega) (by omega) (by omega)
  rw [Rat.mul_one] at m3
  have f0 := ha.mul q3
  have f1 := f0.add (hb.mul q2)
  have f2 := f1.add (hc.mul hx)
  have d0 := ladd fq_zero f0 (by omega) (by omega) (by omega)
  rw [Rat.zero_add] at d0
  have d1 := ladd f0 (hb.mul q2) (by omega) (by omega) (by omega)
  have d2 := ladd f1 (hc.mul hx) (by omega) (by omega) (by omega)
  have d3 := ladd f2 hd (by omega) (by omega) (by omega)
  unfold slE
  unfold frT at *
  exact poly4_t _ _ _ _ _ _ _ _ _ _ _ _ _ _ _ _ _ _ _ _ _ _ _ _ _ _ _ _ _ _ _ _ _ _ _ _ r w0 m0 d0 w1 m1 d1 w2 m2 d2 w3 m3 d3
theorem lpoly3 {n : Nat} {x a b c : Rat} (hx : Fq n x) (ha : Fq 10 a) (hb : Fq 10 b) (hc : Fq 10 c) (h0 : 0 < n ∧ n ≤ 80) : Called Tryz.prog 65 [frT x, slD a b c] (frT (a * x ^ 2 + b * x + c)) := by
  have r := lratio (n := 0) (m := 1) (by omega) (by omega)
  rw [Rat.zero_divInt] at r
  have w1 : Called Tryz.prog 98 [frT x, .int .i64 2] (.tup [frT (x ^ 2), .int .i64 0]) := zpow (m := 2) hx (by omega) h0.1 (by omega) (by omega)
  have w2 : Called Tryz.prog 98 [frT x, .int .i64 1] (.tup [frT (x ^ 1), .int .i64 0]) := zpow (m := 1) hx (by omega) h0.1 (by omega) (by omega)
  have w3 : Called Tryz.prog 98 [frT x, .int .i64 0] (.tup [frT (x ^ 0), .int .i64 0]) := zpow (m := 0) hx (by omega) h0.1 (by omega) (by omega)
  rw [rpow1] at w2
  rw [Rat.pow_zero] at w3
  have q2 := hx.pow (m := 2) (by omega)
  have m1 := lmul ha q2 (by omega) (by omega) (by omega)
  have m2 := lmul hb hx (by omega) (by omega) (by omega)
  have m3 := lmul hc fq_one (by omega) (by omega) (by omega)
  rw [Rat.mul_one] at m3
  have f0 := ha.mul q2
  have f1 := f0.add (hb.mul hx)
  have d0 := ladd fq_zero f0 (by omega) (by omega) (by omega)
  rw [Rat.zero_add] at d0
  have d1 := ladd f0 (hb.mul hx) (by omega) (by omega) (by omega)
  have d2 := ladd f1 hc (by omega) (by omega) (by omega)
  unfold slD
  unfold frT at *
  exact poly3_t _ _ _ _ _ _ _ _ _ _ _ _ _ _ _ _ _ _ _ _ _ _ _ _ _ _ _ _ r w1 m1 d0 w2 m2 d1 w3 m3 d2
end Go.Proofs.YtfilfmadapjajaaGreatDoor
end
