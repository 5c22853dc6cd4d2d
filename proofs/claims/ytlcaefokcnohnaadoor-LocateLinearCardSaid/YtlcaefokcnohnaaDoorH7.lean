/- What some functions of the program answer at values that mean given lists, texts and numbers, each proved of the program's own code: part 7. Conditions: those that each theorem names. -/
import Derived.Test.YtlcaefokcnohnaaDoorH6
set_option linter.unusedSimpArgs false
set_option linter.unusedVariables false
set_option maxHeartbeats 8000000
set_option maxRecDepth 100000
section
namespace Go.Proofs.YtlcaefokcnohnaaDoor
open Go Go.V Go.Nb Go.Gr
def tgA (T0 T1 T2 : Int) : Nat → List Int
  | 0 => [0, 0, 0]
  | 1 => [T0, 0, 0]
  | 2 => [T0, T1, 0]
  | _ => [T0, T1, T2]
def wnS : Nat → D
  | 0 => .nil
  | 1 => .bsl 76 0 1 2
  | 2 => .bsl 76 0 2 2
  | _ => .bsl 76 0 3 2
def wnH (T0 T1 T2 : Int) (a0 b0 a1 b1 a2 b2 : List UInt8) : Nat → Hp
  | 0 => [(10, .arr .i64 [0, 0, 0])]
  | 1 => [(10, .arr .i64 [T0, 0, 0]), (76, .box [.str a0, .str b0])]
  | 2 => [(10, .arr .i64 [T0, T1, 0]), (76, .box [.str a0, .str b0, .str a1, .str b1])]
  | _ => [(10, .arr .i64 [T0, T1, T2]), (76, .box [.str a0, .str b0, .str a1, .str b1, .str a2, .str b2])]
theorem zU35_0 : type_of% @Nat.zero_add ∧ type_of% @tn0 ∧ type_of% @tn1 ∧ type_of% @tn2 := ⟨@Nat.zero_add, @tn0, @tn1, @tn2⟩
theorem zU35_1 : type_of% @Nat.zero_add ∧ type_of% @g3_0 ∧ type_of% @g3_1 ∧ type_of% @g3_2 ∧ type_of% @i3_0 ∧ type_of% @i3_1 ∧ type_of% @i3_2 ∧ type_of% @tn0 ∧ type_of% @tn1 ∧ type_of% @tn2 := ⟨@Nat.zero_add, @g3_0, @g3_1, @g3_2, @i3_0, @i3_1, @i3_2, @tn0, @tn1, @tn2⟩
theorem zU35_2 : type_of% @List.drop_zero.{0} ∧ type_of% @Nat.zero_add ∧ type_of% @g3_0 ∧ type_of% @g3_1 ∧ type_of% @g3_2 ∧ type_of% @i3_0 ∧ type_of% @i3_1 ∧ type_of% @i3_2 ∧ type_of% @tn0 ∧ type_of% @tn1 ∧ type_of% @tn2 ∧ type_of% @tn3 := ⟨@List.drop_zero.{0}, @Nat.zero_add, @g3_0, @g3_1, @g3_2, @i3_0, @i3_1, @i3_2, @tn0, @tn1, @tn2, @tn3⟩
theorem linear_c (a b c m0 m1 m2 t0 t1 t2 : Int) (ha : 0 ≤ a ∧ a ≤ 255) (hb : 0 ≤ b ∧ b ≤ 255) (hc : 0 ≤ c ∧ c ≤ 255) (h0 : 0 ≤ m0 ∧ m0 ≤ 65535) (h1 : 0 ≤ m1 ∧ m1 ≤ 65535) (h2 : 0 ≤ m2 ∧ m2 ≤ 65535) (i0 : 0 ≤ t0 ∧ t0 ≤ 65535) (i1 : 0 ≤ t1 ∧ t1 ≤ 65535) (i2 : 0 ≤ t2 ∧ t2 ≤ 65535) :
    Called Tryd.prog 4 [.iarr .u8 [a, b, c], .iarr .u16 [m0, m1, m2], .iarr .u16 [t0, t1, t2]] (.bool true) := by
  have hworks := works_c
  obtain ⟨p, hp0⟩ : ∃ p, 1 + m0 % 6999 = p := ⟨_, rfl⟩
  obtain ⟨q, hq0⟩ : ∃ p, 1 + m1 % 6999 = p := ⟨_, rfl⟩
  obtain ⟨r, hr0⟩ : ∃ p, 1 + m2 % 6999 = p := ⟨_, rfl⟩
  have hp : 1 ≤ p ∧ p ≤ 6999 := by omega
  have hq : 1 ≤ q ∧ q ≤ 6999 := by omega
  have hr : 1 ≤ r ∧ r ≤ 6999 := by omega
  have hm0 : m0.tmod 6999 = m0 % 6999 := Int.tmod_eq_emod_of_nonneg h0.1
  have hm1 : m1.tmod 6999 = m1 % 6999 := Int.tmod_eq_emod_of_nonneg h1.1
  have hm2 : m2.tmod 6999 = m2 % 6999 := Int.tmod_eq_emod_of_nonneg h2.1
  have hgrid := lgrid_c a b c p q r ha hb hc hp hq hr
  obtain ⟨A, hA0⟩ : ∃ A, s3 a = A := ⟨_, rfl⟩
  obtain ⟨B, hB0⟩ : ∃ A, s3 b = A := ⟨_, rfl⟩
  obtain ⟨C, hC0⟩ : ∃ A, s3 c = A := ⟨_, rfl⟩
  have hA : 2 ≤ A ∧ A ≤ 4 := by have := s3_bd a; omega
  have hB : 2 ≤ B ∧ B ≤ 4 := by have := s3_bd b; omega
  have hC : 2 ≤ C ∧ C ≤ 4 := by have := s3_bd c; omega
  rw [hA0, hB0, hC0] at hgrid
  have hL := lnL_ln (p := p) (q := q) (r := r) hp hq hr hA.2 hB.2 hC.2
  have hlen := lnL_len p q r A B C
  have hchk := fun t ht => lnL_chk (p := p) (q := q) (r := r) hA hB hC (t := t) ht
  have hN : A * B * C ≤ 64 := Nat.mul_le_mul (Nat.mul_le_mul hA.2 hB.2) hC.2
  generalize lnL p q r A B C = data at *
  have mb : ∀ {p : Int} {A : Nat}, 1 ≤ p ∧ p ≤ 6999 → 2 ≤ A ∧ A ≤ 4 → 1 ≤ p * ((A : Int) - 1) ∧ p * ((A : Int) - 1) ≤ 20997 := by
    intro p A h1 h2
    have e1 := Int.mul_le_mul (show p ≤ 6999 from h1.2) (show (A : Int) - 1 ≤ 3 by omega) (by omega) (by omega)
    have e2 := Int.mul_le_mul (show (1 : Int) ≤ p from h1.1) (show (1 : Int) ≤ (A : Int) - 1 by omega) (by omega) (by omega)
    omega
  have b0 := mb hp hA
  have b1 := mb hq hB
  have b2 := mb hr hC
  have fin := fun (t : V3) (u0 : 0 ≤ t.1 ∧ t.1 ≤ p * ((A : Int) - 1)) (u1 : 0 ≤ t.2.1 ∧ t.2.1 ≤ q * ((B : Int) - 1)) (u2 : 0 ≤ t.2.2 ∧ t.2.2 ≤ r * ((C : Int) - 1)) => lin_finds hL (by omega) (by omega) (by omega) hA hB hC (t := t) u0 u1 u2
  have zz : ∀ t : V3, Vl t → (t.1 = p * ((A : Int) - 1) + 1 ∨ t.2.1 = q * ((B : Int) - 1) + 1 ∨ t.2.2 = r * ((C : Int) - 1) + 1) →
      Called Tryd.prog 8 [gridD (sz3 A B C) 3 data, .ints .i64 (v3L t)] (.tup [.int .i64 0, .int .i64 0]) ∧ Called Tryd.prog 7 [gridD (sz3 A B C) 3 data, .ints .i64 (v3L t)] (.tup [.nil, .int .i64 0, .int .i64 4]) := by
    intro t hv ht
    have hn := lin_none hL (by omega) (by omega) (by omega) hA hB hC ht
    have h1 := holds_c (sz3 A B C) 3 data (v3L t) (by simp [sz3]) (by omega) (by simp [v3L])
    have h2 := locate_c (sz3 A B C) 3 data (v3L t) (by simp [sz3]) (by omega) (by simp [v3L])
    rw [hdsR_ok (hchk t hv), cnt_none hn] at h1
    rw [locR_none (hchk t hv) (fnd_none hn)] at h2
    exact ⟨h1, h2⟩
  obtain ⟨M0, hM0⟩ : ∃ M, p * ((A : Int) - 1) = M := ⟨_, rfl⟩
  obtain ⟨M1, hM1⟩ : ∃ M, q * ((B : Int) - 1) = M := ⟨_, rfl⟩
  obtain ⟨M2, hM2⟩ : ∃ M, r * ((C : Int) - 1) = M := ⟨_, rfl⟩
  rw [hM0] at b0
  rw [hM1] at b1
  rw [hM2] at b2
  rw [hM0, hM1, hM2] at fin zz
  obtain ⟨T0, hT0⟩ : ∃ T, t0 % (M0 + 1) = T := ⟨_, rfl⟩
  obtain ⟨T1, hT1⟩ : ∃ T, t1 % (M1 + 1) = T := ⟨_, rfl⟩
  obtain ⟨T2, hT2⟩ : ∃ T, t2 % (M2 + 1) = T := ⟨_, rfl⟩
  have tb : ∀ {t M T : Int}, 1 ≤ M → t % (M + 1) = T → 0 ≤ T ∧ T ≤ M := by
    intro t M T h1 h2
    have e1 := Int.emod_nonneg t (show M + 1 ≠ 0 by omega)
    have e2 := Int.emod_lt_of_pos t (show 0 < M + 1 by omega)
    omega
  have c0 := tb b0.1 hT0
  have c1 := tb b1.1 hT1
  have c2 := tb b2.1 hT2
  have z0 := zz (M0 + 1, T1, T2) (by unfold Vl; dsimp only; omega) (.inl rfl)
  have z1 := zz (T0, M1 + 1, T2) (by unfold Vl; dsimp only; omega) (.inr (.inl rfl))
  have z2 := zz (T0, T1, M2 + 1) (by unfold Vl; dsimp only; omega) (.inr (.inr rfl))
  obtain ⟨n, wa, wb, we, wd, hf, hh, f0, f1, f2⟩ := fin (T0, T1, T2) c0 c1 c2
  dsimp only at f0 f1 f2
  have hch := hchk (T0, T1, T2) (by unfold Vl; dsimp only; omega)
  have hex := ex_some hch hf hh f0 f1 f2
  have hloc := locate_c (sz3 A B C) 3 data (v3L (T0, T1, T2)) (by simp [sz3]) (by omega) (by simp [v3L])
  rw [hex] at hloc
  have hfy := finds_yes (t := (T0, T1, T2)) (dt' := .iarr .i64 [T0, T1, T2]) .iarr (by simp [sz3]) (by omega) hex
  have o0 := lawof_c T0 M0 (by omega) (by omega)
  have o1 := lawof_c T1 M1 (by omega) (by omega)
  have o2 := lawof_c T2 M2 (by omega) (by omega)
  clear hL hchk fin zz hex hch hf hh f0 f1 f2 mb tb
  generalize Rat.divInt T0 M0 = q0 at *
  generalize Rat.divInt T1 M1 = q1 at *
  generalize Rat.divInt T2 M2 = q2 at *
  unfold frF frC at hloc hfy
  unfold frC at o0 o1 o2
  unfold v3L at hloc z0 z1 z2
  obtain ⟨sa0, hsa0⟩ : ∃ s, decZ q0.num = s := ⟨_, rfl⟩
  obtain ⟨sb0, hsb0⟩ : ∃ s, dec q0.den = s := ⟨_, rfl⟩
  obtain ⟨sa1, hsa1⟩ : ∃ s, decZ q1.num = s := ⟨_, rfl⟩
  obtain ⟨sb1, hsb1⟩ : ∃ s, dec q1.den = s := ⟨_, rfl⟩
  obtain ⟨sa2, hsa2⟩ : ∃ s, decZ q2.num = s := ⟨_, rfl⟩
  obtain ⟨sb2, hsb2⟩ : ∃ s, dec q2.den = s := ⟨_, rfl⟩
  rw [hsa0, hsb0] at o0
  rw [hsa1, hsb1] at o1
  rw [hsa2, hsb2] at o2
  rw [hsa0, hsb0, hsa1, hsb1, hsa2, hsb2] at hloc hfy
  simp only [List.cons_append, List.nil_append] at hloc hfy
  unfold gridD sz3 at hgrid hloc hfy z0 z1 z2
  have em0 : t0.tmod (M0 + 1) = t0 % (M0 + 1) := Int.tmod_eq_emod_of_nonneg i0.1
  have em1 : t1.tmod (M1 + 1) = t1 % (M1 + 1) := Int.tmod_eq_emod_of_nonneg i1.1
  have em2 : t2.tmod (M2 + 1) = t2 % (M2 + 1) := Int.tmod_eq_emod_of_nonneg i2.1
  refine called_of_run tbOk 6 ⟨Tryd.func4, rfl, rfl, Nat.le_of_ble_eq_true rfl⟩ ?_
  (conv => whnf)
  (conv => whnf)
  (try simp only [Nat.zero_add])
  repeat ((first | refine V.s1 ?_ | ((try ((with_reducible refine .ext ?_); (conv => whnf); (try simp only [Nat.zero_add]))); (with_reducible refine call_intro (r := ?_) ?_ ?_); rotate_left; (focus (first | exact (hworks))); (conv => whnf))); (try simp only [Nat.zero_add]))
  refine lp_any (0) (fun k => k ≤ 3) (fun k => 3 - k) (fun k => [(27, .int .i64 k)]) (fun k => [(7, .box (lnB a b c p q r k))]) ?_ ?_ ?_
  · exact V.wk
  · exact Nat.zero_le _
  intro k hk
  have hk4 : k = 0 ∨ k = 1 ∨ k = 2 ∨ k = 3 := by omega
  rcases hk4 with e | e | e | e
  all_goals subst e
  · simp only [lnB, k0]
    (conv => whnf)
    (try simp only [zU35_0])
    repeat ((first | refine V.s1 ?_); (try simp only [zU35_0]))
    refine ⟨(.take 0 (.take 1 (.take 2 (.take 3 (.take 4 (.take 5 (.take 6 (.take 7 (.take 8 (.take 9 (.ev (.cons 10 [] (.done) (.nil))))))))))))), ⟨by kernel_rfl, by kernel_rfl, by kernel_rfl⟩, .go ?_⟩
    (conv => whnf)
    (try simp only [zU35_1, hm0, hm1, hm2, hp0, hq0, hr0, Nat.reduceMul, Nat.reduceAdd])
    repeat ((first | refine V.s1 ?_); (try simp only [zU35_1, hm0, hm1, hm2, hp0, hq0, hr0, Nat.reduceMul, Nat.reduceAdd]))
    exact ⟨1, by omega, by omega, V.wk⟩
  · simp only [lnB, k1]
    (conv => whnf)
    (try simp only [zU35_0])
    repeat ((first | refine V.s1 ?_); (try simp only [zU35_0]))
    refine ⟨(.take 0 (.take 1 (.take 2 (.take 3 (.take 4 (.take 5 (.take 6 (.take 7 (.take 8 (.take 9 (.ev (.cons 10 [] (.done) (.nil))))))))))))), ⟨by kernel_rfl, by kernel_rfl, by kernel_rfl⟩, .go ?_⟩
    (conv => whnf)
    (try simp only [zU35_1, hm0, hm1, hm2, hp0, hq0, hr0, Nat.reduceMul, Nat.reduceAdd])
    repeat ((first | refine V.s1 ?_); (try simp only [zU35_1, hm0, hm1, hm2, hp0, hq0, hr0, Nat.reduceMul, Nat.reduceAdd]))
    exact ⟨2, by omega, by omega, V.wk⟩
  · simp only [lnB, k2]
    (conv => whnf)
    (try simp only [zU35_0])
    repeat ((first | refine V.s1 ?_); (try simp only [zU35_0]))
    refine ⟨(.take 0 (.take 1 (.take 2 (.take 3 (.take 4 (.take 5 (.take 6 (.take 7 (.take 8 (.take 9 (.ev (.cons 10 [] (.done) (.nil))))))))))))), ⟨by kernel_rfl, by kernel_rfl, by kernel_rfl⟩, .go ?_⟩
    (conv => whnf)
    (try simp only [zU35_1, hm0, hm1, hm2, hp0, hq0, hr0, Nat.reduceMul, Nat.reduceAdd])
    repeat ((first | refine V.s1 ?_); (try simp only [zU35_1, hm0, hm1, hm2, hp0, hq0, hr0, Nat.reduceMul, Nat.reduceAdd]))
    exact ⟨3, by omega, by omega, V.wk⟩
  simp only [lnB, k3]
  (conv => whnf)
  (try simp only [Nat.zero_add])
  repeat ((first | refine V.s1 ?_ | ((try ((with_reducible refine .ext ?_); (conv => whnf); (try simp only [Nat.zero_add]))); (with_reducible refine call_intro (r := ?_) ?_ ?_); rotate_left; (focus (first | exact (hgrid))); (conv => whnf))); (try simp only [Nat.zero_add]))
  refine lp_any (0 : Nat) (fun k => k ≤ 3) (fun k => 3 - k) (fun k => [(43, .int .i64 k), (11, wnS k)]) (fun k => wnH T0 T1 T2 sa0 sb0 sa1 sb1 sa2 sb2 k) ?_ ?_ ?_
  · exact V.wk
  · exact Nat.zero_le _
  intro k hk
  have hk4 : k = 0 ∨ k = 1 ∨ k = 2 ∨ k = 3 := by omega
  rcases hk4 with e | e | e | e
  all_goals subst e
  · simp only [wnS, wnH, k0]
    (conv => whnf)
    (try simp only [zU35_0])
    repeat ((first | refine V.s1 ?_); (try simp only [zU35_0]))
    refine ⟨(.take 0 (.take 1 (.take 2 (.take 3 (.take 4 (.take 5 (.take 6 (.take 7 (.take 8 (.take 9 (.take 10 (.take 11 (.take 12 (.take 13 (.take 14 (.done)))))))))))))))), ⟨by kernel_rfl, by kernel_rfl, by kernel_rfl⟩, ?_⟩
    refine drw_meet [(13, .int .i64 M0)] [] ?_ ?_
    · (conv => whnf); (try simp only [zU35_1, hM0, hM1, hM2, Nat.reduceMul, Nat.reduceAdd])
      repeat' (first | exact V.wk | ((first | refine V.s1 ?_ | ((with_reducible refine recheck_and ?_ ?_); (focus ((conv => whnf); (try simp only [zU35_1, hM0, hM1, hM2, Nat.reduceMul, Nat.reduceAdd]); (repeat (refine V.s1 ?_; (try simp only [zU35_1, hM0, hM1, hM2, Nat.reduceMul, Nat.reduceAdd]))); exact ⟨rfl⟩)); (conv => whnf))); (try simp only [zU35_1, hM0, hM1, hM2, Nat.reduceMul, Nat.reduceAdd])) | (refine And.intro ?_ ?_ <;> (conv => whnf); (try simp only [zU35_1, hM0, hM1, hM2, Nat.reduceMul, Nat.reduceAdd])))
    (conv => whnf)
    (try simp only [zU35_1, em0, em1, em2, hT0, hT1, hT2])
    repeat ((first | refine V.s1 ?_ | ((try ((with_reducible refine .ext ?_); (conv => whnf); (try simp only [zU35_1, em0, em1, em2, hT0, hT1, hT2]))); (with_reducible refine call_intro (r := ?_) ?_ ?_); rotate_left; (focus (first | exact (o0))); (conv => whnf))); (try simp only [zU35_1, em0, em1, em2, hT0, hT1, hT2]))
    exact ⟨1, by omega, by omega, V.wk⟩
  · simp only [wnS, wnH, k1]
    (conv => whnf)
    (try simp only [zU35_0])
    repeat ((first | refine V.s1 ?_); (try simp only [zU35_0]))
    refine ⟨(.take 0 (.take 1 (.take 2 (.take 3 (.take 4 (.take 5 (.take 6 (.take 7 (.take 8 (.take 9 (.take 10 (.take 11 (.take 12 (.take 13 (.take 14 (.done)))))))))))))))), ⟨by kernel_rfl, by kernel_rfl, by kernel_rfl⟩, ?_⟩
    refine drw_meet [(13, .int .i64 M1)] [] ?_ ?_
    · (conv => whnf); (try simp only [zU35_1, hM0, hM1, hM2, Nat.reduceMul, Nat.reduceAdd])
      repeat' (first | exact V.wk | ((first | refine V.s1 ?_ | ((with_reducible refine recheck_and ?_ ?_); (focus ((conv => whnf); (try simp only [zU35_1, hM0, hM1, hM2, Nat.reduceMul, Nat.reduceAdd]); (repeat (refine V.s1 ?_; (try simp only [zU35_1, hM0, hM1, hM2, Nat.reduceMul, Nat.reduceAdd]))); exact ⟨rfl⟩)); (conv => whnf))); (try simp only [zU35_1, hM0, hM1, hM2, Nat.reduceMul, Nat.reduceAdd])) | (refine And.intro ?_ ?_ <;> (conv => whnf); (try simp only [zU35_1, hM0, hM1, hM2, Nat.reduceMul, Nat.reduceAdd])))
    (conv => whnf)
    (try simp only [zU35_1, em0, em1, em2, hT0, hT1, hT2])
    repeat ((first | refine V.s1 ?_ | ((try ((with_reducible refine .ext ?_); (conv => whnf); (try simp only [zU35_1, em0, em1, em2, hT0, hT1, hT2]))); (with_reducible refine call_intro (r := ?_) ?_ ?_); rotate_left; (focus (first | exact (o1))); (conv => whnf))); (try simp only [zU35_1, em0, em1, em2, hT0, hT1, hT2]))
    exact ⟨2, by omega, by omega, V.wk⟩
  · simp only [wnS, wnH, k2]
    (conv => whnf)
    (try simp only [zU35_0])
    repeat ((first | refine V.s1 ?_); (try simp only [zU35_0]))
    refine ⟨(.take 0 (.take 1 (.take 2 (.take 3 (.take 4 (.take 5 (.take 6 (.take 7 (.take 8 (.take 9 (.take 10 (.take 11 (.take 12 (.take 13 (.take 14 (.done)))))))))))))))), ⟨by kernel_rfl, by kernel_rfl, by kernel_rfl⟩, ?_⟩
    refine drw_meet [(13, .int .i64 M2)] [] ?_ ?_
    · (conv => whnf); (try simp only [zU35_1, hM0, hM1, hM2, Nat.reduceMul, Nat.reduceAdd])
      repeat' (first | exact V.wk | ((first | refine V.s1 ?_ | ((with_reducible refine recheck_and ?_ ?_); (focus ((conv => whnf); (try simp only [zU35_1, hM0, hM1, hM2, Nat.reduceMul, Nat.reduceAdd]); (repeat (refine V.s1 ?_; (try simp only [zU35_1, hM0, hM1, hM2, Nat.reduceMul, Nat.reduceAdd]))); exact ⟨rfl⟩)); (conv => whnf))); (try simp only [zU35_1, hM0, hM1, hM2, Nat.reduceMul, Nat.reduceAdd])) | (refine And.intro ?_ ?_ <;> (conv => whnf); (try simp only [zU35_1, hM0, hM1, hM2, Nat.reduceMul, Nat.reduceAdd])))
    (conv => whnf)
    (try simp only [zU35_1, em0, em1, em2, hT0, hT1, hT2])
    repeat ((first | refine V.s1 ?_ | ((try ((with_reducible refine .ext ?_); (conv => whnf); (try simp only [zU35_1, em0, em1, em2, hT0, hT1, hT2]))); (with_reducible refine call_intro (r := ?_) ?_ ?_); rotate_left; (focus (first | exact (o2))); (conv => whnf))); (try simp only [zU35_1, em0, em1, em2, hT0, hT1, hT2]))
    exact ⟨3, by omega, by omega, V.wk⟩
  simp only [wnS, wnH, k3]
  (conv => whnf)
  (try simp only [Nat.zero_add])
  repeat ((first | refine V.s1 ?_); (try simp only [Nat.zero_add]))
  have hk3 : t0 % 3 = 0 ∨ t0 % 3 = 1 ∨ t0 % 3 = 2 := by omega
  obtain ⟨z00, z01⟩ := z0
  obtain ⟨z10, z11⟩ := z1
  obtain ⟨z20, z21⟩ := z2
  refine ⟨(.take 0 (.take 1 (.ev (.cons 2 [] (.take 3 (.take 4 (.take 5 (.take 6 (.take 7 (.take 8 (.take 9 (.done)))))))) (.nil))))), ⟨by kernel_rfl, by kernel_rfl, by kernel_rfl⟩, .go ?_⟩
  (conv => whnf)
  (try simp only [Nat.zero_add])
  repeat ((first | refine V.s1 ?_); (try simp only [Nat.zero_add]))
  refine .len ?_
  (conv => whnf)
  refine ⟨10, ?_⟩
  (conv => whnf)
  refine call_intro (r := ?_) ?_ ?_
  rotate_left
  · exact hloc
  (conv => whnf)
  rcases hk3 with e | e | e
  · (conv => whnf)
    (try simp only [zU35_2, e])
    repeat ((first | refine V.s1 ?_ | ((try ((with_reducible refine .ext ?_); (conv => whnf); (try simp only [zU35_2, e]))); (with_reducible refine call_intro (r := ?_) ?_ ?_); rotate_left; (focus (first | exact (hfy))); (conv => whnf))); (try simp only [zU35_2, e]))
    refine ⟨(.take 0 (.take 1 (.take 2 (.take 3 (.take 4 (.take 5 (.take 6 (.take 7 (.take 8 (.take 9 (.take 10 (.take 11 (.take 12 (.take 13 (.take 14 (.take 15 (.take 16 (.ev (.cons 17 [] (.done) (.nil)))))))))))))))))))), ⟨by kernel_rfl, by kernel_rfl, by kernel_rfl⟩, ?_⟩
    refine drw_meet [] [(10, .arr .i64 [M0 + 1, T1, T2])] ?_ ?_
    · (conv => whnf); (try simp only [zU35_1, hM0, hM1, hM2, e, Nat.reduceMul, Nat.reduceAdd])
      repeat' (first | exact V.wk | ((first | refine V.s1 ?_ | ((with_reducible refine recheck_and ?_ ?_); (focus ((conv => whnf); (try simp only [zU35_1, hM0, hM1, hM2, e, Nat.reduceMul, Nat.reduceAdd]); (repeat (refine V.s1 ?_; (try simp only [zU35_1, hM0, hM1, hM2, e, Nat.reduceMul, Nat.reduceAdd]))); exact ⟨rfl⟩)); (conv => whnf))); (try simp only [zU35_1, hM0, hM1, hM2, e, Nat.reduceMul, Nat.reduceAdd])) | (refine And.intro ?_ ?_ <;> (conv => whnf); (try simp only [zU35_1, hM0, hM1, hM2, e, Nat.reduceMul, Nat.reduceAdd])))
    (conv => whnf)
    (try simp only [Nat.zero_add])
    repeat ((first | refine V.s1 ?_); (try simp only [Nat.zero_add]))
    refine ⟨(.take 0 (.take 1 (.ev (.cons 2 [] (.take 3 (.take 4 (.take 5 (.take 6 (.take 7 (.done)))))) (.nil))))), ⟨by kernel_rfl, by kernel_rfl, by kernel_rfl⟩, .go ?_⟩
    (conv => whnf)
    (try simp only [Nat.zero_add])
    repeat ((first | refine V.s1 ?_); (try simp only [Nat.zero_add]))
    refine .len ?_
    (conv => whnf)
    refine ⟨10, ?_⟩
    (conv => whnf)
    refine call_intro (r := ?_) ?_ ?_
    rotate_left
    · exact z00
    (conv => whnf)
    (conv => whnf)
    (try simp only [Nat.zero_add])
    repeat ((first | refine V.s1 ?_); (try simp only [Nat.zero_add]))
    refine ⟨(.take 0 (.take 1 (.ev (.cons 2 [] (.take 3 (.take 4 (.take 5 (.take 6 (.take 7 (.take 8 (.take 9 (.done)))))))) (.nil))))), ⟨by kernel_rfl, by kernel_rfl, by kernel_rfl⟩, .go ?_⟩
    (conv => whnf)
    (try simp only [Nat.zero_add])
    repeat ((first | refine V.s1 ?_); (try simp only [Nat.zero_add]))
    refine .len ?_
    (conv => whnf)
    refine ⟨10, ?_⟩
    (conv => whnf)
    refine call_intro (r := ?_) ?_ ?_
    rotate_left
    · exact z01
    (conv => whnf)
    (conv => whnf)
    (try simp only [Nat.zero_add])
    repeat ((first | refine V.s1 ?_); (try simp only [Nat.zero_add]))
    exact Fin.of rfl
  · (conv => whnf)
    (try simp only [zU35_2, e])
    repeat ((first | refine V.s1 ?_ | ((try ((with_reducible refine .ext ?_); (conv => whnf); (try simp only [zU35_2, e]))); (with_reducible refine call_intro (r := ?_) ?_ ?_); rotate_left; (focus (first | exact (hfy))); (conv => whnf))); (try simp only [zU35_2, e]))
    refine ⟨(.take 0 (.take 1 (.take 2 (.take 3 (.take 4 (.take 5 (.take 6 (.take 7 (.take 8 (.take 9 (.take 10 (.take 11 (.take 12 (.take 13 (.take 14 (.take 15 (.take 16 (.ev (.cons 17 [] (.done) (.nil)))))))))))))))))))), ⟨by kernel_rfl, by kernel_rfl, by kernel_rfl⟩, ?_⟩
    refine drw_meet [] [(10, .arr .i64 [T0, M1 + 1, T2])] ?_ ?_
    · (conv => whnf); (try simp only [zU35_1, hM0, hM1, hM2, e, Nat.reduceMul, Nat.reduceAdd])
      repeat' (first | exact V.wk | ((first | refine V.s1 ?_ | ((with_reducible refine recheck_and ?_ ?_); (focus ((conv => whnf); (try simp only [zU35_1, hM0, hM1, hM2, e, Nat.reduceMul, Nat.reduceAdd]); (repeat (refine V.s1 ?_; (try simp only [zU35_1, hM0, hM1, hM2, e, Nat.reduceMul, Nat.reduceAdd]))); exact ⟨rfl⟩)); (conv => whnf))); (try simp only [zU35_1, hM0, hM1, hM2, e, Nat.reduceMul, Nat.reduceAdd])) | (refine And.intro ?_ ?_ <;> (conv => whnf); (try simp only [zU35_1, hM0, hM1, hM2, e, Nat.reduceMul, Nat.reduceAdd])))
    (conv => whnf)
    (try simp only [Nat.zero_add])
    repeat ((first | refine V.s1 ?_); (try simp only [Nat.zero_add]))
    refine ⟨(.take 0 (.take 1 (.ev (.cons 2 [] (.take 3 (.take 4 (.take 5 (.take 6 (.take 7 (.done)))))) (.nil))))), ⟨by kernel_rfl, by kernel_rfl, by kernel_rfl⟩, .go ?_⟩
    (conv => whnf)
    (try simp only [Nat.zero_add])
    repeat ((first | refine V.s1 ?_); (try simp only [Nat.zero_add]))
    refine .len ?_
    (conv => whnf)
    refine ⟨10, ?_⟩
    (conv => whnf)
    refine call_intro (r := ?_) ?_ ?_
    rotate_left
    · exact z10
    (conv => whnf)
    (conv => whnf)
    (try simp only [Nat.zero_add])
    repeat ((first | refine V.s1 ?_); (try simp only [Nat.zero_add]))
    refine ⟨(.take 0 (.take 1 (.ev (.cons 2 [] (.take 3 (.take 4 (.take 5 (.take 6 (.take 7 (.take 8 (.take 9 (.done)))))))) (.nil))))), ⟨by kernel_rfl, by kernel_rfl, by kernel_rfl⟩, .go ?_⟩
    (conv => whnf)
    (try simp only [Nat.zero_add])
    repeat ((first | refine V.s1 ?_); (try simp only [Nat.zero_add]))
    refine .len ?_
    (conv => whnf)
    refine ⟨10, ?_⟩
    (conv => whnf)
    refine call_intro (r := ?_) ?_ ?_
    rotate_left
    · exact z11
    (conv => whnf)
    (conv => whnf)
    (try simp only [Nat.zero_add])
    repeat ((first | refine V.s1 ?_); (try simp only [Nat.zero_add]))
    exact Fin.of rfl
  · (conv => whnf)
    (try simp only [zU35_2, e])
    repeat ((first | refine V.s1 ?_ | ((try ((with_reducible refine .ext ?_); (conv => whnf); (try simp only [zU35_2, e]))); (with_reducible refine call_intro (r := ?_) ?_ ?_); rotate_left; (focus (first | exact (hfy))); (conv => whnf))); (try simp only [zU35_2, e]))
    refine ⟨(.take 0 (.take 1 (.take 2 (.take 3 (.take 4 (.take 5 (.take 6 (.take 7 (.take 8 (.take 9 (.take 10 (.take 11 (.take 12 (.take 13 (.take 14 (.take 15 (.take 16 (.ev (.cons 17 [] (.done) (.nil)))))))))))))))))))), ⟨by kernel_rfl, by kernel_rfl, by kernel_rfl⟩, ?_⟩
    refine drw_meet [] [(10, .arr .i64 [T0, T1, M2 + 1])] ?_ ?_
    · (conv => whnf); (try simp only [zU35_1, hM0, hM1, hM2, e, Nat.reduceMul, Nat.reduceAdd])
      repeat' (first | exact V.wk | ((first | refine V.s1 ?_ | ((with_reducible refine recheck_and ?_ ?_); (focus ((conv => whnf); (try simp only [zU35_1, hM0, hM1, hM2, e, Nat.reduceMul, Nat.reduceAdd]); (repeat (refine V.s1 ?_; (try simp only [zU35_1, hM0, hM1, hM2, e, Nat.reduceMul, Nat.reduceAdd]))); exact ⟨rfl⟩)); (conv => whnf))); (try simp only [zU35_1, hM0, hM1, hM2, e, Nat.reduceMul, Nat.reduceAdd])) | (refine And.intro ?_ ?_ <;> (conv => whnf); (try simp only [zU35_1, hM0, hM1, hM2, e, Nat.reduceMul, Nat.reduceAdd])))
    (conv => whnf)
    (try simp only [Nat.zero_add])
    repeat ((first | refine V.s1 ?_); (try simp only [Nat.zero_add]))
    refine ⟨(.take 0 (.take 1 (.ev (.cons 2 [] (.take 3 (.take 4 (.take 5 (.take 6 (.take 7 (.done)))))) (.nil))))), ⟨by kernel_rfl, by kernel_rfl, by kernel_rfl⟩, .go ?_⟩
    (conv => whnf)
    (try simp only [Nat.zero_add])
    repeat ((first | refine V.s1 ?_); (try simp only [Nat.zero_add]))
    refine .len ?_
    (conv => whnf)
    refine ⟨10, ?_⟩
    (conv => whnf)
    refine call_intro (r := ?_) ?_ ?_
    rotate_left
    · exact z20
    (conv => whnf)
    (conv => whnf)
    (try simp only [Nat.zero_add])
    repeat ((first | refine V.s1 ?_); (try simp only [Nat.zero_add]))
    refine ⟨(.take 0 (.take 1 (.ev (.cons 2 [] (.take 3 (.take 4 (.take 5 (.take 6 (.take 7 (.take 8 (.take 9 (.done)))))))) (.nil))))), ⟨by kernel_rfl, by kernel_rfl, by kernel_rfl⟩, .go ?_⟩
    (conv => whnf)
    (try simp only [Nat.zero_add])
    repeat ((first | refine V.s1 ?_); (try simp only [Nat.zero_add]))
    refine .len ?_
    (conv => whnf)
    refine ⟨10, ?_⟩
    (conv => whnf)
    refine call_intro (r := ?_) ?_ ?_
    rotate_left
    · exact z21
    (conv => whnf)
    (conv => whnf)
    (try simp only [Nat.zero_add])
    repeat ((first | refine V.s1 ?_); (try simp only [Nat.zero_add]))
    exact Fin.of rfl
end Go.Proofs.YtlcaefokcnohnaaDoor
end
