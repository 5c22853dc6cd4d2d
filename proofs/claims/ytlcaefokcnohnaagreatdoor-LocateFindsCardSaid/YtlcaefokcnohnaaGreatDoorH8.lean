/- What some functions of the program answer at values that mean given lists, texts and numbers, each proved of the program's own code: part 8. Conditions: those that each theorem names. -/
import Derived.Test.YtlcaefokcnohnaaGreatDoorH7
import Derived.Test.YtlcaefokcnohnaaGreatDoorH6
set_option linter.unusedSimpArgs false
set_option linter.unusedVariables false
set_option maxHeartbeats 8000000
set_option maxRecDepth 100000
section
namespace Go.Proofs.YtlcaefokcnohnaaGreatDoor
open Go Go.V Go.Nb Go.Gr
theorem locR_cases (size : List Int) (out : Int) (data ts : List Int) : (∃ e, locR size out data ts = .tup [.nil, .int .i64 0, .int .i64 e]) ∨ ∃ q0 q1 q2, ∃ n : Nat, locR size out data ts = .tup [.slf 2 3 (frF q0 q1 q2), .int .i64 n, .int .i64 0] := by
  unfold locR
  split
  · split
    · exact .inl ⟨_, rfl⟩
    · split
      · exact .inl ⟨_, rfl⟩
      · exact .inr ⟨_, _, _, _, rfl⟩
  · exact .inl ⟨_, rfl⟩
theorem hdsR_cases (size : List Int) (out : Int) (data ts : List Int) : ∃ c e, hdsR size out data ts = .tup [.int .i64 c, .int .i64 e] := by
  unfold hdsR
  split
  · exact ⟨_, _, rfl⟩
  · exact ⟨_, _, rfl⟩
structure Both (g l r h : D) : Prop where
  loc : Called Tryz.prog 8 [g, l] r
  rloc : Called Tryz.prog 9 [g, l] r
  hds : Called Tryz.prog 10 [g, l] h
  rhds : Called Tryz.prog 11 [g, l] h
theorem both_ok (size : List Int) (out : Int) (data ts : List Int) (hs : size.length ≤ 281474976710656) (hd : data.length ≤ 281474976710656) (ht : ts.length ≤ 281474976710656) :
    ∃ c f, (∃ e, Both (.agg [.ints .i64 size, .int .i64 out, .ints .i64 data]) (.ints .i64 ts) (.tup [.nil, .int .i64 0, .int .i64 e]) (.tup [.int .i64 c, .int .i64 f])) ∨
      ∃ q0 q1 q2, ∃ n : Nat, Both (.agg [.ints .i64 size, .int .i64 out, .ints .i64 data]) (.ints .i64 ts) (.tup [.slf 2 3 (frF q0 q1 q2), .int .i64 n, .int .i64 0]) (.tup [.int .i64 c, .int .i64 f]) := by
  have h1 := locate_c size out data ts hs hd ht
  have h2 := rlocate_c size out data ts hs hd ht
  have h3 := holds_c size out data ts hs hd ht
  have h4 := rholds_c size out data ts hs hd ht
  obtain ⟨c, f, h⟩ := hdsR_cases size out data ts
  rw [h] at h3 h4
  refine ⟨c, f, ?_⟩
  rcases locR_cases size out data ts with ⟨e, h⟩ | ⟨q0, q1, q2, n, h⟩
  · rw [h] at h1 h2
    exact .inl ⟨e, h1, h2, h3, h4⟩
  · rw [h] at h1 h2
    exact .inr ⟨q0, q1, q2, n, h1, h2, h3, h4⟩
theorem zU28_0 : type_of% @List.length_nil.{0} ∧ type_of% @List.nil_append.{0} ∧ type_of% @Nat.zero_add := ⟨@List.length_nil.{0}, @List.nil_append.{0}, @Nat.zero_add⟩
theorem zU28_1 : type_of% @List.drop_zero.{0} ∧ type_of% @Nat.zero_add ∧ type_of% @g3_0 ∧ type_of% @g3_1 ∧ type_of% @g3_2 ∧ type_of% @i3_0 ∧ type_of% @i3_1 ∧ type_of% @i3_2 := ⟨@List.drop_zero.{0}, @Nat.zero_add, @g3_0, @g3_1, @g3_2, @i3_0, @i3_1, @i3_2⟩
theorem zU28_2 : type_of% @Nat.zero_add ∧ type_of% @k4 := ⟨@Nat.zero_add, @k4⟩
theorem finds_c (a b c m0 m1 m2 m3 m4 m5 m6 m7 m8 : Int) (off : List Int) (ha : 0 ≤ a ∧ a ≤ 255) (hb : 0 ≤ b ∧ b ≤ 255) (hc : 0 ≤ c ∧ c ≤ 255) (hm : ∀ x ∈ [m0, m1, m2, m3, m4, m5, m6, m7, m8], 0 ≤ x ∧ x ≤ 65535) (ho : ∀ x ∈ off, -32768 ≤ x ∧ x ≤ 32767) (hol : off.length ≤ 281474976710656)
    (ds : List Int) (dout : Int) (vals : List Int) (sm : Bool) (hds : ∀ v ∈ ds, 0 ≤ v ∧ v ≤ 255) (hdl : ds.length ≤ 281474976710656) (hdo : 0 ≤ dout ∧ dout ≤ 255) (hv : ∀ v ∈ vals, 0 ≤ v ∧ v ≤ 65535) (hvl : vals.length ≤ 281474976710656)
    (a0 a1 a2 a3 o0 o1 o2 t0 t1 t2 : Int) (hat : (0 ≤ a0 ∧ a0 ≤ 255) ∧ (0 ≤ a1 ∧ a1 ≤ 255) ∧ (0 ≤ a2 ∧ a2 ≤ 255) ∧ (0 ≤ a3 ∧ a3 ≤ 255)) (hof : (-32768 ≤ o0 ∧ o0 ≤ 32767) ∧ (-32768 ≤ o1 ∧ o1 ≤ 32767) ∧ (-32768 ≤ o2 ∧ o2 ≤ 32767)) (hts : (0 ≤ t0 ∧ t0 ≤ 65535) ∧ (0 ≤ t1 ∧ t1 ≤ 65535) ∧ (0 ≤ t2 ∧ t2 ≤ 65535)) (raw : List Int) (hraw : raw.length ≤ 281474976710656) :
    Called Tryz.prog 3 [cubeD a b c m0 m1 m2 m3 m4 m5 m6 m7 m8 off, draftD ds dout vals sm, .iarr .u8 [a0, a1, a2, a3], .iarr .i16 [o0, o1, o2], .iarr .u16 [t0, t1, t2], .ints .i64 raw] (.bool true) := by
  have hown := cgrid_c a b c m0 m1 m2 m3 m4 m5 m6 m7 m8 off ha hb hc hm ho hol
  have hlen := cbL_len [m0, m1, m2, m3, m4, m5, m6, m7, m8] off (s3 b) (s3 c) (s3 a * s3 b * s3 c * 3)
  have hbdd := cbL_bd [m0, m1, m2, m3, m4, m5, m6, m7, m8] off (s3 b) (s3 c) (s3 a * s3 b * s3 c * 3)
  generalize cbL [m0, m1, m2, m3, m4, m5, m6, m7, m8] off (s3 b) (s3 c) (s3 a * s3 b * s3 c * 3) = CD at *
  have ba := s3_bd a
  have bb := s3_bd b
  have bc := s3_bd c
  obtain ⟨N, hN⟩ : ∃ N, s3 a * s3 b * s3 c = N := ⟨_, rfl⟩
  have hN1 : 1 ≤ N ∧ N ≤ 64 := by
    rw [← hN]
    have h1 : s3 a * s3 b ≤ 4 * 4 := Nat.mul_le_mul ba.2 bb.2
    have h2 : s3 a * s3 b * s3 c ≤ 16 * 4 := Nat.mul_le_mul h1 bc.2
    have h3 : 1 * 1 ≤ s3 a * s3 b := Nat.mul_le_mul (by omega) (by omega)
    have h4 : 1 * 1 ≤ s3 a * s3 b * s3 c := Nat.mul_le_mul h3 (by omega)
    omega
  rw [hN] at hlen
  have hCL : CD.length = 3 * N := by omega
  have hzl : (sz3 (s3 a) (s3 b) (s3 c)).length = 3 := rfl
  generalize sz3 (s3 a) (s3 b) (s3 c) = SZ at *
  clear hN ba bb bc
  have hthree := three_c ds dout vals sm hds hdl hdo hv hvl
  have hth : (nz (thrD ds)).length ≤ 281474976710656 ∧ (thData ds vals sm).length ≤ 281474976710656 := by
    have h1 : (thData ds vals sm).length = PR (thrD ds) * 3 := flat_length fun j => by simp [mkF]
    have h2 := th1_bd ds 0
    have h3 := th1_bd ds 1
    have h4 := th1_bd ds 2
    have h5 : PR (thrD ds) ≤ 9 ^ 4 := PR_le (by simp [thrD]) (fun n hn => by
      simp only [thrD, List.mem_cons, List.not_mem_nil, or_false] at hn
      rcases hn with rfl | rfl | rfl <;> omega)
    refine ⟨by simp [thrD, nz], ?_⟩
    omega
  generalize nz (thrD ds) = TS at *
  generalize thData ds vals sm = TD at *
  have hany := draft_c ds dout vals sm hds hdl hdo hv hvl
  have hgr : (nz (nsD ds)).length ≤ 281474976710656 ∧ (dData ds dout vals sm).length ≤ 281474976710656 := by
    have hb2 := nsD_bd ds
    have hw := wD_bd dout
    have h1 : (dData ds dout vals sm).length = PR (nsD ds) * wD dout := flat_length fun j => by simp [mkF]
    have h5 : PR (nsD ds) ≤ 9 ^ 4 := PR_le (by omega) (fun n hn => by have := hb2.2 n hn; omega)
    have h6 : PR (nsD ds) * wD dout ≤ 9 ^ 4 * 3 := Nat.mul_le_mul h5 hw.2
    refine ⟨by simp [nz]; omega, ?_⟩
    omega
  generalize nz (nsD ds) = AS at *
  generalize dData ds dout vals sm = AD at *
  obtain ⟨ao, hao⟩ : ∃ ao, (wD dout : Int) = ao := ⟨_, rfl⟩
  rw [hao] at hany
  clear hao
  have hnear := near_c (size := SZ) hCL hN1.1 (by omega) hbdd hat hof
  have hnear0 := near_c (size := SZ) (o0 := 0) (o1 := 0) (o2 := 0) hCL hN1.1 (by omega) hbdd hat (by omega)
  generalize nrV CD N a0 a1 a2 a3 0 o0 = n0 at *
  generalize nrV CD N a0 a1 a2 a3 1 o1 = n1 at *
  generalize nrV CD N a0 a1 a2 a3 2 o2 = n2 at *
  generalize nrV CD N a0 a1 a2 a3 0 0 = p0 at *
  generalize nrV CD N a0 a1 a2 a3 1 0 = p1 at *
  generalize nrV CD N a0 a1 a2 a3 2 0 = p2 at *
  have hworks := works_c
  obtain ⟨RW, hRW0⟩ : ∃ RW, raw.take (min (raw.length : Int) 5).toNat = RW := ⟨_, rfl⟩
  have hRW : RW.length ≤ 281474976710656 := by rw [← hRW0, List.length_take]; omega
  have hsn := rsame_nil
  have hsf := rsame_frs
  unfold cubeD at hown ⊢
  unfold draftD at hthree hany ⊢
  unfold gridD at hown hthree hany hnear hnear0
  have hnear1 : Called Tryz.prog 7 [.agg [.ints .i64 SZ, .int .i64 3, .ints .i64 CD], .iarr .u8 [a0, a1, a2, a3], .agg [.int .i16 0, .int .i16 0, .int .i16 0]] (.ints .i64 [p0, p1, p2]) := Called.conv hnear0 fun h vs H => by
    simp only [DenL] at H ⊢
    obtain ⟨v, r, e, k1, v2, r2, e2, k2, v3, r3, e3, k3, e4⟩ := H
    exact ⟨v, r, e, k1, v2, r2, e2, k2, v3, r3, e3, den_agg_iarr (xs := [0, 0, 0]) k3, e4⟩
  refine called_of_run tbOk 6 ⟨Tryz.func3, rfl, rfl, Nat.le_of_ble_eq_true rfl⟩ ?_
  (conv => whnf)
  (conv => whnf)
  (try simp only [Nat.zero_add])
  repeat ((first | refine V.s1 ?_ | ((try ((with_reducible refine .ext ?_); (conv => whnf); (try simp only [Nat.zero_add]))); (with_reducible refine call_intro (r := ?_) ?_ ?_); rotate_left; (focus (first | exact (hown))); (conv => whnf))); (try simp only [Nat.zero_add]))
  refine ⟨(.take 0 (.take 1 (.take 2 (.take 3 (.take 5 (.take 6 (.ev (.cons 4 [6, 5, 3, 2, 1, 0] (.ev (.cons 7 [3, 2, 1, 0] (.take 8 (.ev (.cons 9 [8, 3, 2, 1, 0] (.ev (.cons 10 [] (.done) (.nil))) (.nil)))) (.cons 9 [6, 5, 3, 2, 1, 0] (.ev (.cons 7 [3, 2, 1, 0] (.take 8 (.ev (.cons 10 [] (.done) (.nil)))) (.nil))) (.nil)))) (.cons 9 [6, 5, 3, 2, 1, 0] (.ev (.cons 4 [6, 5, 3, 2, 1, 0] (.ev (.cons 7 [3, 2, 1, 0] (.take 8 (.ev (.cons 10 [] (.done) (.nil)))) (.nil))) (.nil))) (.nil)))))))))), ⟨by kernel_rfl, by kernel_rfl, by kernel_rfl⟩, ?_⟩
  refine drw_meet [(14, .box 14 0), (38, .osl 38 0 CD.length)] [(14, .box [.ints .i64 SZ, .int .i64 3, .osl 38 0 CD.length]), (38, .arr .i64 CD)] ?_ ?_
  · (conv => whnf); (try simp only [zU28_0])
    repeat' (first | exact V.wk | ((first | refine V.s1 ?_ | ((with_reducible refine recheck_and ?_ ?_); (focus ((conv => whnf); (try simp only [zU28_0]); (repeat (refine V.s1 ?_; (try simp only [zU28_0]))); exact ⟨rfl⟩)); (conv => whnf))); (try simp only [zU28_0])) | (refine And.intro ?_ ?_ <;> (conv => whnf); (try simp only [zU28_0])))
  have hm0 : 0 ≤ a0 % (CD.length : Int) ∧ a0 % (CD.length : Int) < CD.length := ⟨Int.emod_nonneg _ (by omega), Int.emod_lt_of_pos _ (by omega)⟩
  have hm1 : a0.tmod (CD.length : Int) = a0 % (CD.length : Int) := Int.tmod_eq_emod_of_nonneg hat.1.1
  obtain ⟨BD, hBD⟩ : ∃ BD, CD.set (a0 % (CD.length : Int)).toNat (-1 - a1) = BD := ⟨_, rfl⟩
  have hBL : BD.length = CD.length := by rw [← hBD, List.length_set]
  (conv => whnf)
  (try simp only [Nat.zero_add])
  repeat ((first | refine V.s1 ?_); (try simp only [Nat.zero_add]))
  refine ⟨(.take 0 (.take 1 (.take 2 (.take 3 (.take 4 (.take 5 (.take 6 (.take 7 (.take 8 (.take 9 (.take 10 (.take 11 (.take 12 (.take 13 (.ev (.cons 14 [] (.done) (.nil))))))))))))))))), ⟨by kernel_rfl, by kernel_rfl, by kernel_rfl⟩, .go ?_⟩
  (conv => whnf)
  (try simp only [Nat.zero_add, hm1, i4_0, i4_1, g4_0, g4_1, hBD])
  repeat ((first | refine V.s1 ?_); (try simp only [Nat.zero_add, hm1, i4_0, i4_1, g4_0, g4_1, hBD]))
  refine ⟨(.take 0 (.take 1 (.take 3 (.take 5 (.take 7 (.ev (.cons 2 [7, 5, 3, 0] (.ev (.cons 4 [7, 5, 0] (.take 6 (.done)) (.nil))) (.nil)))))))), ⟨by kernel_rfl, by kernel_rfl, by kernel_rfl⟩, .go ?_⟩
  (conv => whnf)
  (try simp only [Nat.zero_add, hm1, i4_0, i4_1, g4_0, g4_1, hBD])
  repeat ((first | refine V.s1 ?_ | ((try ((with_reducible refine .ext ?_); (conv => whnf); (try simp only [Nat.zero_add, hm1, i4_0, i4_1, g4_0, g4_1, hBD]))); (with_reducible refine call_intro (r := ?_) ?_ ?_); rotate_left; (focus (first | exact (hthree) | exact (hany))); (conv => whnf))); (try simp only [Nat.zero_add, hm1, i4_0, i4_1, g4_0, g4_1, hBD]))
  have htk : List.take CD.length BD = BD := List.take_of_length_le (by omega)
  refine Lp.pub 38 ?_
  (conv => whnf)
  simp only [htk]
  refine lp_any (0) (fun k => k ≤ 4) (fun k => 4 - k) (fun k => [(61, .int .i64 k)]) (fun k => []) ?_ ?_ ?_
  · exact V.wk
  · exact Nat.zero_le _
  intro k hk
  have hk5 : k = 0 ∨ k = 1 ∨ k = 2 ∨ k = 3 ∨ k = 4 := by omega
  rcases hk5 with e | e | e | e | e
  all_goals subst e
  · have L0 := both_ok SZ 3 CD [n0, n1, n2] (by omega) (by omega) (by simp)
    have L1 := both_ok SZ 3 CD [p0, p1, p2] (by omega) (by omega) (by simp)
    have L2 := both_ok SZ 3 CD [t0, t1, t2] (by omega) (by omega) (by simp)
    have L3 := both_ok SZ 3 CD RW (by omega) (by omega) hRW
    simp only [k0]
    (conv => whnf)
    (try simp only [Nat.zero_add])
    repeat ((first | refine V.s1 ?_); (try simp only [Nat.zero_add]))
    refine ⟨(.take 0 (.take 1 (.take 2 (.take 4 (.take 5 (.take 6 (.take 8 (.take 9 (.take 10 (.take 11 (.take 12 (.take 13 (.take 14 (.take 15 (.take 16 (.take 18 (.take 19 (.take 20 (.take 21 (.take 22 (.take 24 (.ev (.cons 3 [24, 22, 21, 20, 19, 18, 16, 15, 14, 13, 12, 11, 10, 9, 8, 6, 5, 4] (.ev (.cons 7 [24, 22, 21, 20, 19, 18, 16, 15, 14, 13, 12, 11, 10, 9, 8] (.ev (.cons 17 [24, 22, 21, 20, 19, 18] (.take 23 (.done)) (.nil))) (.cons 17 [24, 22, 21, 20, 19, 18, 6, 5, 4] (.ev (.cons 7 [24, 22, 21, 20, 19, 18] (.take 23 (.done)) (.nil))) (.nil)))) (.cons 17 [24, 22, 21, 20, 19, 18, 6, 5, 4, 2, 1, 0] (.ev (.cons 3 [24, 22, 21, 20, 19, 18, 6, 5, 4] (.ev (.cons 7 [24, 22, 21, 20, 19, 18] (.take 23 (.done)) (.nil))) (.nil))) (.nil))))))))))))))))))))))))), ⟨by kernel_rfl, by kernel_rfl, by kernel_rfl⟩, ?_⟩
    refine drw_meet [(87, .agg [.ints .i64 [n0, n1, n2], .ints .i64 [p0, p1, p2], .osl 81 0 3, .ints .i64 RW]), (88, .int .i64 0)] [(81, .arr .i64 [t0, t1, t2])] ?_ ?_
    · (conv => whnf); (try simp only [zU28_1, hRW0])
      repeat' (first | exact V.wk | ((first | refine V.s1 ?_ | ((with_reducible refine recheck_and ?_ ?_); (focus ((conv => whnf); (try simp only [zU28_1, hRW0]); (repeat (refine V.s1 ?_; (try simp only [zU28_1, hRW0]))); exact ⟨rfl⟩)); (conv => whnf)) | ((try ((with_reducible refine .ext ?_); (conv => whnf); (try simp only [zU28_1, hRW0]))); (with_reducible refine call_intro (r := ?_) ?_ ?_); rotate_left; (focus (first | exact (hnear) | exact (hnear1))); (conv => whnf))); (try simp only [zU28_1, hRW0])) | (refine And.intro ?_ ?_ <;> (conv => whnf); (try simp only [zU28_1, hRW0])))
    (conv => whnf)
    (try simp only [Nat.zero_add])
    repeat ((first | refine V.s1 ?_); (try simp only [Nat.zero_add]))
    refine Lp.pub 81 ?_
    (conv => whnf)
    simp only [List.take_succ_cons, List.take_zero]
    refine lp_any (0) (fun k => k ≤ 4) (fun k => 4 - k) (fun k => [(88, .int .i64 k)]) (fun k => []) ?_ ?_ ?_
    exact V.wk
    exact Nat.zero_le _
    intro m hm
    have hm5 : m = 0 ∨ m = 1 ∨ m = 2 ∨ m = 3 ∨ m = 4 := by omega
    rcases hm5 with e | e | e | e | e
    all_goals subst e
    · simp only [k0]
      rcases L0 with ⟨c, f, ⟨e, F⟩ | ⟨q0, q1, q2, n, F⟩⟩
      · have F1 := F.loc
        have F2 := F.rloc
        have F3 := F.hds
        have F4 := F.rhds
        clear F
        (conv => whnf)
        (try simp only [Nat.zero_add])
        repeat ((first | refine V.s1 ?_ | ((try ((with_reducible refine .ext ?_); (conv => whnf); (try simp only [Nat.zero_add]))); (with_reducible refine call_intro (r := ?_) ?_ ?_); rotate_left; (focus (first | exact (F1) | exact (F2) | exact (F3) | exact (F4) | exact (hsn))); (conv => whnf))); (try simp only [Nat.zero_add]))
        refine Cnd.split (CondB.mk (fun hq => ?_) (fun hq => ?_))
        · exfalso
          simp at hq
        (conv => whnf)
        (try simp only [Nat.zero_add])
        repeat ((first | refine V.s1 ?_); (try simp only [Nat.zero_add]))
        exact ⟨1, by omega, by omega, V.wk⟩
      · have F1 := F.loc
        have F2 := F.rloc
        have F3 := F.hds
        have F4 := F.rhds
        clear F
        have hsq := hsf q0 q1 q2
        (conv => whnf)
        (try simp only [Nat.zero_add])
        repeat ((first | refine V.s1 ?_ | ((try ((with_reducible refine .ext ?_); (conv => whnf); (try simp only [Nat.zero_add]))); (with_reducible refine call_intro (r := ?_) ?_ ?_); rotate_left; (focus (first | exact (F1) | exact (F2) | exact (F3) | exact (F4) | exact (hsq))); (conv => whnf))); (try simp only [Nat.zero_add]))
        refine Cnd.split (CondB.mk (fun hq => ?_) (fun hq => ?_))
        · exfalso
          simp at hq
        (conv => whnf)
        (try simp only [Nat.zero_add])
        repeat ((first | refine V.s1 ?_); (try simp only [Nat.zero_add]))
        exact ⟨1, by omega, by omega, V.wk⟩
    · simp only [k1]
      rcases L1 with ⟨c, f, ⟨e, F⟩ | ⟨q0, q1, q2, n, F⟩⟩
      · have F1 := F.loc
        have F2 := F.rloc
        have F3 := F.hds
        have F4 := F.rhds
        clear F
        (conv => whnf)
        (try simp only [Nat.zero_add])
        repeat ((first | refine V.s1 ?_ | ((try ((with_reducible refine .ext ?_); (conv => whnf); (try simp only [Nat.zero_add]))); (with_reducible refine call_intro (r := ?_) ?_ ?_); rotate_left; (focus (first | exact (F1) | exact (F2) | exact (F3) | exact (F4) | exact (hsn))); (conv => whnf))); (try simp only [Nat.zero_add]))
        refine Cnd.split (CondB.mk (fun hq => ?_) (fun hq => ?_))
        · exfalso
          simp at hq
        (conv => whnf)
        (try simp only [Nat.zero_add])
        repeat ((first | refine V.s1 ?_); (try simp only [Nat.zero_add]))
        exact ⟨2, by omega, by omega, V.wk⟩
      · have F1 := F.loc
        have F2 := F.rloc
        have F3 := F.hds
        have F4 := F.rhds
        clear F
        have hsq := hsf q0 q1 q2
        (conv => whnf)
        (try simp only [Nat.zero_add])
        repeat ((first | refine V.s1 ?_ | ((try ((with_reducible refine .ext ?_); (conv => whnf); (try simp only [Nat.zero_add]))); (with_reducible refine call_intro (r := ?_) ?_ ?_); rotate_left; (focus (first | exact (F1) | exact (F2) | exact (F3) | exact (F4) | exact (hsq))); (conv => whnf))); (try simp only [Nat.zero_add]))
        refine Cnd.split (CondB.mk (fun hq => ?_) (fun hq => ?_))
        · exfalso
          simp at hq
        (conv => whnf)
        (try simp only [Nat.zero_add])
        repeat ((first | refine V.s1 ?_); (try simp only [Nat.zero_add]))
        exact ⟨2, by omega, by omega, V.wk⟩
    · simp only [k2]
      rcases L2 with ⟨c, f, ⟨e, F⟩ | ⟨q0, q1, q2, n, F⟩⟩
      · have F1 := F.loc
        have F2 := F.rloc
        have F3 := F.hds
        have F4 := F.rhds
        clear F
        (conv => whnf)
        (try simp only [Nat.zero_add])
        repeat ((first | refine V.s1 ?_ | ((try ((with_reducible refine .ext ?_); (conv => whnf); (try simp only [Nat.zero_add]))); (with_reducible refine call_intro (r := ?_) ?_ ?_); rotate_left; (focus (first | exact (F1) | exact (F2) | exact (F3) | exact (F4) | exact (hsn))); (conv => whnf))); (try simp only [Nat.zero_add]))
        refine Cnd.split (CondB.mk (fun hq => ?_) (fun hq => ?_))
        · exfalso
          simp at hq
        (conv => whnf)
        (try simp only [Nat.zero_add])
        repeat ((first | refine V.s1 ?_); (try simp only [Nat.zero_add]))
        exact ⟨3, by omega, by omega, V.wk⟩
      · have F1 := F.loc
        have F2 := F.rloc
        have F3 := F.hds
        have F4 := F.rhds
        clear F
        have hsq := hsf q0 q1 q2
        (conv => whnf)
        (try simp only [Nat.zero_add])
        repeat ((first | refine V.s1 ?_ | ((try ((with_reducible refine .ext ?_); (conv => whnf); (try simp only [Nat.zero_add]))); (with_reducible refine call_intro (r := ?_) ?_ ?_); rotate_left; (focus (first | exact (F1) | exact (F2) | exact (F3) | exact (F4) | exact (hsq))); (conv => whnf))); (try simp only [Nat.zero_add]))
        refine Cnd.split (CondB.mk (fun hq => ?_) (fun hq => ?_))
        · exfalso
          simp at hq
        (conv => whnf)
        (try simp only [Nat.zero_add])
        repeat ((first | refine V.s1 ?_); (try simp only [Nat.zero_add]))
        exact ⟨3, by omega, by omega, V.wk⟩
    · simp only [k3]
      rcases L3 with ⟨c, f, ⟨e, F⟩ | ⟨q0, q1, q2, n, F⟩⟩
      · have F1 := F.loc
        have F2 := F.rloc
        have F3 := F.hds
        have F4 := F.rhds
        clear F
        (conv => whnf)
        (try simp only [Nat.zero_add])
        repeat ((first | refine V.s1 ?_ | ((try ((with_reducible refine .ext ?_); (conv => whnf); (try simp only [Nat.zero_add]))); (with_reducible refine call_intro (r := ?_) ?_ ?_); rotate_left; (focus (first | exact (F1) | exact (F2) | exact (F3) | exact (F4) | exact (hsn))); (conv => whnf))); (try simp only [Nat.zero_add]))
        refine Cnd.split (CondB.mk (fun hq => ?_) (fun hq => ?_))
        · exfalso
          simp at hq
        (conv => whnf)
        (try simp only [Nat.zero_add])
        repeat ((first | refine V.s1 ?_); (try simp only [Nat.zero_add]))
        exact ⟨4, by omega, by omega, V.wk⟩
      · have F1 := F.loc
        have F2 := F.rloc
        have F3 := F.hds
        have F4 := F.rhds
        clear F
        have hsq := hsf q0 q1 q2
        (conv => whnf)
        (try simp only [Nat.zero_add])
        repeat ((first | refine V.s1 ?_ | ((try ((with_reducible refine .ext ?_); (conv => whnf); (try simp only [Nat.zero_add]))); (with_reducible refine call_intro (r := ?_) ?_ ?_); rotate_left; (focus (first | exact (F1) | exact (F2) | exact (F3) | exact (F4) | exact (hsq))); (conv => whnf))); (try simp only [Nat.zero_add]))
        refine Cnd.split (CondB.mk (fun hq => ?_) (fun hq => ?_))
        · exfalso
          simp at hq
        (conv => whnf)
        (try simp only [Nat.zero_add])
        repeat ((first | refine V.s1 ?_); (try simp only [Nat.zero_add]))
        exact ⟨4, by omega, by omega, V.wk⟩
    · (conv => whnf)
      (try simp only [zU28_2])
      repeat ((first | refine V.s1 ?_); (try simp only [zU28_2]))
      exact ⟨1, by omega, by omega, V.wk⟩
  · have L0 := both_ok TS 3 TD [n0, n1, n2] hth.1 hth.2 (by simp)
    have L1 := both_ok TS 3 TD [p0, p1, p2] hth.1 hth.2 (by simp)
    have L2 := both_ok TS 3 TD [t0, t1, t2] hth.1 hth.2 (by simp)
    have L3 := both_ok TS 3 TD RW hth.1 hth.2 hRW
    simp only [k1]
    (conv => whnf)
    (try simp only [Nat.zero_add])
    repeat ((first | refine V.s1 ?_); (try simp only [Nat.zero_add]))
    refine ⟨(.take 0 (.take 1 (.take 2 (.take 4 (.take 5 (.take 6 (.take 8 (.take 9 (.take 10 (.take 11 (.take 12 (.take 13 (.take 14 (.take 15 (.take 16 (.take 18 (.take 19 (.take 20 (.take 21 (.take 22 (.take 24 (.ev (.cons 3 [24, 22, 21, 20, 19, 18, 16, 15, 14, 13, 12, 11, 10, 9, 8, 6, 5, 4] (.ev (.cons 7 [24, 22, 21, 20, 19, 18, 16, 15, 14, 13, 12, 11, 10, 9, 8] (.ev (.cons 17 [24, 22, 21, 20, 19, 18] (.take 23 (.done)) (.nil))) (.cons 17 [24, 22, 21, 20, 19, 18, 6, 5, 4] (.ev (.cons 7 [24, 22, 21, 20, 19, 18] (.take 23 (.done)) (.nil))) (.nil)))) (.cons 17 [24, 22, 21, 20, 19, 18, 6, 5, 4, 2, 1, 0] (.ev (.cons 3 [24, 22, 21, 20, 19, 18, 6, 5, 4] (.ev (.cons 7 [24, 22, 21, 20, 19, 18] (.take 23 (.done)) (.nil))) (.nil))) (.nil))))))))))))))))))))))))), ⟨by kernel_rfl, by kernel_rfl, by kernel_rfl⟩, ?_⟩
    refine drw_meet [(87, .agg [.ints .i64 [n0, n1, n2], .ints .i64 [p0, p1, p2], .osl 81 0 3, .ints .i64 RW]), (88, .int .i64 0)] [(81, .arr .i64 [t0, t1, t2])] ?_ ?_
    · (conv => whnf); (try simp only [zU28_1, hRW0])
      repeat' (first | exact V.wk | ((first | refine V.s1 ?_ | ((with_reducible refine recheck_and ?_ ?_); (focus ((conv => whnf); (try simp only [zU28_1, hRW0]); (repeat (refine V.s1 ?_; (try simp only [zU28_1, hRW0]))); exact ⟨rfl⟩)); (conv => whnf)) | ((try ((with_reducible refine .ext ?_); (conv => whnf); (try simp only [zU28_1, hRW0]))); (with_reducible refine call_intro (r := ?_) ?_ ?_); rotate_left; (focus (first | exact (hnear) | exact (hnear1))); (conv => whnf))); (try simp only [zU28_1, hRW0])) | (refine And.intro ?_ ?_ <;> (conv => whnf); (try simp only [zU28_1, hRW0])))
    (conv => whnf)
    (try simp only [Nat.zero_add])
    repeat ((first | refine V.s1 ?_); (try simp only [Nat.zero_add]))
    refine Lp.pub 81 ?_
    (conv => whnf)
    simp only [List.take_succ_cons, List.take_zero]
    refine lp_any (0) (fun k => k ≤ 4) (fun k => 4 - k) (fun k => [(88, .int .i64 k)]) (fun k => []) ?_ ?_ ?_
    exact V.wk
    exact Nat.zero_le _
    intro m hm
    have hm5 : m = 0 ∨ m = 1 ∨ m = 2 ∨ m = 3 ∨ m = 4 := by omega
    rcases hm5 with e | e | e | e | e
    all_goals subst e
    · simp only [k0]
      rcases L0 with ⟨c, f, ⟨e, F⟩ | ⟨q0, q1, q2, n, F⟩⟩
      · have F1 := F.loc
        have F2 := F.rloc
        have F3 := F.hds
        have F4 := F.rhds
        clear F
        (conv => whnf)
        (try simp only [Nat.zero_add])
        repeat ((first | refine V.s1 ?_ | ((try ((with_reducible refine .ext ?_); (conv => whnf); (try simp only [Nat.zero_add]))); (with_reducible refine call_intro (r := ?_) ?_ ?_); rotate_left; (focus (first | exact (F1) | exact (F2) | exact (F3) | exact (F4) | exact (hsn))); (conv => whnf))); (try simp only [Nat.zero_add]))
        refine Cnd.split (CondB.mk (fun hq => ?_) (fun hq => ?_))
        · exfalso
          simp at hq
        (conv => whnf)
        (try simp only [Nat.zero_add])
        repeat ((first | refine V.s1 ?_); (try simp only [Nat.zero_add]))
        exact ⟨1, by omega, by omega, V.wk⟩
      · have F1 := F.loc
        have F2 := F.rloc
        have F3 := F.hds
        have F4 := F.rhds
        clear F
        have hsq := hsf q0 q1 q2
        (conv => whnf)
        (try simp only [Nat.zero_add])
        repeat ((first | refine V.s1 ?_ | ((try ((with_reducible refine .ext ?_); (conv => whnf); (try simp only [Nat.zero_add]))); (with_reducible refine call_intro (r := ?_) ?_ ?_); rotate_left; (focus (first | exact (F1) | exact (F2) | exact (F3) | exact (F4) | exact (hsq))); (conv => whnf))); (try simp only [Nat.zero_add]))
        refine Cnd.split (CondB.mk (fun hq => ?_) (fun hq => ?_))
        · exfalso
          simp at hq
        (conv => whnf)
        (try simp only [Nat.zero_add])
        repeat ((first | refine V.s1 ?_); (try simp only [Nat.zero_add]))
        exact ⟨1, by omega, by omega, V.wk⟩
    · simp only [k1]
      rcases L1 with ⟨c, f, ⟨e, F⟩ | ⟨q0, q1, q2, n, F⟩⟩
      · have F1 := F.loc
        have F2 := F.rloc
        have F3 := F.hds
        have F4 := F.rhds
        clear F
        (conv => whnf)
        (try simp only [Nat.zero_add])
        repeat ((first | refine V.s1 ?_ | ((try ((with_reducible refine .ext ?_); (conv => whnf); (try simp only [Nat.zero_add]))); (with_reducible refine call_intro (r := ?_) ?_ ?_); rotate_left; (focus (first | exact (F1) | exact (F2) | exact (F3) | exact (F4) | exact (hsn))); (conv => whnf))); (try simp only [Nat.zero_add]))
        refine Cnd.split (CondB.mk (fun hq => ?_) (fun hq => ?_))
        · exfalso
          simp at hq
        (conv => whnf)
        (try simp only [Nat.zero_add])
        repeat ((first | refine V.s1 ?_); (try simp only [Nat.zero_add]))
        exact ⟨2, by omega, by omega, V.wk⟩
      · have F1 := F.loc
        have F2 := F.rloc
        have F3 := F.hds
        have F4 := F.rhds
        clear F
        have hsq := hsf q0 q1 q2
        (conv => whnf)
        (try simp only [Nat.zero_add])
        repeat ((first | refine V.s1 ?_ | ((try ((with_reducible refine .ext ?_); (conv => whnf); (try simp only [Nat.zero_add]))); (with_reducible refine call_intro (r := ?_) ?_ ?_); rotate_left; (focus (first | exact (F1) | exact (F2) | exact (F3) | exact (F4) | exact (hsq))); (conv => whnf))); (try simp only [Nat.zero_add]))
        refine Cnd.split (CondB.mk (fun hq => ?_) (fun hq => ?_))
        · exfalso
          simp at hq
        (conv => whnf)
        (try simp only [Nat.zero_add])
        repeat ((first | refine V.s1 ?_); (try simp only [Nat.zero_add]))
        exact ⟨2, by omega, by omega, V.wk⟩
    · simp only [k2]
      rcases L2 with ⟨c, f, ⟨e, F⟩ | ⟨q0, q1, q2, n, F⟩⟩
      · have F1 := F.loc
        have F2 := F.rloc
        have F3 := F.hds
        have F4 := F.rhds
        clear F
        (conv => whnf)
        (try simp only [Nat.zero_add])
        repeat ((first | refine V.s1 ?_ | ((try ((with_reducible refine .ext ?_); (conv => whnf); (try simp only [Nat.zero_add]))); (with_reducible refine call_intro (r := ?_) ?_ ?_); rotate_left; (focus (first | exact (F1) | exact (F2) | exact (F3) | exact (F4) | exact (hsn))); (conv => whnf))); (try simp only [Nat.zero_add]))
        refine Cnd.split (CondB.mk (fun hq => ?_) (fun hq => ?_))
        · exfalso
          simp at hq
        (conv => whnf)
        (try simp only [Nat.zero_add])
        repeat ((first | refine V.s1 ?_); (try simp only [Nat.zero_add]))
        exact ⟨3, by omega, by omega, V.wk⟩
      · have F1 := F.loc
        have F2 := F.rloc
        have F3 := F.hds
        have F4 := F.rhds
        clear F
        have hsq := hsf q0 q1 q2
        (conv => whnf)
        (try simp only [Nat.zero_add])
        repeat ((first | refine V.s1 ?_ | ((try ((with_reducible refine .ext ?_); (conv => whnf); (try simp only [Nat.zero_add]))); (with_reducible refine call_intro (r := ?_) ?_ ?_); rotate_left; (focus (first | exact (F1) | exact (F2) | exact (F3) | exact (F4) | exact (hsq))); (conv => whnf))); (try simp only [Nat.zero_add]))
        refine Cnd.split (CondB.mk (fun hq => ?_) (fun hq => ?_))
        · exfalso
          simp at hq
        (conv => whnf)
        (try simp only [Nat.zero_add])
        repeat ((first | refine V.s1 ?_); (try simp only [Nat.zero_add]))
        exact ⟨3, by omega, by omega, V.wk⟩
    · simp only [k3]
      rcases L3 with ⟨c, f, ⟨e, F⟩ | ⟨q0, q1, q2, n, F⟩⟩
      · have F1 := F.loc
        have F2 := F.rloc
        have F3 := F.hds
        have F4 := F.rhds
        clear F
        (conv => whnf)
        (try simp only [Nat.zero_add])
        repeat ((first | refine V.s1 ?_ | ((try ((with_reducible refine .ext ?_); (conv => whnf); (try simp only [Nat.zero_add]))); (with_reducible refine call_intro (r := ?_) ?_ ?_); rotate_left; (focus (first | exact (F1) | exact (F2) | exact (F3) | exact (F4) | exact (hsn))); (conv => whnf))); (try simp only [Nat.zero_add]))
        refine Cnd.split (CondB.mk (fun hq => ?_) (fun hq => ?_))
        · exfalso
          simp at hq
        (conv => whnf)
        (try simp only [Nat.zero_add])
        repeat ((first | refine V.s1 ?_); (try simp only [Nat.zero_add]))
        exact ⟨4, by omega, by omega, V.wk⟩
      · have F1 := F.loc
        have F2 := F.rloc
        have F3 := F.hds
        have F4 := F.rhds
        clear F
        have hsq := hsf q0 q1 q2
        (conv => whnf)
        (try simp only [Nat.zero_add])
        repeat ((first | refine V.s1 ?_ | ((try ((with_reducible refine .ext ?_); (conv => whnf); (try simp only [Nat.zero_add]))); (with_reducible refine call_intro (r := ?_) ?_ ?_); rotate_left; (focus (first | exact (F1) | exact (F2) | exact (F3) | exact (F4) | exact (hsq))); (conv => whnf))); (try simp only [Nat.zero_add]))
        refine Cnd.split (CondB.mk (fun hq => ?_) (fun hq => ?_))
        · exfalso
          simp at hq
        (conv => whnf)
        (try simp only [Nat.zero_add])
        repeat ((first | refine V.s1 ?_); (try simp only [Nat.zero_add]))
        exact ⟨4, by omega, by omega, V.wk⟩
    · (conv => whnf)
      (try simp only [zU28_2])
      repeat ((first | refine V.s1 ?_); (try simp only [zU28_2]))
      exact ⟨2, by omega, by omega, V.wk⟩
  · have L0 := both_ok AS ao AD [n0, n1, n2] hgr.1 hgr.2 (by simp)
    have L1 := both_ok AS ao AD [p0, p1, p2] hgr.1 hgr.2 (by simp)
    have L2 := both_ok AS ao AD [t0, t1, t2] hgr.1 hgr.2 (by simp)
    have L3 := both_ok AS ao AD RW hgr.1 hgr.2 hRW
    simp only [k2]
    (conv => whnf)
    (try simp only [Nat.zero_add])
    repeat ((first | refine V.s1 ?_); (try simp only [Nat.zero_add]))
    refine ⟨(.take 0 (.take 1 (.take 2 (.take 4 (.take 5 (.take 6 (.take 8 (.take 9 (.take 10 (.take 11 (.take 12 (.take 13 (.take 14 (.take 15 (.take 16 (.take 18 (.take 19 (.take 20 (.take 21 (.take 22 (.take 24 (.ev (.cons 3 [24, 22, 21, 20, 19, 18, 16, 15, 14, 13, 12, 11, 10, 9, 8, 6, 5, 4] (.ev (.cons 7 [24, 22, 21, 20, 19, 18, 16, 15, 14, 13, 12, 11, 10, 9, 8] (.ev (.cons 17 [24, 22, 21, 20, 19, 18] (.take 23 (.done)) (.nil))) (.cons 17 [24, 22, 21, 20, 19, 18, 6, 5, 4] (.ev (.cons 7 [24, 22, 21, 20, 19, 18] (.take 23 (.done)) (.nil))) (.nil)))) (.cons 17 [24, 22, 21, 20, 19, 18, 6, 5, 4, 2, 1, 0] (.ev (.cons 3 [24, 22, 21, 20, 19, 18, 6, 5, 4] (.ev (.cons 7 [24, 22, 21, 20, 19, 18] (.take 23 (.done)) (.nil))) (.nil))) (.nil))))))))))))))))))))))))), ⟨by kernel_rfl, by kernel_rfl, by kernel_rfl⟩, ?_⟩
    refine drw_meet [(87, .agg [.ints .i64 [n0, n1, n2], .ints .i64 [p0, p1, p2], .osl 81 0 3, .ints .i64 RW]), (88, .int .i64 0)] [(81, .arr .i64 [t0, t1, t2])] ?_ ?_
    · (conv => whnf); (try simp only [zU28_1, hRW0])
      repeat' (first | exact V.wk | ((first | refine V.s1 ?_ | ((with_reducible refine recheck_and ?_ ?_); (focus ((conv => whnf); (try simp only [zU28_1, hRW0]); (repeat (refine V.s1 ?_; (try simp only [zU28_1, hRW0]))); exact ⟨rfl⟩)); (conv => whnf)) | ((try ((with_reducible refine .ext ?_); (conv => whnf); (try simp only [zU28_1, hRW0]))); (with_reducible refine call_intro (r := ?_) ?_ ?_); rotate_left; (focus (first | exact (hnear) | exact (hnear1))); (conv => whnf))); (try simp only [zU28_1, hRW0])) | (refine And.intro ?_ ?_ <;> (conv => whnf); (try simp only [zU28_1, hRW0])))
    (conv => whnf)
    (try simp only [Nat.zero_add])
    repeat ((first | refine V.s1 ?_); (try simp only [Nat.zero_add]))
    refine Lp.pub 81 ?_
    (conv => whnf)
    simp only [List.take_succ_cons, List.take_zero]
    refine lp_any (0) (fun k => k ≤ 4) (fun k => 4 - k) (fun k => [(88, .int .i64 k)]) (fun k => []) ?_ ?_ ?_
    exact V.wk
    exact Nat.zero_le _
    intro m hm
    have hm5 : m = 0 ∨ m = 1 ∨ m = 2 ∨ m = 3 ∨ m = 4 := by omega
    rcases hm5 with e | e | e | e | e
    all_goals subst e
    · simp only [k0]
      rcases L0 with ⟨c, f, ⟨e, F⟩ | ⟨q0, q1, q2, n, F⟩⟩
      · have F1 := F.loc
        have F2 := F.rloc
        have F3 := F.hds
        have F4 := F.rhds
        clear F
        (conv => whnf)
        (try simp only [Nat.zero_add])
        repeat ((first | refine V.s1 ?_ | ((try ((with_reducible refine .ext ?_); (conv => whnf); (try simp only [Nat.zero_add]))); (with_reducible refine call_intro (r := ?_) ?_ ?_); rotate_left; (focus (first | exact (F1) | exact (F2) | exact (F3) | exact (F4) | exact (hsn))); (conv => whnf))); (try simp only [Nat.zero_add]))
        refine Cnd.split (CondB.mk (fun hq => ?_) (fun hq => ?_))
        · exfalso
          simp at hq
        (conv => whnf)
        (try simp only [Nat.zero_add])
        repeat ((first | refine V.s1 ?_); (try simp only [Nat.zero_add]))
        exact ⟨1, by omega, by omega, V.wk⟩
      · have F1 := F.loc
        have F2 := F.rloc
        have F3 := F.hds
        have F4 := F.rhds
        clear F
        have hsq := hsf q0 q1 q2
        (conv => whnf)
        (try simp only [Nat.zero_add])
        repeat ((first | refine V.s1 ?_ | ((try ((with_reducible refine .ext ?_); (conv => whnf); (try simp only [Nat.zero_add]))); (with_reducible refine call_intro (r := ?_) ?_ ?_); rotate_left; (focus (first | exact (F1) | exact (F2) | exact (F3) | exact (F4) | exact (hsq))); (conv => whnf))); (try simp only [Nat.zero_add]))
        refine Cnd.split (CondB.mk (fun hq => ?_) (fun hq => ?_))
        · exfalso
          simp at hq
        (conv => whnf)
        (try simp only [Nat.zero_add])
        repeat ((first | refine V.s1 ?_); (try simp only [Nat.zero_add]))
        exact ⟨1, by omega, by omega, V.wk⟩
    · simp only [k1]
      rcases L1 with ⟨c, f, ⟨e, F⟩ | ⟨q0, q1, q2, n, F⟩⟩
      · have F1 := F.loc
        have F2 := F.rloc
        have F3 := F.hds
        have F4 := F.rhds
        clear F
        (conv => whnf)
        (try simp only [Nat.zero_add])
        repeat ((first | refine V.s1 ?_ | ((try ((with_reducible refine .ext ?_); (conv => whnf); (try simp only [Nat.zero_add]))); (with_reducible refine call_intro (r := ?_) ?_ ?_); rotate_left; (focus (first | exact (F1) | exact (F2) | exact (F3) | exact (F4) | exact (hsn))); (conv => whnf))); (try simp only [Nat.zero_add]))
        refine Cnd.split (CondB.mk (fun hq => ?_) (fun hq => ?_))
        · exfalso
          simp at hq
        (conv => whnf)
        (try simp only [Nat.zero_add])
        repeat ((first | refine V.s1 ?_); (try simp only [Nat.zero_add]))
        exact ⟨2, by omega, by omega, V.wk⟩
      · have F1 := F.loc
        have F2 := F.rloc
        have F3 := F.hds
        have F4 := F.rhds
        clear F
        have hsq := hsf q0 q1 q2
        (conv => whnf)
        (try simp only [Nat.zero_add])
        repeat ((first | refine V.s1 ?_ | ((try ((with_reducible refine .ext ?_); (conv => whnf); (try simp only [Nat.zero_add]))); (with_reducible refine call_intro (r := ?_) ?_ ?_); rotate_left; (focus (first | exact (F1) | exact (F2) | exact (F3) | exact (F4) | exact (hsq))); (conv => whnf))); (try simp only [Nat.zero_add]))
        refine Cnd.split (CondB.mk (fun hq => ?_) (fun hq => ?_))
        · exfalso
          simp at hq
        (conv => whnf)
        (try simp only [Nat.zero_add])
        repeat ((first | refine V.s1 ?_); (try simp only [Nat.zero_add]))
        exact ⟨2, by omega, by omega, V.wk⟩
    · simp only [k2]
      rcases L2 with ⟨c, f, ⟨e, F⟩ | ⟨q0, q1, q2, n, F⟩⟩
      · have F1 := F.loc
        have F2 := F.rloc
        have F3 := F.hds
        have F4 := F.rhds
        clear F
        (conv => whnf)
        (try simp only [Nat.zero_add])
        repeat ((first | refine V.s1 ?_ | ((try ((with_reducible refine .ext ?_); (conv => whnf); (try simp only [Nat.zero_add]))); (with_reducible refine call_intro (r := ?_) ?_ ?_); rotate_left; (focus (first | exact (F1) | exact (F2) | exact (F3) | exact (F4) | exact (hsn))); (conv => whnf))); (try simp only [Nat.zero_add]))
        refine Cnd.split (CondB.mk (fun hq => ?_) (fun hq => ?_))
        · exfalso
          simp at hq
        (conv => whnf)
        (try simp only [Nat.zero_add])
        repeat ((first | refine V.s1 ?_); (try simp only [Nat.zero_add]))
        exact ⟨3, by omega, by omega, V.wk⟩
      · have F1 := F.loc
        have F2 := F.rloc
        have F3 := F.hds
        have F4 := F.rhds
        clear F
        have hsq := hsf q0 q1 q2
        (conv => whnf)
        (try simp only [Nat.zero_add])
        repeat ((first | refine V.s1 ?_ | ((try ((with_reducible refine .ext ?_); (conv => whnf); (try simp only [Nat.zero_add]))); (with_reducible refine call_intro (r := ?_) ?_ ?_); rotate_left; (focus (first | exact (F1) | exact (F2) | exact (F3) | exact (F4) | exact (hsq))); (conv => whnf))); (try simp only [Nat.zero_add]))
        refine Cnd.split (CondB.mk (fun hq => ?_) (fun hq => ?_))
        · exfalso
          simp at hq
        (conv => whnf)
        (try simp only [Nat.zero_add])
        repeat ((first | refine V.s1 ?_); (try simp only [Nat.zero_add]))
        exact ⟨3, by omega, by omega, V.wk⟩
    · simp only [k3]
      rcases L3 with ⟨c, f, ⟨e, F⟩ | ⟨q0, q1, q2, n, F⟩⟩
      · have F1 := F.loc
        have F2 := F.rloc
        have F3 := F.hds
        have F4 := F.rhds
        clear F
        (conv => whnf)
        (try simp only [Nat.zero_add])
        repeat ((first | refine V.s1 ?_ | ((try ((with_reducible refine .ext ?_); (conv => whnf); (try simp only [Nat.zero_add]))); (with_reducible refine call_intro (r := ?_) ?_ ?_); rotate_left; (focus (first | exact (F1) | exact (F2) | exact (F3) | exact (F4) | exact (hsn))); (conv => whnf))); (try simp only [Nat.zero_add]))
        refine Cnd.split (CondB.mk (fun hq => ?_) (fun hq => ?_))
        · exfalso
          simp at hq
        (conv => whnf)
        (try simp only [Nat.zero_add])
        repeat ((first | refine V.s1 ?_); (try simp only [Nat.zero_add]))
        exact ⟨4, by omega, by omega, V.wk⟩
      · have F1 := F.loc
        have F2 := F.rloc
        have F3 := F.hds
        have F4 := F.rhds
        clear F
        have hsq := hsf q0 q1 q2
        (conv => whnf)
        (try simp only [Nat.zero_add])
        repeat ((first | refine V.s1 ?_ | ((try ((with_reducible refine .ext ?_); (conv => whnf); (try simp only [Nat.zero_add]))); (with_reducible refine call_intro (r := ?_) ?_ ?_); rotate_left; (focus (first | exact (F1) | exact (F2) | exact (F3) | exact (F4) | exact (hsq))); (conv => whnf))); (try simp only [Nat.zero_add]))
        refine Cnd.split (CondB.mk (fun hq => ?_) (fun hq => ?_))
        · exfalso
          simp at hq
        (conv => whnf)
        (try simp only [Nat.zero_add])
        repeat ((first | refine V.s1 ?_); (try simp only [Nat.zero_add]))
        exact ⟨4, by omega, by omega, V.wk⟩
    · (conv => whnf)
      (try simp only [zU28_2])
      repeat ((first | refine V.s1 ?_); (try simp only [zU28_2]))
      exact ⟨3, by omega, by omega, V.wk⟩
  · have L0 := both_ok SZ 3 BD [n0, n1, n2] (by omega) (by omega) (by simp)
    have L1 := both_ok SZ 3 BD [p0, p1, p2] (by omega) (by omega) (by simp)
    have L2 := both_ok SZ 3 BD [t0, t1, t2] (by omega) (by omega) (by simp)
    have L3 := both_ok SZ 3 BD RW (by omega) (by omega) hRW
    simp only [k3]
    (conv => whnf)
    (try simp only [Nat.zero_add])
    repeat ((first | refine V.s1 ?_); (try simp only [Nat.zero_add]))
    refine ⟨(.take 0 (.take 1 (.take 2 (.take 4 (.take 5 (.take 6 (.take 8 (.take 9 (.take 10 (.take 11 (.take 12 (.take 13 (.take 14 (.take 15 (.take 16 (.take 18 (.take 19 (.take 20 (.take 21 (.take 22 (.take 24 (.ev (.cons 3 [24, 22, 21, 20, 19, 18, 16, 15, 14, 13, 12, 11, 10, 9, 8, 6, 5, 4] (.ev (.cons 7 [24, 22, 21, 20, 19, 18, 16, 15, 14, 13, 12, 11, 10, 9, 8] (.ev (.cons 17 [24, 22, 21, 20, 19, 18] (.take 23 (.done)) (.nil))) (.cons 17 [24, 22, 21, 20, 19, 18, 6, 5, 4] (.ev (.cons 7 [24, 22, 21, 20, 19, 18] (.take 23 (.done)) (.nil))) (.nil)))) (.cons 17 [24, 22, 21, 20, 19, 18, 6, 5, 4, 2, 1, 0] (.ev (.cons 3 [24, 22, 21, 20, 19, 18, 6, 5, 4] (.ev (.cons 7 [24, 22, 21, 20, 19, 18] (.take 23 (.done)) (.nil))) (.nil))) (.nil))))))))))))))))))))))))), ⟨by kernel_rfl, by kernel_rfl, by kernel_rfl⟩, ?_⟩
    refine drw_meet [(87, .agg [.ints .i64 [n0, n1, n2], .ints .i64 [p0, p1, p2], .osl 81 0 3, .ints .i64 RW]), (88, .int .i64 0)] [(81, .arr .i64 [t0, t1, t2])] ?_ ?_
    · (conv => whnf); (try simp only [zU28_1, hRW0])
      repeat' (first | exact V.wk | ((first | refine V.s1 ?_ | ((with_reducible refine recheck_and ?_ ?_); (focus ((conv => whnf); (try simp only [zU28_1, hRW0]); (repeat (refine V.s1 ?_; (try simp only [zU28_1, hRW0]))); exact ⟨rfl⟩)); (conv => whnf)) | ((try ((with_reducible refine .ext ?_); (conv => whnf); (try simp only [zU28_1, hRW0]))); (with_reducible refine call_intro (r := ?_) ?_ ?_); rotate_left; (focus (first | exact (hnear) | exact (hnear1))); (conv => whnf))); (try simp only [zU28_1, hRW0])) | (refine And.intro ?_ ?_ <;> (conv => whnf); (try simp only [zU28_1, hRW0])))
    (conv => whnf)
    (try simp only [Nat.zero_add])
    repeat ((first | refine V.s1 ?_); (try simp only [Nat.zero_add]))
    refine Lp.pub 81 ?_
    (conv => whnf)
    simp only [List.take_succ_cons, List.take_zero]
    refine lp_any (0) (fun k => k ≤ 4) (fun k => 4 - k) (fun k => [(88, .int .i64 k)]) (fun k => []) ?_ ?_ ?_
    exact V.wk
    exact Nat.zero_le _
    intro m hm
    have hm5 : m = 0 ∨ m = 1 ∨ m = 2 ∨ m = 3 ∨ m = 4 := by omega
    rcases hm5 with e | e | e | e | e
    all_goals subst e
    · simp only [k0]
      rcases L0 with ⟨c, f, ⟨e, F⟩ | ⟨q0, q1, q2, n, F⟩⟩
      · have F1 := F.loc
        have F2 := F.rloc
        have F3 := F.hds
        have F4 := F.rhds
        clear F
        (conv => whnf)
        (try simp only [Nat.zero_add])
        repeat ((first | refine V.s1 ?_ | ((try ((with_reducible refine .ext ?_); (conv => whnf); (try simp only [Nat.zero_add]))); (with_reducible refine call_intro (r := ?_) ?_ ?_); rotate_left; (focus (first | exact (F1) | exact (F2) | exact (F3) | exact (F4) | exact (hsn))); (conv => whnf))); (try simp only [Nat.zero_add]))
        refine Cnd.split (CondB.mk (fun hq => ?_) (fun hq => ?_))
        · exfalso
          simp at hq
        (conv => whnf)
        (try simp only [Nat.zero_add])
        repeat ((first | refine V.s1 ?_); (try simp only [Nat.zero_add]))
        exact ⟨1, by omega, by omega, V.wk⟩
      · have F1 := F.loc
        have F2 := F.rloc
        have F3 := F.hds
        have F4 := F.rhds
        clear F
        have hsq := hsf q0 q1 q2
        (conv => whnf)
        (try simp only [Nat.zero_add])
        repeat ((first | refine V.s1 ?_ | ((try ((with_reducible refine .ext ?_); (conv => whnf); (try simp only [Nat.zero_add]))); (with_reducible refine call_intro (r := ?_) ?_ ?_); rotate_left; (focus (first | exact (F1) | exact (F2) | exact (F3) | exact (F4) | exact (hsq))); (conv => whnf))); (try simp only [Nat.zero_add]))
        refine Cnd.split (CondB.mk (fun hq => ?_) (fun hq => ?_))
        · exfalso
          simp at hq
        (conv => whnf)
        (try simp only [Nat.zero_add])
        repeat ((first | refine V.s1 ?_); (try simp only [Nat.zero_add]))
        exact ⟨1, by omega, by omega, V.wk⟩
    · simp only [k1]
      rcases L1 with ⟨c, f, ⟨e, F⟩ | ⟨q0, q1, q2, n, F⟩⟩
      · have F1 := F.loc
        have F2 := F.rloc
        have F3 := F.hds
        have F4 := F.rhds
        clear F
        (conv => whnf)
        (try simp only [Nat.zero_add])
        repeat ((first | refine V.s1 ?_ | ((try ((with_reducible refine .ext ?_); (conv => whnf); (try simp only [Nat.zero_add]))); (with_reducible refine call_intro (r := ?_) ?_ ?_); rotate_left; (focus (first | exact (F1) | exact (F2) | exact (F3) | exact (F4) | exact (hsn))); (conv => whnf))); (try simp only [Nat.zero_add]))
        refine Cnd.split (CondB.mk (fun hq => ?_) (fun hq => ?_))
        · exfalso
          simp at hq
        (conv => whnf)
        (try simp only [Nat.zero_add])
        repeat ((first | refine V.s1 ?_); (try simp only [Nat.zero_add]))
        exact ⟨2, by omega, by omega, V.wk⟩
      · have F1 := F.loc
        have F2 := F.rloc
        have F3 := F.hds
        have F4 := F.rhds
        clear F
        have hsq := hsf q0 q1 q2
        (conv => whnf)
        (try simp only [Nat.zero_add])
        repeat ((first | refine V.s1 ?_ | ((try ((with_reducible refine .ext ?_); (conv => whnf); (try simp only [Nat.zero_add]))); (with_reducible refine call_intro (r := ?_) ?_ ?_); rotate_left; (focus (first | exact (F1) | exact (F2) | exact (F3) | exact (F4) | exact (hsq))); (conv => whnf))); (try simp only [Nat.zero_add]))
        refine Cnd.split (CondB.mk (fun hq => ?_) (fun hq => ?_))
        · exfalso
          simp at hq
        (conv => whnf)
        (try simp only [Nat.zero_add])
        repeat ((first | refine V.s1 ?_); (try simp only [Nat.zero_add]))
        exact ⟨2, by omega, by omega, V.wk⟩
    · simp only [k2]
      rcases L2 with ⟨c, f, ⟨e, F⟩ | ⟨q0, q1, q2, n, F⟩⟩
      · have F1 := F.loc
        have F2 := F.rloc
        have F3 := F.hds
        have F4 := F.rhds
        clear F
        (conv => whnf)
        (try simp only [Nat.zero_add])
        repeat ((first | refine V.s1 ?_ | ((try ((with_reducible refine .ext ?_); (conv => whnf); (try simp only [Nat.zero_add]))); (with_reducible refine call_intro (r := ?_) ?_ ?_); rotate_left; (focus (first | exact (F1) | exact (F2) | exact (F3) | exact (F4) | exact (hsn))); (conv => whnf))); (try simp only [Nat.zero_add]))
        refine Cnd.split (CondB.mk (fun hq => ?_) (fun hq => ?_))
        · exfalso
          simp at hq
        (conv => whnf)
        (try simp only [Nat.zero_add])
        repeat ((first | refine V.s1 ?_); (try simp only [Nat.zero_add]))
        exact ⟨3, by omega, by omega, V.wk⟩
      · have F1 := F.loc
        have F2 := F.rloc
        have F3 := F.hds
        have F4 := F.rhds
        clear F
        have hsq := hsf q0 q1 q2
        (conv => whnf)
        (try simp only [Nat.zero_add])
        repeat ((first | refine V.s1 ?_ | ((try ((with_reducible refine .ext ?_); (conv => whnf); (try simp only [Nat.zero_add]))); (with_reducible refine call_intro (r := ?_) ?_ ?_); rotate_left; (focus (first | exact (F1) | exact (F2) | exact (F3) | exact (F4) | exact (hsq))); (conv => whnf))); (try simp only [Nat.zero_add]))
        refine Cnd.split (CondB.mk (fun hq => ?_) (fun hq => ?_))
        · exfalso
          simp at hq
        (conv => whnf)
        (try simp only [Nat.zero_add])
        repeat ((first | refine V.s1 ?_); (try simp only [Nat.zero_add]))
        exact ⟨3, by omega, by omega, V.wk⟩
    · simp only [k3]
      rcases L3 with ⟨c, f, ⟨e, F⟩ | ⟨q0, q1, q2, n, F⟩⟩
      · have F1 := F.loc
        have F2 := F.rloc
        have F3 := F.hds
        have F4 := F.rhds
        clear F
        (conv => whnf)
        (try simp only [Nat.zero_add])
        repeat ((first | refine V.s1 ?_ | ((try ((with_reducible refine .ext ?_); (conv => whnf); (try simp only [Nat.zero_add]))); (with_reducible refine call_intro (r := ?_) ?_ ?_); rotate_left; (focus (first | exact (F1) | exact (F2) | exact (F3) | exact (F4) | exact (hsn))); (conv => whnf))); (try simp only [Nat.zero_add]))
        refine Cnd.split (CondB.mk (fun hq => ?_) (fun hq => ?_))
        · exfalso
          simp at hq
        (conv => whnf)
        (try simp only [Nat.zero_add])
        repeat ((first | refine V.s1 ?_); (try simp only [Nat.zero_add]))
        exact ⟨4, by omega, by omega, V.wk⟩
      · have F1 := F.loc
        have F2 := F.rloc
        have F3 := F.hds
        have F4 := F.rhds
        clear F
        have hsq := hsf q0 q1 q2
        (conv => whnf)
        (try simp only [Nat.zero_add])
        repeat ((first | refine V.s1 ?_ | ((try ((with_reducible refine .ext ?_); (conv => whnf); (try simp only [Nat.zero_add]))); (with_reducible refine call_intro (r := ?_) ?_ ?_); rotate_left; (focus (first | exact (F1) | exact (F2) | exact (F3) | exact (F4) | exact (hsq))); (conv => whnf))); (try simp only [Nat.zero_add]))
        refine Cnd.split (CondB.mk (fun hq => ?_) (fun hq => ?_))
        · exfalso
          simp at hq
        (conv => whnf)
        (try simp only [Nat.zero_add])
        repeat ((first | refine V.s1 ?_); (try simp only [Nat.zero_add]))
        exact ⟨4, by omega, by omega, V.wk⟩
    · (conv => whnf)
      (try simp only [zU28_2])
      repeat ((first | refine V.s1 ?_); (try simp only [zU28_2]))
      exact ⟨4, by omega, by omega, V.wk⟩
  · (conv => whnf)
    (try simp only [zU28_2])
    repeat ((first | refine V.s1 ?_ | ((try ((with_reducible refine .ext ?_); (conv => whnf); (try simp only [zU28_2]))); (with_reducible refine call_intro (r := ?_) ?_ ?_); rotate_left; (focus (first | exact (hworks))); (conv => whnf))); (try simp only [zU28_2]))
    exact Fin.of rfl
end Go.Proofs.YtlcaefokcnohnaaGreatDoor
end
