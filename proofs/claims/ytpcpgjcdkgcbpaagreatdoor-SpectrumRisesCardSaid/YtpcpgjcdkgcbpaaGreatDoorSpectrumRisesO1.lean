/- What some functions of the program answer at values that mean given lists, texts and numbers, each proved of the program's own code: part 7. Conditions: those that each theorem names. -/
import Derived.Test.YtpcpgjcdkgcbpaaGreatDoorH6
set_option linter.unusedSimpArgs false
set_option linter.unusedVariables false
set_option maxHeartbeats 8000000
set_option maxRecDepth 100000
section
namespace Go.Proofs.YtpcpgjcdkgcbpaaGreatDoor
open Go Go.V Go.Nb
theorem rk1 : ((1 : Nat) : Int) = 1 := rfl
theorem rk2 : ((2 : Nat) : Int) = 2 := rfl
theorem rk3 : ((3 : Nat) : Int) = 3 := rfl
theorem zY32_0 : type_of% @Int.toNat_natCast ∧ type_of% @Nat.zero_add := ⟨@Int.toNat_natCast, @Nat.zero_add⟩
theorem zY32_1 : type_of% @Int.toNat_natCast ∧ type_of% @Nat.mod_one ∧ type_of% @Nat.zero_add := ⟨@Int.toNat_natCast, @Nat.mod_one, @Nat.zero_add⟩
theorem rises_no (ds : List Int) (hl : ds.length = 16) (p m s : Int) (k : Nat) (hp : p % 16 = (k : Int)) (hk : k < 16) (hm : 0 ≤ m ∧ m ≤ 255) (f : Nat → Tx) (o0 o1 h0 h1 a0 a1 b0 b1 c0 c1 : List UInt8) (n : Int)
    (cd : Called Tryz.prog 10 [.iarr .u8 ds] (.agg (spL f))) (co : Called Tryz.prog 22 [.int .i64 (1 + m), .int .i64 1000] (.agg [.str o0, .str o1]))
    (ca : Called Tryz.prog 21 [.agg [.str (f k).1, .str (f k).2], .agg [.str o0, .str o1]] (.tup [.agg [.str h0, .str h1], .int .i64 0])) (cl : Called Tryz.prog 23 [.int .u8 s] (.int .i64 n))
    (cx : Called Tryz.prog 24 [.agg (spL f), .int .i64 n] (.tup [.agg [.str a0, .str a1, .str b0, .str b1, .str c0, .str c1], .int .i64 0]))
    (cy : Called Tryz.prog 24 [.agg (spL (putF f k (h0, h1))), .int .i64 n] (.tup [.agg [.str [], .str [], .str [], .str [], .str [], .str []], .int .i64 2])) (hd : (ds.getD k 0) % 201 > 174) :
    Called Tryz.prog 4 [.iarr .u8 ds, .int .u8 p, .int .u8 m, .int .u8 s] (.bool true) := by
  refine called_of_run tbOk 6 ⟨Tryz.func4, rfl, rfl, Nat.le_of_ble_eq_true rfl⟩ ?_
  (conv => whnf)
  (conv => whnf)
  (try simp only [zY32_0, hp])
  repeat ((first | refine V.s1 ?_ | ((try ((with_reducible refine .ext ?_); (conv => whnf); (try simp only [zY32_0, hp]))); (with_reducible refine call_intro (r := ?_) ?_ ?_); rotate_left; (focus (first | exact (works_c) | exact (cd))); (conv => whnf))); (try simp only [zY32_0, hp]))
  refine ⟨(.take 0 (.take 1 (.take 2 (.take 3 (.take 4 (.take 5 (.ev (.cons 6 [2, 1, 0] (.ev (.cons 7 [] (.take 8 (.take 9 (.take 10 (.ev (.cons 11 [10, 9, 8] (.ev (.cons 12 [10] (.take 13 (.done)) (.nil))) (.nil)))))) (.cons 11 [2, 1, 0] (.ev (.cons 7 [] (.take 8 (.take 9 (.take 10 (.ev (.cons 12 [10] (.take 13 (.done)) (.nil)))))) (.nil))) (.nil)))) (.cons 11 [5, 4, 3, 2, 1, 0] (.ev (.cons 6 [2, 1, 0] (.ev (.cons 7 [] (.take 8 (.take 9 (.take 10 (.ev (.cons 12 [10] (.take 13 (.done)) (.nil)))))) (.nil))) (.nil))) (.nil)))))))))), [], ⟨by kernel_rfl, by kernel_rfl, by kernel_rfl, by kernel_rfl⟩, ?_⟩
  refine drw_meet [(12, .box 12 0), (13, .int .i64 0)] [(12, .box [.str h0, .str h1])] ?_ ?_
  · (conv => whnf); (try simp only [zY32_0, hp])
    repeat' (first | exact V.wk | ((with_reducible refine And.intro ?_ draw_nil); (conv => whnf); (try simp only [zY32_0, hp])) | ((with_reducible first | refine draw_split ?_ ?_ | refine nds_split ?_ ?_) <;> (conv => whnf); (try simp only [zY32_0, hp])) | ((first | refine V.s1 ?_ | ((with_reducible refine recheck_and ?_ ?_); (focus ((conv => whnf); (try simp only [zY32_0, hp]); (repeat ((first | refine V.s1 ?_ | ((refine sp_at hk ?_); (conv => whnf))); (try simp only [zY32_0, hp]))); exact ⟨rfl⟩)); (conv => whnf)) | ((try ((with_reducible refine .ext ?_); (conv => whnf); (try simp only [zY32_0, hp]))); (with_reducible refine call_intro (r := ?_) ?_ ?_); rotate_left; (focus (first | exact (co) | exact (ca))); (conv => whnf)) | ((refine sp_at hk ?_); (conv => whnf))); (try simp only [zY32_0, hp])) | (refine And.intro ?_ ?_ <;> (conv => whnf); (try simp only [zY32_0, hp])))
  (conv => whnf)
  (try simp only [zY32_1, hp])
  repeat ((first | refine V.s1 ?_ | ((try ((with_reducible refine .ext ?_); (conv => whnf); (try simp only [zY32_1, hp]))); (with_reducible refine call_intro (r := ?_) ?_ ?_); rotate_left; (focus (first | exact (cl) | exact (cx) | exact (cy))); (conv => whnf)) | ((refine sp_put hk ?_); (conv => whnf))); (try simp only [zY32_1, hp]))
  exact Fin.of (by simpa using hd)
theorem zY32_2 : type_of% @Nat.zero_add ∧ type_of% @tn0 ∧ type_of% @tn1 ∧ type_of% @tn2 := ⟨@Nat.zero_add, @tn0, @tn1, @tn2⟩
theorem rises_ok (ds : List Int) (hl : ds.length = 16) (p m s : Int) (k : Nat) (hp : p % 16 = (k : Int)) (hk : k < 16) (hm : 0 ≤ m ∧ m ≤ 255) (f : Nat → Tx) (o0 o1 h0 h1 a0 a1 b0 b1 c0 c1 d0 d1 e0 e1 f0 f1 : List UInt8) (n : Int)
    (cd : Called Tryz.prog 10 [.iarr .u8 ds] (.agg (spL f))) (co : Called Tryz.prog 22 [.int .i64 (1 + m), .int .i64 1000] (.agg [.str o0, .str o1]))
    (ca : Called Tryz.prog 21 [.agg [.str (f k).1, .str (f k).2], .agg [.str o0, .str o1]] (.tup [.agg [.str h0, .str h1], .int .i64 0])) (cl : Called Tryz.prog 23 [.int .u8 s] (.int .i64 n))
    (cx : Called Tryz.prog 24 [.agg (spL f), .int .i64 n] (.tup [.agg [.str a0, .str a1, .str b0, .str b1, .str c0, .str c1], .int .i64 0]))
    (cy : Called Tryz.prog 24 [.agg (spL (putF f k (h0, h1))), .int .i64 n] (.tup [.agg [.str d0, .str d1, .str e0, .str e1, .str f0, .str f1], .int .i64 0]))
    (w0 w1 w2 : Int) (i0 : InR .i64 w0) (i1 : InR .i64 w1) (i2 : InR .i64 w2) (q0 : decide (w0 > 0) = false) (q1 : decide (w1 > 0) = false) (q2 : decide (w2 > 0) = false) (z1 : decide (w1 = 0) = false)
    (m0 : Called Tryz.prog 25 [.agg [.str a0, .str a1], .agg [.str d0, .str d1]] (.tup [.int .i64 w0, .int .i64 0]))
    (m1 : Called Tryz.prog 25 [.agg [.str b0, .str b1], .agg [.str e0, .str e1]] (.tup [.int .i64 w1, .int .i64 0]))
    (m2 : Called Tryz.prog 25 [.agg [.str c0, .str c1], .agg [.str f0, .str f1]] (.tup [.int .i64 w2, .int .i64 0])) :
    Called Tryz.prog 4 [.iarr .u8 ds, .int .u8 p, .int .u8 m, .int .u8 s] (.bool true) := by
  refine called_of_run tbOk 6 ⟨Tryz.func4, rfl, rfl, Nat.le_of_ble_eq_true rfl⟩ ?_
  (conv => whnf)
  (conv => whnf)
  (try simp only [zY32_0, hp])
  repeat ((first | refine V.s1 ?_ | ((try ((with_reducible refine .ext ?_); (conv => whnf); (try simp only [zY32_0, hp]))); (with_reducible refine call_intro (r := ?_) ?_ ?_); rotate_left; (focus (first | exact (works_c) | exact (cd))); (conv => whnf))); (try simp only [zY32_0, hp]))
  refine ⟨(.take 0 (.take 1 (.take 2 (.take 3 (.take 4 (.take 5 (.ev (.cons 6 [2, 1, 0] (.ev (.cons 7 [] (.take 8 (.take 9 (.take 10 (.ev (.cons 11 [10, 9, 8] (.ev (.cons 12 [10] (.take 13 (.done)) (.nil))) (.nil)))))) (.cons 11 [2, 1, 0] (.ev (.cons 7 [] (.take 8 (.take 9 (.take 10 (.ev (.cons 12 [10] (.take 13 (.done)) (.nil)))))) (.nil))) (.nil)))) (.cons 11 [5, 4, 3, 2, 1, 0] (.ev (.cons 6 [2, 1, 0] (.ev (.cons 7 [] (.take 8 (.take 9 (.take 10 (.ev (.cons 12 [10] (.take 13 (.done)) (.nil)))))) (.nil))) (.nil))) (.nil)))))))))), [], ⟨by kernel_rfl, by kernel_rfl, by kernel_rfl, by kernel_rfl⟩, ?_⟩
  refine drw_meet [(12, .box 12 0), (13, .int .i64 0)] [(12, .box [.str h0, .str h1])] ?_ ?_
  · (conv => whnf); (try simp only [zY32_0, hp])
    repeat' (first | exact V.wk | ((with_reducible refine And.intro ?_ draw_nil); (conv => whnf); (try simp only [zY32_0, hp])) | ((with_reducible first | refine draw_split ?_ ?_ | refine nds_split ?_ ?_) <;> (conv => whnf); (try simp only [zY32_0, hp])) | ((first | refine V.s1 ?_ | ((with_reducible refine recheck_and ?_ ?_); (focus ((conv => whnf); (try simp only [zY32_0, hp]); (repeat ((first | refine V.s1 ?_ | ((refine sp_at hk ?_); (conv => whnf))); (try simp only [zY32_0, hp]))); exact ⟨rfl⟩)); (conv => whnf)) | ((try ((with_reducible refine .ext ?_); (conv => whnf); (try simp only [zY32_0, hp]))); (with_reducible refine call_intro (r := ?_) ?_ ?_); rotate_left; (focus (first | exact (co) | exact (ca))); (conv => whnf)) | ((refine sp_at hk ?_); (conv => whnf))); (try simp only [zY32_0, hp])) | (refine And.intro ?_ ?_ <;> (conv => whnf); (try simp only [zY32_0, hp])))
  (conv => whnf)
  (try simp only [zY32_1, hp])
  repeat ((first | refine V.s1 ?_ | ((try ((with_reducible refine .ext ?_); (conv => whnf); (try simp only [zY32_1, hp]))); (with_reducible refine call_intro (r := ?_) ?_ ?_); rotate_left; (focus (first | exact (cl) | exact (cx) | exact (cy))); (conv => whnf)) | ((refine sp_put hk ?_); (conv => whnf))); (try simp only [zY32_1, hp]))
  refine lp_any (0) (fun k => k ≤ 3) (fun k => 3 - k) (fun k => [(72, .int .i64 k)]) (fun k => []) ?_ ?_ ?_
  · exact V.wk
  · exact Nat.zero_le _
  clear hk hp
  intro k hk
  have hk4 : k = 0 ∨ k = 1 ∨ k = 2 ∨ k = 3 := by omega
  rcases hk4 with e | e | e | e
  all_goals subst e
  · simp only [yk0]
    (conv => whnf)
    (try simp only [zY32_2])
    repeat ((first | refine V.s1 ?_); (try simp only [zY32_2]))
    refine ⟨(.take 0 (.take 1 (.take 2 (.take 3 (.take 4 (.take 5 (.ev (.cons 6 [] (.take 7 (.take 8 (.take 9 (.take 10 (.take 11 (.done)))))) (.nil))))))))), [], ⟨by kernel_rfl, by kernel_rfl, by kernel_rfl, by kernel_rfl⟩, ?_⟩
    refine drw_meet [(20, .int .i64 w0), (21, .int .i64 0)] [] ?_ ?_
    · (conv => whnf); (try simp only [zY32_2])
      repeat' (first | exact V.wk | ((with_reducible refine And.intro ?_ draw_nil); (conv => whnf); (try simp only [zY32_2])) | ((with_reducible first | refine draw_split ?_ ?_ | refine nds_split ?_ ?_) <;> (conv => whnf); (try simp only [zY32_2])) | ((first | refine V.s1 ?_ | ((with_reducible refine recheck_and ?_ ?_); (focus ((conv => whnf); (try simp only [zY32_2]); (repeat ((first | refine V.s1 ?_); (try simp only [zY32_2]))); exact ⟨rfl⟩)); (conv => whnf)) | ((try ((with_reducible refine .ext ?_); (conv => whnf); (try simp only [zY32_2]))); (with_reducible refine call_intro (r := ?_) ?_ ?_); rotate_left; (focus (first | exact (m0))); (conv => whnf))); (try simp only [zY32_2])) | (refine And.intro ?_ ?_ <;> (conv => whnf); (try simp only [zY32_2])))
    (conv => whnf)
    (try simp only [Nat.zero_add, q0])
    repeat ((first | refine V.s1 ?_); (try simp only [Nat.zero_add, q0]))
    refine Cnd.split (CondB.mk (fun hq => ?_) (fun hq => ?_))
    · exfalso
      simp at hq
    (conv => whnf)
    (try simp only [Nat.zero_add])
    repeat ((first | refine V.s1 ?_); (try simp only [Nat.zero_add]))
    exact ⟨1, by omega, by omega, V.wk⟩
  · simp only [rk1]
    (conv => whnf)
    (try simp only [zY32_2])
    repeat ((first | refine V.s1 ?_); (try simp only [zY32_2]))
    refine ⟨(.take 0 (.take 1 (.take 2 (.take 3 (.take 4 (.take 5 (.ev (.cons 6 [] (.take 7 (.take 8 (.take 9 (.take 10 (.take 11 (.done)))))) (.nil))))))))), [], ⟨by kernel_rfl, by kernel_rfl, by kernel_rfl, by kernel_rfl⟩, ?_⟩
    refine drw_meet [(20, .int .i64 w1), (21, .int .i64 0)] [] ?_ ?_
    · (conv => whnf); (try simp only [zY32_2])
      repeat' (first | exact V.wk | ((with_reducible refine And.intro ?_ draw_nil); (conv => whnf); (try simp only [zY32_2])) | ((with_reducible first | refine draw_split ?_ ?_ | refine nds_split ?_ ?_) <;> (conv => whnf); (try simp only [zY32_2])) | ((first | refine V.s1 ?_ | ((with_reducible refine recheck_and ?_ ?_); (focus ((conv => whnf); (try simp only [zY32_2]); (repeat ((first | refine V.s1 ?_); (try simp only [zY32_2]))); exact ⟨rfl⟩)); (conv => whnf)) | ((try ((with_reducible refine .ext ?_); (conv => whnf); (try simp only [zY32_2]))); (with_reducible refine call_intro (r := ?_) ?_ ?_); rotate_left; (focus (first | exact (m1))); (conv => whnf))); (try simp only [zY32_2])) | (refine And.intro ?_ ?_ <;> (conv => whnf); (try simp only [zY32_2])))
    (conv => whnf)
    (try simp only [Nat.zero_add, q1, z1])
    repeat ((first | refine V.s1 ?_); (try simp only [Nat.zero_add, q1, z1]))
    exact ⟨2, by omega, by omega, V.wk⟩
  · simp only [rk2]
    (conv => whnf)
    (try simp only [zY32_2])
    repeat ((first | refine V.s1 ?_); (try simp only [zY32_2]))
    refine ⟨(.take 0 (.take 1 (.take 2 (.take 3 (.take 4 (.take 5 (.ev (.cons 6 [] (.take 7 (.take 8 (.take 9 (.take 10 (.take 11 (.done)))))) (.nil))))))))), [], ⟨by kernel_rfl, by kernel_rfl, by kernel_rfl, by kernel_rfl⟩, ?_⟩
    refine drw_meet [(20, .int .i64 w2), (21, .int .i64 0)] [] ?_ ?_
    · (conv => whnf); (try simp only [zY32_2])
      repeat' (first | exact V.wk | ((with_reducible refine And.intro ?_ draw_nil); (conv => whnf); (try simp only [zY32_2])) | ((with_reducible first | refine draw_split ?_ ?_ | refine nds_split ?_ ?_) <;> (conv => whnf); (try simp only [zY32_2])) | ((first | refine V.s1 ?_ | ((with_reducible refine recheck_and ?_ ?_); (focus ((conv => whnf); (try simp only [zY32_2]); (repeat ((first | refine V.s1 ?_); (try simp only [zY32_2]))); exact ⟨rfl⟩)); (conv => whnf)) | ((try ((with_reducible refine .ext ?_); (conv => whnf); (try simp only [zY32_2]))); (with_reducible refine call_intro (r := ?_) ?_ ?_); rotate_left; (focus (first | exact (m2))); (conv => whnf))); (try simp only [zY32_2])) | (refine And.intro ?_ ?_ <;> (conv => whnf); (try simp only [zY32_2])))
    (conv => whnf)
    (try simp only [Nat.zero_add, q2])
    repeat ((first | refine V.s1 ?_); (try simp only [Nat.zero_add, q2]))
    refine Cnd.split (CondB.mk (fun hq => ?_) (fun hq => ?_))
    · exfalso
      simp at hq
    (conv => whnf)
    (try simp only [Nat.zero_add])
    repeat ((first | refine V.s1 ?_); (try simp only [Nat.zero_add]))
    exact ⟨3, by omega, by omega, V.wk⟩
  · simp only [rk3]
    (conv => whnf)
    (try simp only [Nat.zero_add])
    repeat ((first | refine V.s1 ?_); (try simp only [Nat.zero_add]))
    exact Fin.of rfl
end Go.Proofs.YtpcpgjcdkgcbpaaGreatDoor
end
section
namespace Go.Proofs.YtpcpgjcdkgcbpaaGreatDoor
open Go Go.V Go.Nb
theorem ord_in (p q : Rat) : InR .i64 (ordQ p q) := by
  have := ord_bd p q
  simp only [InR, V.lo, V.hi]
  omega
theorem ord_np {p q : Rat} (h : p ≤ q) : decide (ordQ p q > 0) = false := decide_eq_false (by have := ord_le h; omega)
theorem spectrumRises_c {ds : List Int} (hl : ds.length = 16) (hd : ∀ n ∈ ds, 0 ≤ n ∧ n ≤ 255) {p m s : Int} (hp : 0 ≤ p ∧ p ≤ 255) (hm : 0 ≤ m ∧ m ≤ 255) (hs : 0 ≤ s ∧ s ≤ 255) :
    Called Tryz.prog 4 [.iarr .u8 ds, .int .u8 p, .int .u8 m, .int .u8 s] (.bool true) := by
  obtain ⟨k, hk⟩ : ∃ k : Nat, p % 16 = (k : Int) := ⟨(p % 16).toNat, by omega⟩
  have hk2 : k < 16 := by omega
  have cd := draft_c hl hd
  have co := l26_of (n := 1 + m) (m := 1000) (by omega) (by omega)
  have hb := drN_bd hd k
  have hn := hund hb
  have ht := fq_thou hm
  have f5 : Fq 5 (Rat.divInt (drN ds k) 100) := fq_divInt (d := 100) (by omega) (by omega) (by omega)
  have ca := zadd f5 ht.1 (by omega) (by omega) (by omega)
  have cl := lightOf_c hs
  have hi := isLt_ltOf s
  have hq := dr_q hd
  have cx := xyz_q hq hi
  obtain ⟨x, hx⟩ : ∃ x, Rat.divInt (drN ds k) 100 + Rat.divInt (1 + m) 1000 = x := ⟨_, rfl⟩
  have fx : Fq 20 x := by
    rw [← hx]
    exact (f5.add ht.1).mono (by omega)
  have lx : drQ ds k < x := by
    rw [← hx]
    have := ht.2.1
    unfold drQ
    grind
  have fb : ∀ i, Fq 20 (putQ (drQ ds) k x i) := fun i => by
    unfold putQ
    by_cases e : i = k
    · rw [if_pos e]; exact fx
    · rw [if_neg e]; exact (hq i).1
  have eb : putF (drF ds) k (xT x) = txS (putQ (drQ ds) k x) := put_tx (drQ ds) k x
  rw [hx] at ca
  by_cases h2 : 2 < x
  · have cy := xyz_no (a := putQ (drQ ds) k x) fb hk2 (by rw [show putQ (drQ ds) k x k = x from if_pos rfl]; exact h2) (ltOf s)
    rw [← eb] at cy
    have ho := over_2 hb hm (by rw [hx]; exact h2)
    have hnn : 0 ≤ ds.getD k 0 := by
      rw [List.getD_eq_getElem?_getD]
      cases e : ds[k]? with
      | none => exact Int.le_refl 0
      | some n => exact (hd n (List.mem_of_getElem? e)).1
    unfold drN at ho
    rw [Int.tmod_eq_emod_of_nonneg hnn] at ho
    exact rises_no ds hl p m s k hk hk2 hm (drF ds) _ _ _ _ _ _ _ _ _ _ _ cd co ca cl cx cy ho
  · have sb : SpQ (putQ (drQ ds) k x) := fun i => by
      refine ⟨fb i, ?_⟩
      unfold putQ
      by_cases e : i = k
      · rw [if_pos e]
        exact ⟨by have := hn.2.1; unfold drQ at lx; grind, Rat.not_lt.1 h2⟩
      · rw [if_neg e]
        exact (hq i).2
    have cy := xyz_q sb hi
    rw [← eb] at cy
    have hpw := pow_is (ltOf s)
    have a1 := col_mono (o := wxL) hpw (.inl rfl) (put_le lx)
    have a2 := col_up hpw hk2 lx
    have a3 := col_mono (o := wzL) hpw (.inr (.inr rfl)) (put_le lx)
    have g : ∀ o, isObs o → Called Tryz.prog 25 [frT (colP (powL (ltOf s)) o (drQ ds)), frT (colP (powL (ltOf s)) o (putQ (drQ ds) k x))] (.tup [.int .i64 (ordQ (colP (powL (ltOf s)) o (drQ ds)) (colP (powL (ltOf s)) o (putQ (drQ ds) k x))), .int .i64 0]) := fun o ho =>
      zcmp (fq_col hpw ho fun k => (hq k).1) (fq_col hpw ho fb) (by omega) (by omega)
    exact rises_ok ds hl p m s k hk hk2 hm (drF ds) _ _ _ _ _ _ _ _ _ _ _ _ _ _ _ _ _ cd co ca cl cx cy _ _ _ (ord_in _ _) (ord_in _ _) (ord_in _ _) (ord_np a1) (ord_np (Rat.le_of_lt a2)) (ord_np a3)
      (decide_eq_false (by rw [ord_lt a2]; decide)) (g _ (.inl rfl)) (g _ (.inr (.inl rfl))) (g _ (.inr (.inr rfl)))
end Go.Proofs.YtpcpgjcdkgcbpaaGreatDoor
end
