/- What some functions of the program answer at values that mean given lists, texts and numbers, each proved of the program's own code: part 5. Conditions: those that each theorem names. -/
import Derived.Test.YtlcaefokcnohnaaDoorH4
import Derived.Test.YtlcaefokcnohnaaDoorH2
set_option linter.unusedSimpArgs false
set_option linter.unusedVariables false
set_option maxHeartbeats 8000000
set_option maxRecDepth 100000
section
namespace Go.Proofs.YtlcaefokcnohnaaDoor
open Go Go.V Go.Nb
def rs3 (o : Nat) (a b e : Int) : V3 := match o with
  | 0 => (e + b + a, e + b, e)
  | 1 => (e + b + a, e, e + b)
  | 2 => (e + b, e + b + a, e)
  | 3 => (e, e + b + a, e + b)
  | 4 => (e + b, e, e + b + a)
  | _ => (e, e + b, e + b + a)
def frq (x : Nat) (r d : Int) (s : Nat) : Rat := Rat.divInt ((x : Int) * d + r) (d * ((s : Int) - 1))
def frF (q0 q1 q2 : Rat) : Nat → List D := fun j => ((frC q0 ++ frC q1 ++ frC q2).drop (j * 2)).take 2
def resF (x : N3) (o : Nat) (a b e d : Int) (s0 s1 s2 : Nat) : Nat → List D := frF (frq x.1 (rs3 o a b e).1 d s0) (frq x.2.1 (rs3 o a b e).2.1 d s1) (frq x.2.2 (rs3 o a b e).2.2 d s2)
def stRe (a b e : Int) : Nat → Int
  | 0 => 0
  | 1 => e
  | 2 => e + b
  | _ => e + b + a
def zC : List D := [.str [], .str []]
def stI0 (q0 q1 q2 : Rat) : Nat → List D
  | 0 => zC ++ zC ++ zC
  | 1 => zC ++ zC ++ frC q2
  | 2 => zC ++ frC q1 ++ frC q2
  | _ => frC q0 ++ frC q1 ++ frC q2
def stI1 (q0 q1 q2 : Rat) : Nat → List D
  | 0 => zC ++ zC ++ zC
  | 1 => zC ++ frC q1 ++ zC
  | 2 => zC ++ frC q1 ++ frC q2
  | _ => frC q0 ++ frC q1 ++ frC q2
def stI2 (q0 q1 q2 : Rat) : Nat → List D
  | 0 => zC ++ zC ++ zC
  | 1 => zC ++ zC ++ frC q2
  | 2 => frC q0 ++ zC ++ frC q2
  | _ => frC q0 ++ frC q1 ++ frC q2
def stI3 (q0 q1 q2 : Rat) : Nat → List D
  | 0 => zC ++ zC ++ zC
  | 1 => frC q0 ++ zC ++ zC
  | 2 => frC q0 ++ zC ++ frC q2
  | _ => frC q0 ++ frC q1 ++ frC q2
def stI4 (q0 q1 q2 : Rat) : Nat → List D
  | 0 => zC ++ zC ++ zC
  | 1 => zC ++ frC q1 ++ zC
  | 2 => frC q0 ++ frC q1 ++ zC
  | _ => frC q0 ++ frC q1 ++ frC q2
def stI5 (q0 q1 q2 : Rat) : Nat → List D
  | 0 => zC ++ zC ++ zC
  | 1 => frC q0 ++ zC ++ zC
  | 2 => frC q0 ++ frC q1 ++ zC
  | _ => frC q0 ++ frC q1 ++ frC q2
theorem n10 : (1 : Int) - 1 = 0 := rfl
theorem n21 : (2 : Int) - 1 = 1 := rfl
theorem n20 : (2 : Int) - 0 = 2 := rfl
theorem m21 : (2 : Int) - 2 = 0 := rfl
theorem m23 : (2 : Int) - 3 = -1 := rfl
theorem mul_fact {x s : Nat} {d : Int} (hx : x + 1 < s) (hs : s ≤ 9) (hd : 0 < d ∧ d ≤ 1688772552032250) : (0 ≤ (x : Int) * d ∧ (x : Int) * d ≤ 13510180416258000) ∧ (1 ≤ d * ((s : Int) - 1) ∧ d * ((s : Int) - 1) ≤ 13510180416258000) := by
  refine ⟨⟨Int.mul_nonneg (by omega) (by omega), ?_⟩, ?_, ?_⟩
  · exact Int.le_trans (Int.mul_le_mul (show (x : Int) ≤ 8 by omega) hd.2 (by omega) (by omega)) (by omega)
  · have := Int.mul_le_mul (show (1 : Int) ≤ d by omega) (show (1 : Int) ≤ (s : Int) - 1 by omega) (by omega) (by omega)
    omega
  · exact Int.le_trans (Int.mul_le_mul hd.2 (show (s : Int) - 1 ≤ 8 by omega) (by omega) (by omega)) (by omega)
theorem zU14_0 : type_of% @Int.zero_add ∧ type_of% @Nat.zero_add ∧ type_of% @g3_0 ∧ type_of% @g3_1 ∧ type_of% @g3_2 ∧ type_of% @i3_0 ∧ type_of% @i3_1 ∧ type_of% @i3_2 ∧ type_of% @k0 ∧ type_of% @k1 ∧ type_of% @k2 ∧ type_of% @n10 ∧ type_of% @n20 ∧ type_of% @n21 ∧ type_of% @s3_0 ∧ type_of% @s3_1 ∧ type_of% @s3_2 ∧ type_of% @tn0 ∧ type_of% @tn1 ∧ type_of% @tn2 ∧ type_of% @tn3 := ⟨@Int.zero_add, @Nat.zero_add, @g3_0, @g3_1, @g3_2, @i3_0, @i3_1, @i3_2, @k0, @k1, @k2, @n10, @n20, @n21, @s3_0, @s3_1, @s3_2, @tn0, @tn1, @tn2, @tn3⟩
theorem inputs_0 {s0 s1 s2 : Nat} (x : N3) {o : Nat} (ho : o < 6) (c : Nat → V3) (hx : x.1 + 1 < s0 ∧ x.2.1 + 1 < s1 ∧ x.2.2 + 1 < s2) (hs : s0 ≤ 9 ∧ s1 ≤ 9 ∧ s2 ≤ 9) {a b e d : Int} (ha : 0 ≤ a) (hb : 0 ≤ b) (he : 0 ≤ e) (hsm : a + b + e ≤ d) (hd : 0 < d ∧ d ≤ 1688772552032250) :
    Called Tryd.prog 16 [tetD x (ordA o) c, .ints .i64 (sz3 s0 s1 s2), .iarr .i64 [a, b, e], .int .i64 d] (.tup [.slf 2 3 (resF x o a b e d s0 s1 s2), .int .i64 0]) := by
  have z0 := sz3_0 s0 s1 s2
  have z1 := sz3_1 s0 s1 s2
  have z2 := sz3_2 s0 s1 s2
  have zl := sz3_len s0 s1 s2
  have y0 : (sz3 s0 s1 s2).getD 0 0 = s0 := rfl
  have y1 : (sz3 s0 s1 s2).getD 1 0 = s1 := rfl
  have y2 : (sz3 s0 s1 s2).getD 2 0 = s2 := rfl
  generalize sz3 s0 s1 s2 = sz at *
  have m0 := mul_fact hx.1 hs.1 hd
  have m1 := mul_fact hx.2.1 hs.2.1 hd
  have m2 := mul_fact hx.2.2 hs.2.2 hd
  unfold tetD tetL resF
  obtain ⟨q0, eq0⟩ : ∃ q, frq x.1 (rs3 o a b e).1 d s0 = q := ⟨_, rfl⟩
  obtain ⟨q1, eq1⟩ : ∃ q, frq x.2.1 (rs3 o a b e).2.1 d s1 = q := ⟨_, rfl⟩
  obtain ⟨q2, eq2⟩ : ∃ q, frq x.2.2 (rs3 o a b e).2.2 d s2 = q := ⟨_, rfl⟩
  rw [eq0, eq1, eq2]
  simp only [v3L, List.cons_append, List.nil_append, List.map_cons, List.map_nil, n3L]
  obtain ⟨x0, x1, x2⟩ := x
  dsimp only at hx m0 m1 m2 eq0 eq1 eq2
  have h6 : o = 0 ∨ o = 1 ∨ o = 2 ∨ o = 3 ∨ o = 4 ∨ o = 5 := by omega
  rcases h6 with h6 | h6 | h6 | h6 | h6 | h6
  all_goals subst h6
  · simp only [n3L, ordA, rs3, k0, k1, k2]
    unfold frq at eq0 eq1 eq2
    simp only [rs3] at eq0 eq1 eq2
    have o0 := ofE eq0 (by omega) (by omega)
    have o1 := ofE eq1 (by omega) (by omega)
    have o2 := ofE eq2 (by omega) (by omega)
    clear eq0 eq1 eq2
    unfold frC at o0 o1 o2
    refine called_of_run tbOk 6 ⟨Tryd.func16, rfl, rfl, Nat.le_of_ble_eq_true rfl⟩ ?_
    (conv => whnf)
    (conv => whnf)
    (try simp only [Nat.zero_add])
    repeat ((first | refine V.s1 ?_); (try simp only [Nat.zero_add]))
    refine lp_any (0) (fun k => k ≤ 3) (fun k => 3 - k) (fun k => [(12, .int .i64 (2 - (k : Int))), (11, .int .i64 (stRe a b e k))]) (fun k => [(16, .box (stI0 q0 q1 q2 k))]) ?_ ?_ ?_
    exact V.wk
    exact Nat.zero_le _
    intro k hk
    (conv => whnf)
    (try simp only [Nat.zero_add])
    repeat ((first | refine V.s1 ?_); (try simp only [Nat.zero_add]))
    refine Cnd.split (CondB.mk (fun hq => ?_) (fun hq => ?_))
    · have hk3 : k = 0 ∨ k = 1 ∨ k = 2 := by
        simp at hq
        omega
      rcases hk3 with e1 | e1 | e1
      · subst e1
        simp only [k0, n20, n21, m21, stRe, stI0, zC, frC, List.cons_append, List.nil_append]
        (conv => whnf)
        (try simp only [zU14_0, z0, z1, z2, y0, y1, y2])
        repeat ((first | refine V.s1 ?_); (try simp only [zU14_0, z0, z1, z2, y0, y1, y2]))
        refine ⟨(.take 0 (.take 1 (.take 2 (.take 3 (.take 4 (.take 5 (.take 6 (.take 7 (.take 8 (.take 9 (.take 10 (.take 11 (.take 12 (.take 13 (.take 14 (.ev (.cons 15 [] (.take 16 (.take 17 (.take 18 (.ev (.cons 19 [18, 17, 16] (.ev (.cons 20 [18] (.take 21 (.done)) (.nil))) (.nil)))))) (.cons 19 [14, 13, 12, 11, 10, 9, 8, 7, 6, 5, 4, 3, 2, 1, 0] (.ev (.cons 15 [] (.take 16 (.take 17 (.take 18 (.ev (.cons 20 [18] (.take 21 (.done)) (.nil)))))) (.nil))) (.nil))))))))))))))))))), ⟨by kernel_rfl, by kernel_rfl, by kernel_rfl⟩, ?_⟩
        refine drw_meet [(15, .int .i64 0), (14, .box 14 0)] [(14, .box (frC q2))] ?_ ?_
        · (conv => whnf); (try simp only [zU14_0, z0, z1, z2, y0, y1, y2])
          repeat' (first | exact V.wk | ((first | refine V.s1 ?_ | ((with_reducible refine recheck_and ?_ ?_); (focus ((conv => whnf); (try simp only [zU14_0, z0, z1, z2, y0, y1, y2]); (repeat (refine V.s1 ?_; (try simp only [zU14_0, z0, z1, z2, y0, y1, y2]))); exact ⟨rfl⟩)); (conv => whnf)) | ((try ((with_reducible refine .ext ?_); (conv => whnf); (try simp only [zU14_0, z0, z1, z2, y0, y1, y2]))); (with_reducible refine call_intro (r := ?_) ?_ ?_); rotate_left; (focus (first | exact (o0) | exact (o1) | exact (o2))); (conv => whnf))); (try simp only [zU14_0, z0, z1, z2, y0, y1, y2])) | (refine And.intro ?_ ?_ <;> (conv => whnf); (try simp only [zU14_0, z0, z1, z2, y0, y1, y2])))
        (conv => whnf)
        (try simp only [zU14_0, z0, z1, z2, y0, y1, y2, frC])
        repeat ((first | refine V.s1 ?_); (try simp only [zU14_0, z0, z1, z2, y0, y1, y2, frC]))
        exact ⟨1, by omega, by omega, V.wk⟩
      · subst e1
        simp only [k1, n20, n21, m21, stRe, stI0, zC, frC, List.cons_append, List.nil_append]
        (conv => whnf)
        (try simp only [zU14_0, z0, z1, z2, y0, y1, y2])
        repeat ((first | refine V.s1 ?_); (try simp only [zU14_0, z0, z1, z2, y0, y1, y2]))
        refine ⟨(.take 0 (.take 1 (.take 2 (.take 3 (.take 4 (.take 5 (.take 6 (.take 7 (.take 8 (.take 9 (.take 10 (.take 11 (.take 12 (.take 13 (.take 14 (.ev (.cons 15 [] (.take 16 (.take 17 (.take 18 (.ev (.cons 19 [18, 17, 16] (.ev (.cons 20 [18] (.take 21 (.done)) (.nil))) (.nil)))))) (.cons 19 [14, 13, 12, 11, 10, 9, 8, 7, 6, 5, 4, 3, 2, 1, 0] (.ev (.cons 15 [] (.take 16 (.take 17 (.take 18 (.ev (.cons 20 [18] (.take 21 (.done)) (.nil)))))) (.nil))) (.nil))))))))))))))))))), ⟨by kernel_rfl, by kernel_rfl, by kernel_rfl⟩, ?_⟩
        refine drw_meet [(15, .int .i64 0), (14, .box 14 0)] [(14, .box (frC q1))] ?_ ?_
        · (conv => whnf); (try simp only [zU14_0, z0, z1, z2, y0, y1, y2])
          repeat' (first | exact V.wk | ((first | refine V.s1 ?_ | ((with_reducible refine recheck_and ?_ ?_); (focus ((conv => whnf); (try simp only [zU14_0, z0, z1, z2, y0, y1, y2]); (repeat (refine V.s1 ?_; (try simp only [zU14_0, z0, z1, z2, y0, y1, y2]))); exact ⟨rfl⟩)); (conv => whnf)) | ((try ((with_reducible refine .ext ?_); (conv => whnf); (try simp only [zU14_0, z0, z1, z2, y0, y1, y2]))); (with_reducible refine call_intro (r := ?_) ?_ ?_); rotate_left; (focus (first | exact (o0) | exact (o1) | exact (o2))); (conv => whnf))); (try simp only [zU14_0, z0, z1, z2, y0, y1, y2])) | (refine And.intro ?_ ?_ <;> (conv => whnf); (try simp only [zU14_0, z0, z1, z2, y0, y1, y2])))
        (conv => whnf)
        (try simp only [zU14_0, z0, z1, z2, y0, y1, y2, frC])
        repeat ((first | refine V.s1 ?_); (try simp only [zU14_0, z0, z1, z2, y0, y1, y2, frC]))
        exact ⟨2, by omega, by omega, V.wk⟩
      · subst e1
        simp only [k2, n20, n21, m21, stRe, stI0, zC, frC, List.cons_append, List.nil_append]
        (conv => whnf)
        (try simp only [zU14_0, z0, z1, z2, y0, y1, y2])
        repeat ((first | refine V.s1 ?_); (try simp only [zU14_0, z0, z1, z2, y0, y1, y2]))
        refine ⟨(.take 0 (.take 1 (.take 2 (.take 3 (.take 4 (.take 5 (.take 6 (.take 7 (.take 8 (.take 9 (.take 10 (.take 11 (.take 12 (.take 13 (.take 14 (.ev (.cons 15 [] (.take 16 (.take 17 (.take 18 (.ev (.cons 19 [18, 17, 16] (.ev (.cons 20 [18] (.take 21 (.done)) (.nil))) (.nil)))))) (.cons 19 [14, 13, 12, 11, 10, 9, 8, 7, 6, 5, 4, 3, 2, 1, 0] (.ev (.cons 15 [] (.take 16 (.take 17 (.take 18 (.ev (.cons 20 [18] (.take 21 (.done)) (.nil)))))) (.nil))) (.nil))))))))))))))))))), ⟨by kernel_rfl, by kernel_rfl, by kernel_rfl⟩, ?_⟩
        refine drw_meet [(15, .int .i64 0), (14, .box 14 0)] [(14, .box (frC q0))] ?_ ?_
        · (conv => whnf); (try simp only [zU14_0, z0, z1, z2, y0, y1, y2])
          repeat' (first | exact V.wk | ((first | refine V.s1 ?_ | ((with_reducible refine recheck_and ?_ ?_); (focus ((conv => whnf); (try simp only [zU14_0, z0, z1, z2, y0, y1, y2]); (repeat (refine V.s1 ?_; (try simp only [zU14_0, z0, z1, z2, y0, y1, y2]))); exact ⟨rfl⟩)); (conv => whnf)) | ((try ((with_reducible refine .ext ?_); (conv => whnf); (try simp only [zU14_0, z0, z1, z2, y0, y1, y2]))); (with_reducible refine call_intro (r := ?_) ?_ ?_); rotate_left; (focus (first | exact (o0) | exact (o1) | exact (o2))); (conv => whnf))); (try simp only [zU14_0, z0, z1, z2, y0, y1, y2])) | (refine And.intro ?_ ?_ <;> (conv => whnf); (try simp only [zU14_0, z0, z1, z2, y0, y1, y2])))
        (conv => whnf)
        (try simp only [zU14_0, z0, z1, z2, y0, y1, y2, frC])
        repeat ((first | refine V.s1 ?_); (try simp only [zU14_0, z0, z1, z2, y0, y1, y2, frC]))
        exact ⟨3, by omega, by omega, V.wk⟩
    · have hk3 : k = 3 := by
        simp at hq
        omega
      subst hk3
      simp only [stI0, frC, List.cons_append, List.nil_append]
      (conv => whnf)
      (try simp only [Nat.zero_add])
      repeat ((first | refine V.s1 ?_); (try simp only [Nat.zero_add]))
      exact Fin.of rfl
  · simp only [n3L, ordA, rs3, k0, k1, k2]
    unfold frq at eq0 eq1 eq2
    simp only [rs3] at eq0 eq1 eq2
    have o0 := ofE eq0 (by omega) (by omega)
    have o1 := ofE eq1 (by omega) (by omega)
    have o2 := ofE eq2 (by omega) (by omega)
    clear eq0 eq1 eq2
    unfold frC at o0 o1 o2
    refine called_of_run tbOk 6 ⟨Tryd.func16, rfl, rfl, Nat.le_of_ble_eq_true rfl⟩ ?_
    (conv => whnf)
    (conv => whnf)
    (try simp only [Nat.zero_add])
    repeat ((first | refine V.s1 ?_); (try simp only [Nat.zero_add]))
    refine lp_any (0) (fun k => k ≤ 3) (fun k => 3 - k) (fun k => [(12, .int .i64 (2 - (k : Int))), (11, .int .i64 (stRe a b e k))]) (fun k => [(16, .box (stI1 q0 q1 q2 k))]) ?_ ?_ ?_
    exact V.wk
    exact Nat.zero_le _
    intro k hk
    (conv => whnf)
    (try simp only [Nat.zero_add])
    repeat ((first | refine V.s1 ?_); (try simp only [Nat.zero_add]))
    refine Cnd.split (CondB.mk (fun hq => ?_) (fun hq => ?_))
    · have hk3 : k = 0 ∨ k = 1 ∨ k = 2 := by
        simp at hq
        omega
      rcases hk3 with e1 | e1 | e1
      · subst e1
        simp only [k0, n20, n21, m21, stRe, stI1, zC, frC, List.cons_append, List.nil_append]
        (conv => whnf)
        (try simp only [zU14_0, z0, z1, z2, y0, y1, y2])
        repeat ((first | refine V.s1 ?_); (try simp only [zU14_0, z0, z1, z2, y0, y1, y2]))
        refine ⟨(.take 0 (.take 1 (.take 2 (.take 3 (.take 4 (.take 5 (.take 6 (.take 7 (.take 8 (.take 9 (.take 10 (.take 11 (.take 12 (.take 13 (.take 14 (.ev (.cons 15 [] (.take 16 (.take 17 (.take 18 (.ev (.cons 19 [18, 17, 16] (.ev (.cons 20 [18] (.take 21 (.done)) (.nil))) (.nil)))))) (.cons 19 [14, 13, 12, 11, 10, 9, 8, 7, 6, 5, 4, 3, 2, 1, 0] (.ev (.cons 15 [] (.take 16 (.take 17 (.take 18 (.ev (.cons 20 [18] (.take 21 (.done)) (.nil)))))) (.nil))) (.nil))))))))))))))))))), ⟨by kernel_rfl, by kernel_rfl, by kernel_rfl⟩, ?_⟩
        refine drw_meet [(15, .int .i64 0), (14, .box 14 0)] [(14, .box (frC q1))] ?_ ?_
        · (conv => whnf); (try simp only [zU14_0, z0, z1, z2, y0, y1, y2])
          repeat' (first | exact V.wk | ((first | refine V.s1 ?_ | ((with_reducible refine recheck_and ?_ ?_); (focus ((conv => whnf); (try simp only [zU14_0, z0, z1, z2, y0, y1, y2]); (repeat (refine V.s1 ?_; (try simp only [zU14_0, z0, z1, z2, y0, y1, y2]))); exact ⟨rfl⟩)); (conv => whnf)) | ((try ((with_reducible refine .ext ?_); (conv => whnf); (try simp only [zU14_0, z0, z1, z2, y0, y1, y2]))); (with_reducible refine call_intro (r := ?_) ?_ ?_); rotate_left; (focus (first | exact (o0) | exact (o1) | exact (o2))); (conv => whnf))); (try simp only [zU14_0, z0, z1, z2, y0, y1, y2])) | (refine And.intro ?_ ?_ <;> (conv => whnf); (try simp only [zU14_0, z0, z1, z2, y0, y1, y2])))
        (conv => whnf)
        (try simp only [zU14_0, z0, z1, z2, y0, y1, y2, frC])
        repeat ((first | refine V.s1 ?_); (try simp only [zU14_0, z0, z1, z2, y0, y1, y2, frC]))
        exact ⟨1, by omega, by omega, V.wk⟩
      · subst e1
        simp only [k1, n20, n21, m21, stRe, stI1, zC, frC, List.cons_append, List.nil_append]
        (conv => whnf)
        (try simp only [zU14_0, z0, z1, z2, y0, y1, y2])
        repeat ((first | refine V.s1 ?_); (try simp only [zU14_0, z0, z1, z2, y0, y1, y2]))
        refine ⟨(.take 0 (.take 1 (.take 2 (.take 3 (.take 4 (.take 5 (.take 6 (.take 7 (.take 8 (.take 9 (.take 10 (.take 11 (.take 12 (.take 13 (.take 14 (.ev (.cons 15 [] (.take 16 (.take 17 (.take 18 (.ev (.cons 19 [18, 17, 16] (.ev (.cons 20 [18] (.take 21 (.done)) (.nil))) (.nil)))))) (.cons 19 [14, 13, 12, 11, 10, 9, 8, 7, 6, 5, 4, 3, 2, 1, 0] (.ev (.cons 15 [] (.take 16 (.take 17 (.take 18 (.ev (.cons 20 [18] (.take 21 (.done)) (.nil)))))) (.nil))) (.nil))))))))))))))))))), ⟨by kernel_rfl, by kernel_rfl, by kernel_rfl⟩, ?_⟩
        refine drw_meet [(15, .int .i64 0), (14, .box 14 0)] [(14, .box (frC q2))] ?_ ?_
        · (conv => whnf); (try simp only [zU14_0, z0, z1, z2, y0, y1, y2])
          repeat' (first | exact V.wk | ((first | refine V.s1 ?_ | ((with_reducible refine recheck_and ?_ ?_); (focus ((conv => whnf); (try simp only [zU14_0, z0, z1, z2, y0, y1, y2]); (repeat (refine V.s1 ?_; (try simp only [zU14_0, z0, z1, z2, y0, y1, y2]))); exact ⟨rfl⟩)); (conv => whnf)) | ((try ((with_reducible refine .ext ?_); (conv => whnf); (try simp only [zU14_0, z0, z1, z2, y0, y1, y2]))); (with_reducible refine call_intro (r := ?_) ?_ ?_); rotate_left; (focus (first | exact (o0) | exact (o1) | exact (o2))); (conv => whnf))); (try simp only [zU14_0, z0, z1, z2, y0, y1, y2])) | (refine And.intro ?_ ?_ <;> (conv => whnf); (try simp only [zU14_0, z0, z1, z2, y0, y1, y2])))
        (conv => whnf)
        (try simp only [zU14_0, z0, z1, z2, y0, y1, y2, frC])
        repeat ((first | refine V.s1 ?_); (try simp only [zU14_0, z0, z1, z2, y0, y1, y2, frC]))
        exact ⟨2, by omega, by omega, V.wk⟩
      · subst e1
        simp only [k2, n20, n21, m21, stRe, stI1, zC, frC, List.cons_append, List.nil_append]
        (conv => whnf)
        (try simp only [zU14_0, z0, z1, z2, y0, y1, y2])
        repeat ((first | refine V.s1 ?_); (try simp only [zU14_0, z0, z1, z2, y0, y1, y2]))
        refine ⟨(.take 0 (.take 1 (.take 2 (.take 3 (.take 4 (.take 5 (.take 6 (.take 7 (.take 8 (.take 9 (.take 10 (.take 11 (.take 12 (.take 13 (.take 14 (.ev (.cons 15 [] (.take 16 (.take 17 (.take 18 (.ev (.cons 19 [18, 17, 16] (.ev (.cons 20 [18] (.take 21 (.done)) (.nil))) (.nil)))))) (.cons 19 [14, 13, 12, 11, 10, 9, 8, 7, 6, 5, 4, 3, 2, 1, 0] (.ev (.cons 15 [] (.take 16 (.take 17 (.take 18 (.ev (.cons 20 [18] (.take 21 (.done)) (.nil)))))) (.nil))) (.nil))))))))))))))))))), ⟨by kernel_rfl, by kernel_rfl, by kernel_rfl⟩, ?_⟩
        refine drw_meet [(15, .int .i64 0), (14, .box 14 0)] [(14, .box (frC q0))] ?_ ?_
        · (conv => whnf); (try simp only [zU14_0, z0, z1, z2, y0, y1, y2])
          repeat' (first | exact V.wk | ((first | refine V.s1 ?_ | ((with_reducible refine recheck_and ?_ ?_); (focus ((conv => whnf); (try simp only [zU14_0, z0, z1, z2, y0, y1, y2]); (repeat (refine V.s1 ?_; (try simp only [zU14_0, z0, z1, z2, y0, y1, y2]))); exact ⟨rfl⟩)); (conv => whnf)) | ((try ((with_reducible refine .ext ?_); (conv => whnf); (try simp only [zU14_0, z0, z1, z2, y0, y1, y2]))); (with_reducible refine call_intro (r := ?_) ?_ ?_); rotate_left; (focus (first | exact (o0) | exact (o1) | exact (o2))); (conv => whnf))); (try simp only [zU14_0, z0, z1, z2, y0, y1, y2])) | (refine And.intro ?_ ?_ <;> (conv => whnf); (try simp only [zU14_0, z0, z1, z2, y0, y1, y2])))
        (conv => whnf)
        (try simp only [zU14_0, z0, z1, z2, y0, y1, y2, frC])
        repeat ((first | refine V.s1 ?_); (try simp only [zU14_0, z0, z1, z2, y0, y1, y2, frC]))
        exact ⟨3, by omega, by omega, V.wk⟩
    · have hk3 : k = 3 := by
        simp at hq
        omega
      subst hk3
      simp only [stI1, frC, List.cons_append, List.nil_append]
      (conv => whnf)
      (try simp only [Nat.zero_add])
      repeat ((first | refine V.s1 ?_); (try simp only [Nat.zero_add]))
      exact Fin.of rfl
  · simp only [n3L, ordA, rs3, k0, k1, k2]
    unfold frq at eq0 eq1 eq2
    simp only [rs3] at eq0 eq1 eq2
    have o0 := ofE eq0 (by omega) (by omega)
    have o1 := ofE eq1 (by omega) (by omega)
    have o2 := ofE eq2 (by omega) (by omega)
    clear eq0 eq1 eq2
    unfold frC at o0 o1 o2
    refine called_of_run tbOk 6 ⟨Tryd.func16, rfl, rfl, Nat.le_of_ble_eq_true rfl⟩ ?_
    (conv => whnf)
    (conv => whnf)
    (try simp only [Nat.zero_add])
    repeat ((first | refine V.s1 ?_); (try simp only [Nat.zero_add]))
    refine lp_any (0) (fun k => k ≤ 3) (fun k => 3 - k) (fun k => [(12, .int .i64 (2 - (k : Int))), (11, .int .i64 (stRe a b e k))]) (fun k => [(16, .box (stI2 q0 q1 q2 k))]) ?_ ?_ ?_
    exact V.wk
    exact Nat.zero_le _
    intro k hk
    (conv => whnf)
    (try simp only [Nat.zero_add])
    repeat ((first | refine V.s1 ?_); (try simp only [Nat.zero_add]))
    refine Cnd.split (CondB.mk (fun hq => ?_) (fun hq => ?_))
    · have hk3 : k = 0 ∨ k = 1 ∨ k = 2 := by
        simp at hq
        omega
      rcases hk3 with e1 | e1 | e1
      · subst e1
        simp only [k0, n20, n21, m21, stRe, stI2, zC, frC, List.cons_append, List.nil_append]
        (conv => whnf)
        (try simp only [zU14_0, z0, z1, z2, y0, y1, y2])
        repeat ((first | refine V.s1 ?_); (try simp only [zU14_0, z0, z1, z2, y0, y1, y2]))
        refine ⟨(.take 0 (.take 1 (.take 2 (.take 3 (.take 4 (.take 5 (.take 6 (.take 7 (.take 8 (.take 9 (.take 10 (.take 11 (.take 12 (.take 13 (.take 14 (.ev (.cons 15 [] (.take 16 (.take 17 (.take 18 (.ev (.cons 19 [18, 17, 16] (.ev (.cons 20 [18] (.take 21 (.done)) (.nil))) (.nil)))))) (.cons 19 [14, 13, 12, 11, 10, 9, 8, 7, 6, 5, 4, 3, 2, 1, 0] (.ev (.cons 15 [] (.take 16 (.take 17 (.take 18 (.ev (.cons 20 [18] (.take 21 (.done)) (.nil)))))) (.nil))) (.nil))))))))))))))))))), ⟨by kernel_rfl, by kernel_rfl, by kernel_rfl⟩, ?_⟩
        refine drw_meet [(15, .int .i64 0), (14, .box 14 0)] [(14, .box (frC q2))] ?_ ?_
        · (conv => whnf); (try simp only [zU14_0, z0, z1, z2, y0, y1, y2])
          repeat' (first | exact V.wk | ((first | refine V.s1 ?_ | ((with_reducible refine recheck_and ?_ ?_); (focus ((conv => whnf); (try simp only [zU14_0, z0, z1, z2, y0, y1, y2]); (repeat (refine V.s1 ?_; (try simp only [zU14_0, z0, z1, z2, y0, y1, y2]))); exact ⟨rfl⟩)); (conv => whnf)) | ((try ((with_reducible refine .ext ?_); (conv => whnf); (try simp only [zU14_0, z0, z1, z2, y0, y1, y2]))); (with_reducible refine call_intro (r := ?_) ?_ ?_); rotate_left; (focus (first | exact (o0) | exact (o1) | exact (o2))); (conv => whnf))); (try simp only [zU14_0, z0, z1, z2, y0, y1, y2])) | (refine And.intro ?_ ?_ <;> (conv => whnf); (try simp only [zU14_0, z0, z1, z2, y0, y1, y2])))
        (conv => whnf)
        (try simp only [zU14_0, z0, z1, z2, y0, y1, y2, frC])
        repeat ((first | refine V.s1 ?_); (try simp only [zU14_0, z0, z1, z2, y0, y1, y2, frC]))
        exact ⟨1, by omega, by omega, V.wk⟩
      · subst e1
        simp only [k1, n20, n21, m21, stRe, stI2, zC, frC, List.cons_append, List.nil_append]
        (conv => whnf)
        (try simp only [zU14_0, z0, z1, z2, y0, y1, y2])
        repeat ((first | refine V.s1 ?_); (try simp only [zU14_0, z0, z1, z2, y0, y1, y2]))
        refine ⟨(.take 0 (.take 1 (.take 2 (.take 3 (.take 4 (.take 5 (.take 6 (.take 7 (.take 8 (.take 9 (.take 10 (.take 11 (.take 12 (.take 13 (.take 14 (.ev (.cons 15 [] (.take 16 (.take 17 (.take 18 (.ev (.cons 19 [18, 17, 16] (.ev (.cons 20 [18] (.take 21 (.done)) (.nil))) (.nil)))))) (.cons 19 [14, 13, 12, 11, 10, 9, 8, 7, 6, 5, 4, 3, 2, 1, 0] (.ev (.cons 15 [] (.take 16 (.take 17 (.take 18 (.ev (.cons 20 [18] (.take 21 (.done)) (.nil)))))) (.nil))) (.nil))))))))))))))))))), ⟨by kernel_rfl, by kernel_rfl, by kernel_rfl⟩, ?_⟩
        refine drw_meet [(15, .int .i64 0), (14, .box 14 0)] [(14, .box (frC q0))] ?_ ?_
        · (conv => whnf); (try simp only [zU14_0, z0, z1, z2, y0, y1, y2])
          repeat' (first | exact V.wk | ((first | refine V.s1 ?_ | ((with_reducible refine recheck_and ?_ ?_); (focus ((conv => whnf); (try simp only [zU14_0, z0, z1, z2, y0, y1, y2]); (repeat (refine V.s1 ?_; (try simp only [zU14_0, z0, z1, z2, y0, y1, y2]))); exact ⟨rfl⟩)); (conv => whnf)) | ((try ((with_reducible refine .ext ?_); (conv => whnf); (try simp only [zU14_0, z0, z1, z2, y0, y1, y2]))); (with_reducible refine call_intro (r := ?_) ?_ ?_); rotate_left; (focus (first | exact (o0) | exact (o1) | exact (o2))); (conv => whnf))); (try simp only [zU14_0, z0, z1, z2, y0, y1, y2])) | (refine And.intro ?_ ?_ <;> (conv => whnf); (try simp only [zU14_0, z0, z1, z2, y0, y1, y2])))
        (conv => whnf)
        (try simp only [zU14_0, z0, z1, z2, y0, y1, y2, frC])
        repeat ((first | refine V.s1 ?_); (try simp only [zU14_0, z0, z1, z2, y0, y1, y2, frC]))
        exact ⟨2, by omega, by omega, V.wk⟩
      · subst e1
        simp only [k2, n20, n21, m21, stRe, stI2, zC, frC, List.cons_append, List.nil_append]
        (conv => whnf)
        (try simp only [zU14_0, z0, z1, z2, y0, y1, y2])
        repeat ((first | refine V.s1 ?_); (try simp only [zU14_0, z0, z1, z2, y0, y1, y2]))
        refine ⟨(.take 0 (.take 1 (.take 2 (.take 3 (.take 4 (.take 5 (.take 6 (.take 7 (.take 8 (.take 9 (.take 10 (.take 11 (.take 12 (.take 13 (.take 14 (.ev (.cons 15 [] (.take 16 (.take 17 (.take 18 (.ev (.cons 19 [18, 17, 16] (.ev (.cons 20 [18] (.take 21 (.done)) (.nil))) (.nil)))))) (.cons 19 [14, 13, 12, 11, 10, 9, 8, 7, 6, 5, 4, 3, 2, 1, 0] (.ev (.cons 15 [] (.take 16 (.take 17 (.take 18 (.ev (.cons 20 [18] (.take 21 (.done)) (.nil)))))) (.nil))) (.nil))))))))))))))))))), ⟨by kernel_rfl, by kernel_rfl, by kernel_rfl⟩, ?_⟩
        refine drw_meet [(15, .int .i64 0), (14, .box 14 0)] [(14, .box (frC q1))] ?_ ?_
        · (conv => whnf); (try simp only [zU14_0, z0, z1, z2, y0, y1, y2])
          repeat' (first | exact V.wk | ((first | refine V.s1 ?_ | ((with_reducible refine recheck_and ?_ ?_); (focus ((conv => whnf); (try simp only [zU14_0, z0, z1, z2, y0, y1, y2]); (repeat (refine V.s1 ?_; (try simp only [zU14_0, z0, z1, z2, y0, y1, y2]))); exact ⟨rfl⟩)); (conv => whnf)) | ((try ((with_reducible refine .ext ?_); (conv => whnf); (try simp only [zU14_0, z0, z1, z2, y0, y1, y2]))); (with_reducible refine call_intro (r := ?_) ?_ ?_); rotate_left; (focus (first | exact (o0) | exact (o1) | exact (o2))); (conv => whnf))); (try simp only [zU14_0, z0, z1, z2, y0, y1, y2])) | (refine And.intro ?_ ?_ <;> (conv => whnf); (try simp only [zU14_0, z0, z1, z2, y0, y1, y2])))
        (conv => whnf)
        (try simp only [zU14_0, z0, z1, z2, y0, y1, y2, frC])
        repeat ((first | refine V.s1 ?_); (try simp only [zU14_0, z0, z1, z2, y0, y1, y2, frC]))
        exact ⟨3, by omega, by omega, V.wk⟩
    · have hk3 : k = 3 := by
        simp at hq
        omega
      subst hk3
      simp only [stI2, frC, List.cons_append, List.nil_append]
      (conv => whnf)
      (try simp only [Nat.zero_add])
      repeat ((first | refine V.s1 ?_); (try simp only [Nat.zero_add]))
      exact Fin.of rfl
  · simp only [n3L, ordA, rs3, k0, k1, k2]
    unfold frq at eq0 eq1 eq2
    simp only [rs3] at eq0 eq1 eq2
    have o0 := ofE eq0 (by omega) (by omega)
    have o1 := ofE eq1 (by omega) (by omega)
    have o2 := ofE eq2 (by omega) (by omega)
    clear eq0 eq1 eq2
    unfold frC at o0 o1 o2
    refine called_of_run tbOk 6 ⟨Tryd.func16, rfl, rfl, Nat.le_of_ble_eq_true rfl⟩ ?_
    (conv => whnf)
    (conv => whnf)
    (try simp only [Nat.zero_add])
    repeat ((first | refine V.s1 ?_); (try simp only [Nat.zero_add]))
    refine lp_any (0) (fun k => k ≤ 3) (fun k => 3 - k) (fun k => [(12, .int .i64 (2 - (k : Int))), (11, .int .i64 (stRe a b e k))]) (fun k => [(16, .box (stI3 q0 q1 q2 k))]) ?_ ?_ ?_
    exact V.wk
    exact Nat.zero_le _
    intro k hk
    (conv => whnf)
    (try simp only [Nat.zero_add])
    repeat ((first | refine V.s1 ?_); (try simp only [Nat.zero_add]))
    refine Cnd.split (CondB.mk (fun hq => ?_) (fun hq => ?_))
    · have hk3 : k = 0 ∨ k = 1 ∨ k = 2 := by
        simp at hq
        omega
      rcases hk3 with e1 | e1 | e1
      · subst e1
        simp only [k0, n20, n21, m21, stRe, stI3, zC, frC, List.cons_append, List.nil_append]
        (conv => whnf)
        (try simp only [zU14_0, z0, z1, z2, y0, y1, y2])
        repeat ((first | refine V.s1 ?_); (try simp only [zU14_0, z0, z1, z2, y0, y1, y2]))
        refine ⟨(.take 0 (.take 1 (.take 2 (.take 3 (.take 4 (.take 5 (.take 6 (.take 7 (.take 8 (.take 9 (.take 10 (.take 11 (.take 12 (.take 13 (.take 14 (.ev (.cons 15 [] (.take 16 (.take 17 (.take 18 (.ev (.cons 19 [18, 17, 16] (.ev (.cons 20 [18] (.take 21 (.done)) (.nil))) (.nil)))))) (.cons 19 [14, 13, 12, 11, 10, 9, 8, 7, 6, 5, 4, 3, 2, 1, 0] (.ev (.cons 15 [] (.take 16 (.take 17 (.take 18 (.ev (.cons 20 [18] (.take 21 (.done)) (.nil)))))) (.nil))) (.nil))))))))))))))))))), ⟨by kernel_rfl, by kernel_rfl, by kernel_rfl⟩, ?_⟩
        refine drw_meet [(15, .int .i64 0), (14, .box 14 0)] [(14, .box (frC q0))] ?_ ?_
        · (conv => whnf); (try simp only [zU14_0, z0, z1, z2, y0, y1, y2])
          repeat' (first | exact V.wk | ((first | refine V.s1 ?_ | ((with_reducible refine recheck_and ?_ ?_); (focus ((conv => whnf); (try simp only [zU14_0, z0, z1, z2, y0, y1, y2]); (repeat (refine V.s1 ?_; (try simp only [zU14_0, z0, z1, z2, y0, y1, y2]))); exact ⟨rfl⟩)); (conv => whnf)) | ((try ((with_reducible refine .ext ?_); (conv => whnf); (try simp only [zU14_0, z0, z1, z2, y0, y1, y2]))); (with_reducible refine call_intro (r := ?_) ?_ ?_); rotate_left; (focus (first | exact (o0) | exact (o1) | exact (o2))); (conv => whnf))); (try simp only [zU14_0, z0, z1, z2, y0, y1, y2])) | (refine And.intro ?_ ?_ <;> (conv => whnf); (try simp only [zU14_0, z0, z1, z2, y0, y1, y2])))
        (conv => whnf)
        (try simp only [zU14_0, z0, z1, z2, y0, y1, y2, frC])
        repeat ((first | refine V.s1 ?_); (try simp only [zU14_0, z0, z1, z2, y0, y1, y2, frC]))
        exact ⟨1, by omega, by omega, V.wk⟩
      · subst e1
        simp only [k1, n20, n21, m21, stRe, stI3, zC, frC, List.cons_append, List.nil_append]
        (conv => whnf)
        (try simp only [zU14_0, z0, z1, z2, y0, y1, y2])
        repeat ((first | refine V.s1 ?_); (try simp only [zU14_0, z0, z1, z2, y0, y1, y2]))
        refine ⟨(.take 0 (.take 1 (.take 2 (.take 3 (.take 4 (.take 5 (.take 6 (.take 7 (.take 8 (.take 9 (.take 10 (.take 11 (.take 12 (.take 13 (.take 14 (.ev (.cons 15 [] (.take 16 (.take 17 (.take 18 (.ev (.cons 19 [18, 17, 16] (.ev (.cons 20 [18] (.take 21 (.done)) (.nil))) (.nil)))))) (.cons 19 [14, 13, 12, 11, 10, 9, 8, 7, 6, 5, 4, 3, 2, 1, 0] (.ev (.cons 15 [] (.take 16 (.take 17 (.take 18 (.ev (.cons 20 [18] (.take 21 (.done)) (.nil)))))) (.nil))) (.nil))))))))))))))))))), ⟨by kernel_rfl, by kernel_rfl, by kernel_rfl⟩, ?_⟩
        refine drw_meet [(15, .int .i64 0), (14, .box 14 0)] [(14, .box (frC q2))] ?_ ?_
        · (conv => whnf); (try simp only [zU14_0, z0, z1, z2, y0, y1, y2])
          repeat' (first | exact V.wk | ((first | refine V.s1 ?_ | ((with_reducible refine recheck_and ?_ ?_); (focus ((conv => whnf); (try simp only [zU14_0, z0, z1, z2, y0, y1, y2]); (repeat (refine V.s1 ?_; (try simp only [zU14_0, z0, z1, z2, y0, y1, y2]))); exact ⟨rfl⟩)); (conv => whnf)) | ((try ((with_reducible refine .ext ?_); (conv => whnf); (try simp only [zU14_0, z0, z1, z2, y0, y1, y2]))); (with_reducible refine call_intro (r := ?_) ?_ ?_); rotate_left; (focus (first | exact (o0) | exact (o1) | exact (o2))); (conv => whnf))); (try simp only [zU14_0, z0, z1, z2, y0, y1, y2])) | (refine And.intro ?_ ?_ <;> (conv => whnf); (try simp only [zU14_0, z0, z1, z2, y0, y1, y2])))
        (conv => whnf)
        (try simp only [zU14_0, z0, z1, z2, y0, y1, y2, frC])
        repeat ((first | refine V.s1 ?_); (try simp only [zU14_0, z0, z1, z2, y0, y1, y2, frC]))
        exact ⟨2, by omega, by omega, V.wk⟩
      · subst e1
        simp only [k2, n20, n21, m21, stRe, stI3, zC, frC, List.cons_append, List.nil_append]
        (conv => whnf)
        (try simp only [zU14_0, z0, z1, z2, y0, y1, y2])
        repeat ((first | refine V.s1 ?_); (try simp only [zU14_0, z0, z1, z2, y0, y1, y2]))
        refine ⟨(.take 0 (.take 1 (.take 2 (.take 3 (.take 4 (.take 5 (.take 6 (.take 7 (.take 8 (.take 9 (.take 10 (.take 11 (.take 12 (.take 13 (.take 14 (.ev (.cons 15 [] (.take 16 (.take 17 (.take 18 (.ev (.cons 19 [18, 17, 16] (.ev (.cons 20 [18] (.take 21 (.done)) (.nil))) (.nil)))))) (.cons 19 [14, 13, 12, 11, 10, 9, 8, 7, 6, 5, 4, 3, 2, 1, 0] (.ev (.cons 15 [] (.take 16 (.take 17 (.take 18 (.ev (.cons 20 [18] (.take 21 (.done)) (.nil)))))) (.nil))) (.nil))))))))))))))))))), ⟨by kernel_rfl, by kernel_rfl, by kernel_rfl⟩, ?_⟩
        refine drw_meet [(15, .int .i64 0), (14, .box 14 0)] [(14, .box (frC q1))] ?_ ?_
        · (conv => whnf); (try simp only [zU14_0, z0, z1, z2, y0, y1, y2])
          repeat' (first | exact V.wk | ((first | refine V.s1 ?_ | ((with_reducible refine recheck_and ?_ ?_); (focus ((conv => whnf); (try simp only [zU14_0, z0, z1, z2, y0, y1, y2]); (repeat (refine V.s1 ?_; (try simp only [zU14_0, z0, z1, z2, y0, y1, y2]))); exact ⟨rfl⟩)); (conv => whnf)) | ((try ((with_reducible refine .ext ?_); (conv => whnf); (try simp only [zU14_0, z0, z1, z2, y0, y1, y2]))); (with_reducible refine call_intro (r := ?_) ?_ ?_); rotate_left; (focus (first | exact (o0) | exact (o1) | exact (o2))); (conv => whnf))); (try simp only [zU14_0, z0, z1, z2, y0, y1, y2])) | (refine And.intro ?_ ?_ <;> (conv => whnf); (try simp only [zU14_0, z0, z1, z2, y0, y1, y2])))
        (conv => whnf)
        (try simp only [zU14_0, z0, z1, z2, y0, y1, y2, frC])
        repeat ((first | refine V.s1 ?_); (try simp only [zU14_0, z0, z1, z2, y0, y1, y2, frC]))
        exact ⟨3, by omega, by omega, V.wk⟩
    · have hk3 : k = 3 := by
        simp at hq
        omega
      subst hk3
      simp only [stI3, frC, List.cons_append, List.nil_append]
      (conv => whnf)
      (try simp only [Nat.zero_add])
      repeat ((first | refine V.s1 ?_); (try simp only [Nat.zero_add]))
      exact Fin.of rfl
  · simp only [n3L, ordA, rs3, k0, k1, k2]
    unfold frq at eq0 eq1 eq2
    simp only [rs3] at eq0 eq1 eq2
    have o0 := ofE eq0 (by omega) (by omega)
    have o1 := ofE eq1 (by omega) (by omega)
    have o2 := ofE eq2 (by omega) (by omega)
    clear eq0 eq1 eq2
    unfold frC at o0 o1 o2
    refine called_of_run tbOk 6 ⟨Tryd.func16, rfl, rfl, Nat.le_of_ble_eq_true rfl⟩ ?_
    (conv => whnf)
    (conv => whnf)
    (try simp only [Nat.zero_add])
    repeat ((first | refine V.s1 ?_); (try simp only [Nat.zero_add]))
    refine lp_any (0) (fun k => k ≤ 3) (fun k => 3 - k) (fun k => [(12, .int .i64 (2 - (k : Int))), (11, .int .i64 (stRe a b e k))]) (fun k => [(16, .box (stI4 q0 q1 q2 k))]) ?_ ?_ ?_
    exact V.wk
    exact Nat.zero_le _
    intro k hk
    (conv => whnf)
    (try simp only [Nat.zero_add])
    repeat ((first | refine V.s1 ?_); (try simp only [Nat.zero_add]))
    refine Cnd.split (CondB.mk (fun hq => ?_) (fun hq => ?_))
    · have hk3 : k = 0 ∨ k = 1 ∨ k = 2 := by
        simp at hq
        omega
      rcases hk3 with e1 | e1 | e1
      · subst e1
        simp only [k0, n20, n21, m21, stRe, stI4, zC, frC, List.cons_append, List.nil_append]
        (conv => whnf)
        (try simp only [zU14_0, z0, z1, z2, y0, y1, y2])
        repeat ((first | refine V.s1 ?_); (try simp only [zU14_0, z0, z1, z2, y0, y1, y2]))
        refine ⟨(.take 0 (.take 1 (.take 2 (.take 3 (.take 4 (.take 5 (.take 6 (.take 7 (.take 8 (.take 9 (.take 10 (.take 11 (.take 12 (.take 13 (.take 14 (.ev (.cons 15 [] (.take 16 (.take 17 (.take 18 (.ev (.cons 19 [18, 17, 16] (.ev (.cons 20 [18] (.take 21 (.done)) (.nil))) (.nil)))))) (.cons 19 [14, 13, 12, 11, 10, 9, 8, 7, 6, 5, 4, 3, 2, 1, 0] (.ev (.cons 15 [] (.take 16 (.take 17 (.take 18 (.ev (.cons 20 [18] (.take 21 (.done)) (.nil)))))) (.nil))) (.nil))))))))))))))))))), ⟨by kernel_rfl, by kernel_rfl, by kernel_rfl⟩, ?_⟩
        refine drw_meet [(15, .int .i64 0), (14, .box 14 0)] [(14, .box (frC q1))] ?_ ?_
        · (conv => whnf); (try simp only [zU14_0, z0, z1, z2, y0, y1, y2])
          repeat' (first | exact V.wk | ((first | refine V.s1 ?_ | ((with_reducible refine recheck_and ?_ ?_); (focus ((conv => whnf); (try simp only [zU14_0, z0, z1, z2, y0, y1, y2]); (repeat (refine V.s1 ?_; (try simp only [zU14_0, z0, z1, z2, y0, y1, y2]))); exact ⟨rfl⟩)); (conv => whnf)) | ((try ((with_reducible refine .ext ?_); (conv => whnf); (try simp only [zU14_0, z0, z1, z2, y0, y1, y2]))); (with_reducible refine call_intro (r := ?_) ?_ ?_); rotate_left; (focus (first | exact (o0) | exact (o1) | exact (o2))); (conv => whnf))); (try simp only [zU14_0, z0, z1, z2, y0, y1, y2])) | (refine And.intro ?_ ?_ <;> (conv => whnf); (try simp only [zU14_0, z0, z1, z2, y0, y1, y2])))
        (conv => whnf)
        (try simp only [zU14_0, z0, z1, z2, y0, y1, y2, frC])
        repeat ((first | refine V.s1 ?_); (try simp only [zU14_0, z0, z1, z2, y0, y1, y2, frC]))
        exact ⟨1, by omega, by omega, V.wk⟩
      · subst e1
        simp only [k1, n20, n21, m21, stRe, stI4, zC, frC, List.cons_append, List.nil_append]
        (conv => whnf)
        (try simp only [zU14_0, z0, z1, z2, y0, y1, y2])
        repeat ((first | refine V.s1 ?_); (try simp only [zU14_0, z0, z1, z2, y0, y1, y2]))
        refine ⟨(.take 0 (.take 1 (.take 2 (.take 3 (.take 4 (.take 5 (.take 6 (.take 7 (.take 8 (.take 9 (.take 10 (.take 11 (.take 12 (.take 13 (.take 14 (.ev (.cons 15 [] (.take 16 (.take 17 (.take 18 (.ev (.cons 19 [18, 17, 16] (.ev (.cons 20 [18] (.take 21 (.done)) (.nil))) (.nil)))))) (.cons 19 [14, 13, 12, 11, 10, 9, 8, 7, 6, 5, 4, 3, 2, 1, 0] (.ev (.cons 15 [] (.take 16 (.take 17 (.take 18 (.ev (.cons 20 [18] (.take 21 (.done)) (.nil)))))) (.nil))) (.nil))))))))))))))))))), ⟨by kernel_rfl, by kernel_rfl, by kernel_rfl⟩, ?_⟩
        refine drw_meet [(15, .int .i64 0), (14, .box 14 0)] [(14, .box (frC q0))] ?_ ?_
        · (conv => whnf); (try simp only [zU14_0, z0, z1, z2, y0, y1, y2])
          repeat' (first | exact V.wk | ((first | refine V.s1 ?_ | ((with_reducible refine recheck_and ?_ ?_); (focus ((conv => whnf); (try simp only [zU14_0, z0, z1, z2, y0, y1, y2]); (repeat (refine V.s1 ?_; (try simp only [zU14_0, z0, z1, z2, y0, y1, y2]))); exact ⟨rfl⟩)); (conv => whnf)) | ((try ((with_reducible refine .ext ?_); (conv => whnf); (try simp only [zU14_0, z0, z1, z2, y0, y1, y2]))); (with_reducible refine call_intro (r := ?_) ?_ ?_); rotate_left; (focus (first | exact (o0) | exact (o1) | exact (o2))); (conv => whnf))); (try simp only [zU14_0, z0, z1, z2, y0, y1, y2])) | (refine And.intro ?_ ?_ <;> (conv => whnf); (try simp only [zU14_0, z0, z1, z2, y0, y1, y2])))
        (conv => whnf)
        (try simp only [zU14_0, z0, z1, z2, y0, y1, y2, frC])
        repeat ((first | refine V.s1 ?_); (try simp only [zU14_0, z0, z1, z2, y0, y1, y2, frC]))
        exact ⟨2, by omega, by omega, V.wk⟩
      · subst e1
        simp only [k2, n20, n21, m21, stRe, stI4, zC, frC, List.cons_append, List.nil_append]
        (conv => whnf)
        (try simp only [zU14_0, z0, z1, z2, y0, y1, y2])
        repeat ((first | refine V.s1 ?_); (try simp only [zU14_0, z0, z1, z2, y0, y1, y2]))
        refine ⟨(.take 0 (.take 1 (.take 2 (.take 3 (.take 4 (.take 5 (.take 6 (.take 7 (.take 8 (.take 9 (.take 10 (.take 11 (.take 12 (.take 13 (.take 14 (.ev (.cons 15 [] (.take 16 (.take 17 (.take 18 (.ev (.cons 19 [18, 17, 16] (.ev (.cons 20 [18] (.take 21 (.done)) (.nil))) (.nil)))))) (.cons 19 [14, 13, 12, 11, 10, 9, 8, 7, 6, 5, 4, 3, 2, 1, 0] (.ev (.cons 15 [] (.take 16 (.take 17 (.take 18 (.ev (.cons 20 [18] (.take 21 (.done)) (.nil)))))) (.nil))) (.nil))))))))))))))))))), ⟨by kernel_rfl, by kernel_rfl, by kernel_rfl⟩, ?_⟩
        refine drw_meet [(15, .int .i64 0), (14, .box 14 0)] [(14, .box (frC q2))] ?_ ?_
        · (conv => whnf); (try simp only [zU14_0, z0, z1, z2, y0, y1, y2])
          repeat' (first | exact V.wk | ((first | refine V.s1 ?_ | ((with_reducible refine recheck_and ?_ ?_); (focus ((conv => whnf); (try simp only [zU14_0, z0, z1, z2, y0, y1, y2]); (repeat (refine V.s1 ?_; (try simp only [zU14_0, z0, z1, z2, y0, y1, y2]))); exact ⟨rfl⟩)); (conv => whnf)) | ((try ((with_reducible refine .ext ?_); (conv => whnf); (try simp only [zU14_0, z0, z1, z2, y0, y1, y2]))); (with_reducible refine call_intro (r := ?_) ?_ ?_); rotate_left; (focus (first | exact (o0) | exact (o1) | exact (o2))); (conv => whnf))); (try simp only [zU14_0, z0, z1, z2, y0, y1, y2])) | (refine And.intro ?_ ?_ <;> (conv => whnf); (try simp only [zU14_0, z0, z1, z2, y0, y1, y2])))
        (conv => whnf)
        (try simp only [zU14_0, z0, z1, z2, y0, y1, y2, frC])
        repeat ((first | refine V.s1 ?_); (try simp only [zU14_0, z0, z1, z2, y0, y1, y2, frC]))
        exact ⟨3, by omega, by omega, V.wk⟩
    · have hk3 : k = 3 := by
        simp at hq
        omega
      subst hk3
      simp only [stI4, frC, List.cons_append, List.nil_append]
      (conv => whnf)
      (try simp only [Nat.zero_add])
      repeat ((first | refine V.s1 ?_); (try simp only [Nat.zero_add]))
      exact Fin.of rfl
  · simp only [n3L, ordA, rs3, k0, k1, k2]
    unfold frq at eq0 eq1 eq2
    simp only [rs3] at eq0 eq1 eq2
    have o0 := ofE eq0 (by omega) (by omega)
    have o1 := ofE eq1 (by omega) (by omega)
    have o2 := ofE eq2 (by omega) (by omega)
    clear eq0 eq1 eq2
    unfold frC at o0 o1 o2
    refine called_of_run tbOk 6 ⟨Tryd.func16, rfl, rfl, Nat.le_of_ble_eq_true rfl⟩ ?_
    (conv => whnf)
    (conv => whnf)
    (try simp only [Nat.zero_add])
    repeat ((first | refine V.s1 ?_); (try simp only [Nat.zero_add]))
    refine lp_any (0) (fun k => k ≤ 3) (fun k => 3 - k) (fun k => [(12, .int .i64 (2 - (k : Int))), (11, .int .i64 (stRe a b e k))]) (fun k => [(16, .box (stI5 q0 q1 q2 k))]) ?_ ?_ ?_
    exact V.wk
    exact Nat.zero_le _
    intro k hk
    (conv => whnf)
    (try simp only [Nat.zero_add])
    repeat ((first | refine V.s1 ?_); (try simp only [Nat.zero_add]))
    refine Cnd.split (CondB.mk (fun hq => ?_) (fun hq => ?_))
    · have hk3 : k = 0 ∨ k = 1 ∨ k = 2 := by
        simp at hq
        omega
      rcases hk3 with e1 | e1 | e1
      · subst e1
        simp only [k0, n20, n21, m21, stRe, stI5, zC, frC, List.cons_append, List.nil_append]
        (conv => whnf)
        (try simp only [zU14_0, z0, z1, z2, y0, y1, y2])
        repeat ((first | refine V.s1 ?_); (try simp only [zU14_0, z0, z1, z2, y0, y1, y2]))
        refine ⟨(.take 0 (.take 1 (.take 2 (.take 3 (.take 4 (.take 5 (.take 6 (.take 7 (.take 8 (.take 9 (.take 10 (.take 11 (.take 12 (.take 13 (.take 14 (.ev (.cons 15 [] (.take 16 (.take 17 (.take 18 (.ev (.cons 19 [18, 17, 16] (.ev (.cons 20 [18] (.take 21 (.done)) (.nil))) (.nil)))))) (.cons 19 [14, 13, 12, 11, 10, 9, 8, 7, 6, 5, 4, 3, 2, 1, 0] (.ev (.cons 15 [] (.take 16 (.take 17 (.take 18 (.ev (.cons 20 [18] (.take 21 (.done)) (.nil)))))) (.nil))) (.nil))))))))))))))))))), ⟨by kernel_rfl, by kernel_rfl, by kernel_rfl⟩, ?_⟩
        refine drw_meet [(15, .int .i64 0), (14, .box 14 0)] [(14, .box (frC q0))] ?_ ?_
        · (conv => whnf); (try simp only [zU14_0, z0, z1, z2, y0, y1, y2])
          repeat' (first | exact V.wk | ((first | refine V.s1 ?_ | ((with_reducible refine recheck_and ?_ ?_); (focus ((conv => whnf); (try simp only [zU14_0, z0, z1, z2, y0, y1, y2]); (repeat (refine V.s1 ?_; (try simp only [zU14_0, z0, z1, z2, y0, y1, y2]))); exact ⟨rfl⟩)); (conv => whnf)) | ((try ((with_reducible refine .ext ?_); (conv => whnf); (try simp only [zU14_0, z0, z1, z2, y0, y1, y2]))); (with_reducible refine call_intro (r := ?_) ?_ ?_); rotate_left; (focus (first | exact (o0) | exact (o1) | exact (o2))); (conv => whnf))); (try simp only [zU14_0, z0, z1, z2, y0, y1, y2])) | (refine And.intro ?_ ?_ <;> (conv => whnf); (try simp only [zU14_0, z0, z1, z2, y0, y1, y2])))
        (conv => whnf)
        (try simp only [zU14_0, z0, z1, z2, y0, y1, y2, frC])
        repeat ((first | refine V.s1 ?_); (try simp only [zU14_0, z0, z1, z2, y0, y1, y2, frC]))
        exact ⟨1, by omega, by omega, V.wk⟩
      · subst e1
        simp only [k1, n20, n21, m21, stRe, stI5, zC, frC, List.cons_append, List.nil_append]
        (conv => whnf)
        (try simp only [zU14_0, z0, z1, z2, y0, y1, y2])
        repeat ((first | refine V.s1 ?_); (try simp only [zU14_0, z0, z1, z2, y0, y1, y2]))
        refine ⟨(.take 0 (.take 1 (.take 2 (.take 3 (.take 4 (.take 5 (.take 6 (.take 7 (.take 8 (.take 9 (.take 10 (.take 11 (.take 12 (.take 13 (.take 14 (.ev (.cons 15 [] (.take 16 (.take 17 (.take 18 (.ev (.cons 19 [18, 17, 16] (.ev (.cons 20 [18] (.take 21 (.done)) (.nil))) (.nil)))))) (.cons 19 [14, 13, 12, 11, 10, 9, 8, 7, 6, 5, 4, 3, 2, 1, 0] (.ev (.cons 15 [] (.take 16 (.take 17 (.take 18 (.ev (.cons 20 [18] (.take 21 (.done)) (.nil)))))) (.nil))) (.nil))))))))))))))))))), ⟨by kernel_rfl, by kernel_rfl, by kernel_rfl⟩, ?_⟩
        refine drw_meet [(15, .int .i64 0), (14, .box 14 0)] [(14, .box (frC q1))] ?_ ?_
        · (conv => whnf); (try simp only [zU14_0, z0, z1, z2, y0, y1, y2])
          repeat' (first | exact V.wk | ((first | refine V.s1 ?_ | ((with_reducible refine recheck_and ?_ ?_); (focus ((conv => whnf); (try simp only [zU14_0, z0, z1, z2, y0, y1, y2]); (repeat (refine V.s1 ?_; (try simp only [zU14_0, z0, z1, z2, y0, y1, y2]))); exact ⟨rfl⟩)); (conv => whnf)) | ((try ((with_reducible refine .ext ?_); (conv => whnf); (try simp only [zU14_0, z0, z1, z2, y0, y1, y2]))); (with_reducible refine call_intro (r := ?_) ?_ ?_); rotate_left; (focus (first | exact (o0) | exact (o1) | exact (o2))); (conv => whnf))); (try simp only [zU14_0, z0, z1, z2, y0, y1, y2])) | (refine And.intro ?_ ?_ <;> (conv => whnf); (try simp only [zU14_0, z0, z1, z2, y0, y1, y2])))
        (conv => whnf)
        (try simp only [zU14_0, z0, z1, z2, y0, y1, y2, frC])
        repeat ((first | refine V.s1 ?_); (try simp only [zU14_0, z0, z1, z2, y0, y1, y2, frC]))
        exact ⟨2, by omega, by omega, V.wk⟩
      · subst e1
        simp only [k2, n20, n21, m21, stRe, stI5, zC, frC, List.cons_append, List.nil_append]
        (conv => whnf)
        (try simp only [zU14_0, z0, z1, z2, y0, y1, y2])
        repeat ((first | refine V.s1 ?_); (try simp only [zU14_0, z0, z1, z2, y0, y1, y2]))
        refine ⟨(.take 0 (.take 1 (.take 2 (.take 3 (.take 4 (.take 5 (.take 6 (.take 7 (.take 8 (.take 9 (.take 10 (.take 11 (.take 12 (.take 13 (.take 14 (.ev (.cons 15 [] (.take 16 (.take 17 (.take 18 (.ev (.cons 19 [18, 17, 16] (.ev (.cons 20 [18] (.take 21 (.done)) (.nil))) (.nil)))))) (.cons 19 [14, 13, 12, 11, 10, 9, 8, 7, 6, 5, 4, 3, 2, 1, 0] (.ev (.cons 15 [] (.take 16 (.take 17 (.take 18 (.ev (.cons 20 [18] (.take 21 (.done)) (.nil)))))) (.nil))) (.nil))))))))))))))))))), ⟨by kernel_rfl, by kernel_rfl, by kernel_rfl⟩, ?_⟩
        refine drw_meet [(15, .int .i64 0), (14, .box 14 0)] [(14, .box (frC q2))] ?_ ?_
        · (conv => whnf); (try simp only [zU14_0, z0, z1, z2, y0, y1, y2])
          repeat' (first | exact V.wk | ((first | refine V.s1 ?_ | ((with_reducible refine recheck_and ?_ ?_); (focus ((conv => whnf); (try simp only [zU14_0, z0, z1, z2, y0, y1, y2]); (repeat (refine V.s1 ?_; (try simp only [zU14_0, z0, z1, z2, y0, y1, y2]))); exact ⟨rfl⟩)); (conv => whnf)) | ((try ((with_reducible refine .ext ?_); (conv => whnf); (try simp only [zU14_0, z0, z1, z2, y0, y1, y2]))); (with_reducible refine call_intro (r := ?_) ?_ ?_); rotate_left; (focus (first | exact (o0) | exact (o1) | exact (o2))); (conv => whnf))); (try simp only [zU14_0, z0, z1, z2, y0, y1, y2])) | (refine And.intro ?_ ?_ <;> (conv => whnf); (try simp only [zU14_0, z0, z1, z2, y0, y1, y2])))
        (conv => whnf)
        (try simp only [zU14_0, z0, z1, z2, y0, y1, y2, frC])
        repeat ((first | refine V.s1 ?_); (try simp only [zU14_0, z0, z1, z2, y0, y1, y2, frC]))
        exact ⟨3, by omega, by omega, V.wk⟩
    · have hk3 : k = 3 := by
        simp at hq
        omega
      subst hk3
      simp only [stI5, frC, List.cons_append, List.nil_append]
      (conv => whnf)
      (try simp only [Nat.zero_add])
      repeat ((first | refine V.s1 ?_); (try simp only [Nat.zero_add]))
      exact Fin.of rfl
end Go.Proofs.YtlcaefokcnohnaaDoor
end
section
namespace Go.Proofs.YtlcaefokcnohnaaDoor
open Go Go.V Go.Nb
theorem chk_ok {size : List Int} {out : Int} {data ts : List Int} (h : chk size out data ts = 0) : ∃ (s0 s1 s2 : Nat) (t : V3), size = sz3 s0 s1 s2 ∧ out = 3 ∧ ts = v3L t ∧ Cu s0 s1 s2 data ∧ Vl t := by
  unfold chk at h
  split at h
  · rename_i hg
    split at h
    · rename_i h3
      split at h
      · rename_i hT
        obtain ⟨e1, rfl, e3⟩ := h3
        match size, e1, ts, e3 with
        | [a, b, c], _, [x, y, z], _ =>
          have hT' := (okT3 x y z).1 hT
          unfold okGrid at hg
          simp only [Bool.and_eq_true, decide_eq_true_eq, List.all_eq_true, List.mem_cons, List.not_mem_nil, or_false, forall_eq_or_imp, forall_eq] at hg
          obtain ⟨⟨⟨_, ⟨ha, hb, hc⟩⟩, hl⟩, hd⟩ := hg
          refine ⟨a.toNat, b.toNat, c.toNat, (x, y, z), ?_, rfl, rfl, ⟨by omega, by omega, by omega, ?_, hd⟩, hT'⟩
          · unfold sz3
            rw [Int.toNat_of_nonneg (by omega), Int.toNat_of_nonneg (by omega), Int.toNat_of_nonneg (by omega)]
          · have h1 : prod [a, b, c] = ((a.toNat * b.toNat * c.toNat : Nat) : Int) := by
              simp only [prod, List.foldl_cons, List.foldl_nil, Int.one_mul, Int.natCast_mul]
              rw [Int.toNat_of_nonneg (by omega), Int.toNat_of_nonneg (by omega), Int.toNat_of_nonneg (by omega)]
            rw [h1] at hl
            omega
      · cases h
    · cases h
  · cases h
def locR (size : List Int) (out : Int) (data ts : List Int) : D :=
  if chk size out data ts = 0 then
    match fndN data (size.getD 0 0).toNat (size.getD 1 0).toNat (size.getD 2 0).toNat (ts.getD 0 0, ts.getD 1 0, ts.getD 2 0) with
    | none => .tup [.nil, .int .i64 0, .int .i64 4]
    | some n => match hldN data (size.getD 1 0).toNat (size.getD 2 0).toNat n (ts.getD 0 0, ts.getD 1 0, ts.getD 2 0) with
      | none => .tup [.nil, .int .i64 0, .int .i64 4]
      | some r => .tup [.slf 2 3 (resF (cellN (size.getD 1 0).toNat (size.getD 2 0).toNat n) (n % 6) r.1 r.2.1 r.2.2.1 r.2.2.2 (size.getD 0 0).toNat (size.getD 1 0).toNat (size.getD 2 0).toNat), .int .i64 n, .int .i64 0]
  else .tup [.nil, .int .i64 0, .int .i64 (chk size out data ts)]
def hdsR (size : List Int) (out : Int) (data ts : List Int) : D :=
  if chk size out data ts = 0 then .tup [.int .i64 (cntN data (size.getD 1 0).toNat (size.getD 2 0).toNat (6 * cellsN (size.getD 0 0).toNat (size.getD 1 0).toNat (size.getD 2 0).toNat) (ts.getD 0 0, ts.getD 1 0, ts.getD 2 0)), .int .i64 0]
  else .tup [.int .i64 0, .int .i64 (chk size out data ts)]
theorem chk_r (size : List Int) (out : Int) (data ts : List Int) : chk size out data ts = 0 ∨ chk size out data ts = 2 ∨ chk size out data ts = 100 := by
  unfold chk
  split
  · split
    · split
      · exact .inl rfl
      · exact .inr (.inl rfl)
    · exact .inr (.inl rfl)
  · exact .inr (.inr rfl)
theorem locR_no {size : List Int} {out : Int} {data ts : List Int} (h : ¬ chk size out data ts = 0) : locR size out data ts = .tup [.nil, .int .i64 0, .int .i64 (chk size out data ts)] := by
  unfold locR
  rw [if_neg h]
theorem hdsR_no {size : List Int} {out : Int} {data ts : List Int} (h : ¬ chk size out data ts = 0) : hdsR size out data ts = .tup [.int .i64 0, .int .i64 (chk size out data ts)] := by
  unfold hdsR
  rw [if_neg h]
theorem locR_none {s0 s1 s2 : Nat} {data : List Int} {t : V3} (h : chk (sz3 s0 s1 s2) 3 data (v3L t) = 0) (hf : fndN data s0 s1 s2 t = none) : locR (sz3 s0 s1 s2) 3 data (v3L t) = .tup [.nil, .int .i64 0, .int .i64 4] := by
  unfold locR
  rw [if_pos h]
  have e : fndN data ((sz3 s0 s1 s2).getD 0 0).toNat ((sz3 s0 s1 s2).getD 1 0).toNat ((sz3 s0 s1 s2).getD 2 0).toNat ((v3L t).getD 0 0, (v3L t).getD 1 0, (v3L t).getD 2 0) = fndN data s0 s1 s2 t := rfl
  rw [e, hf]
theorem locR_some {s0 s1 s2 n : Nat} {data : List Int} {t : V3} {a b e d : Int} (h : chk (sz3 s0 s1 s2) 3 data (v3L t) = 0) (hf : fndN data s0 s1 s2 t = some n) (hr : hldN data s1 s2 n t = some (a, b, e, d)) :
    locR (sz3 s0 s1 s2) 3 data (v3L t) = .tup [.slf 2 3 (resF (cellN s1 s2 n) (n % 6) a b e d s0 s1 s2), .int .i64 n, .int .i64 0] := by
  unfold locR
  rw [if_pos h]
  have e1 : fndN data ((sz3 s0 s1 s2).getD 0 0).toNat ((sz3 s0 s1 s2).getD 1 0).toNat ((sz3 s0 s1 s2).getD 2 0).toNat ((v3L t).getD 0 0, (v3L t).getD 1 0, (v3L t).getD 2 0) = fndN data s0 s1 s2 t := rfl
  rw [e1, hf]
  have e2 : hldN data ((sz3 s0 s1 s2).getD 1 0).toNat ((sz3 s0 s1 s2).getD 2 0).toNat n ((v3L t).getD 0 0, (v3L t).getD 1 0, (v3L t).getD 2 0) = hldN data s1 s2 n t := rfl
  dsimp only
  rw [e2, hr]
  rfl
theorem hdsR_ok {s0 s1 s2 : Nat} {data : List Int} {t : V3} (h : chk (sz3 s0 s1 s2) 3 data (v3L t) = 0) : hdsR (sz3 s0 s1 s2) 3 data (v3L t) = .tup [.int .i64 (cntN data s1 s2 (6 * cellsN s0 s1 s2) t), .int .i64 0] := by
  unfold hdsR
  rw [if_pos h]
  rfl
theorem cells_le {s0 s1 s2 : Nat} {data : List Int} (C : Cu s0 s1 s2 data) : 6 * cellsN s0 s1 s2 ≤ 3072 := by
  have h0 := C.h0
  have h1 := C.h1
  have h2 := C.h2
  have : cellsN s0 s1 s2 ≤ 8 * 8 * 8 := by
    unfold cellsN
    exact Nat.mul_le_mul (Nat.mul_le_mul (show s0 - 1 ≤ 8 by omega) (show s1 - 1 ≤ 8 by omega)) (show s2 - 1 ≤ 8 by omega)
  omega
end Go.Proofs.YtlcaefokcnohnaaDoor
end
section
namespace Go.Proofs.YtlcaefokcnohnaaDoor
open Go Go.V Go.Nb
def apS0 : Nat → D
  | 0 => .nil
  | k + 1 => .bsl 116 0 (k + 1) 2
def apH0 (q0 q1 q2 : Rat) : Nat → Hp
  | 0 => []
  | 1 => [(116, .box (frC q0))]
  | 2 => [(116, .box (frC q0 ++ frC q1))]
  | _ => [(116, .box (frC q0 ++ frC q1 ++ frC q2))]
end Go.Proofs.YtlcaefokcnohnaaDoor
end
section
namespace Go.Proofs.YtlcaefokcnohnaaDoor
open Go Go.V Go.Nb
def apS1 : Nat → D
  | 0 => .nil
  | k + 1 => .bsl 116 0 (k + 1) 2
def apH1 (q0 q1 q2 : Rat) : Nat → Hp
  | 0 => []
  | 1 => [(116, .box (frC q0))]
  | 2 => [(116, .box (frC q0 ++ frC q1))]
  | _ => [(116, .box (frC q0 ++ frC q1 ++ frC q2))]
end Go.Proofs.YtlcaefokcnohnaaDoor
end
section
namespace Go.Proofs.YtlcaefokcnohnaaDoor
open Go Go.V Go.Nb
def apS2 : Nat → D
  | 0 => .nil
  | k + 1 => .bsl 116 0 (k + 1) 2
def apH2 (q0 q1 q2 : Rat) : Nat → Hp
  | 0 => []
  | 1 => [(116, .box (frC q0))]
  | 2 => [(116, .box (frC q0 ++ frC q1))]
  | _ => [(116, .box (frC q0 ++ frC q1 ++ frC q2))]
end Go.Proofs.YtlcaefokcnohnaaDoor
end
section
namespace Go.Proofs.YtlcaefokcnohnaaDoor
open Go Go.V Go.Nb
def apS3 : Nat → D
  | 0 => .nil
  | k + 1 => .bsl 116 0 (k + 1) 2
def apH3 (q0 q1 q2 : Rat) : Nat → Hp
  | 0 => []
  | 1 => [(116, .box (frC q0))]
  | 2 => [(116, .box (frC q0 ++ frC q1))]
  | _ => [(116, .box (frC q0 ++ frC q1 ++ frC q2))]
end Go.Proofs.YtlcaefokcnohnaaDoor
end
section
namespace Go.Proofs.YtlcaefokcnohnaaDoor
open Go Go.V Go.Nb
def apS4 : Nat → D
  | 0 => .nil
  | k + 1 => .bsl 116 0 (k + 1) 2
def apH4 (q0 q1 q2 : Rat) : Nat → Hp
  | 0 => []
  | 1 => [(116, .box (frC q0))]
  | 2 => [(116, .box (frC q0 ++ frC q1))]
  | _ => [(116, .box (frC q0 ++ frC q1 ++ frC q2))]
end Go.Proofs.YtlcaefokcnohnaaDoor
end
section
namespace Go.Proofs.YtlcaefokcnohnaaDoor
open Go Go.V Go.Nb
def apS5 : Nat → D
  | 0 => .nil
  | k + 1 => .bsl 116 0 (k + 1) 2
def apH5 (q0 q1 q2 : Rat) : Nat → Hp
  | 0 => []
  | 1 => [(116, .box (frC q0))]
  | 2 => [(116, .box (frC q0 ++ frC q1))]
  | _ => [(116, .box (frC q0 ++ frC q1 ++ frC q2))]
end Go.Proofs.YtlcaefokcnohnaaDoor
end
section
namespace Go.Proofs.YtlcaefokcnohnaaDoor
open Go Go.V Go.Nb
end Go.Proofs.YtlcaefokcnohnaaDoor
end
section
namespace Go.Proofs.YtlcaefokcnohnaaDoor
open Go Go.V Go.Nb
def gcD (size : List Int) (out : Int) (data : List Int) : List D := [.ints .i64 size, .int .i64 out, .ints .i64 data]
theorem tetra_c (size : List Int) (out : Int) (data : List Int) : Called Tryd.prog 14 [gridD size out data] (.fn 19 [] [.ref (gcD size out data)]) := by
  unfold gridD gcD
  refine called_of_run tbOk 6 ⟨Tryd.func14, rfl, rfl, Nat.le_of_ble_eq_true rfl⟩ ?_
  (conv => whnf)
  refine V.st ?_
  exact Fin.of rfl
def numT (B C i j k o : Nat) : Nat := ((i * B + j) * C + k) * 6 + o
structure TetOk (s0 s1 s2 : Nat) (data : List Int) (t : V3) (i j k o : Nat) (m : Nat) (p q r d : Int) (T : D) : Prop where
  made : Called Tryd.prog 20 [gridD (sz3 s0 s1 s2) 3 data, n3D (i, j, k), n3I (ordA o)] T
  wts : Called Tryd.prog 15 [T, .ints .i64 (v3L t)] (.tup [.iarr .i64 [p, q, r], .int .i64 d, .bool (hldN data s1 s2 m t).isSome])
  is : ∀ y, hldN data s1 s2 m t = some y → y = (p, q, r, d)
  inp : ∀ y, hldN data s1 s2 m t = some y → Called Tryd.prog 16 [T, .ints .i64 (sz3 s0 s1 s2), .iarr .i64 [p, q, r], .int .i64 d] (.tup [.slf 2 3 (resF (cellN s1 s2 m) (m % 6) p q r d s0 s1 s2), .int .i64 0])
theorem tet_ok {s0 s1 s2 : Nat} {data : List Int} (C : Cu s0 s1 s2 data) {t : V3} (ht : Vl t) {i j k o : Nat} (hi : i < s0 - 1) (hj : j < s1 - 1) (hk : k < s2 - 1) (ho : o < 6) :
    ∃ p q r d c, TetOk s0 s1 s2 data t i j k o (numT (s1 - 1) (s2 - 1) i j k o) p q r d (tetD (i, j, k) (ordA o) c) := by
  have h0 := C.h0
  have h1 := C.h1
  have h2 := C.h2
  have hx : ((i, j, k) : N3).1 + 1 < s0 ∧ ((i, j, k) : N3).2.1 + 1 < s1 ∧ ((i, j, k) : N3).2.2 + 1 < s2 := by dsimp only; omega
  obtain ⟨c, hc⟩ : ∃ c : Nat → V3, ∀ m, c m = cnr data s1 s2 (stX (i, j, k) (ordA o) m) := ⟨_, fun _ => rfl⟩
  have hv : ∀ m, Vl (c m) := fun m => by rw [hc m]; exact gv_vl C.hd _
  obtain ⟨p, q, r, d, hw, hd⟩ := weights_0 (i, j, k) (ordA o) c hv ht
  have hcl := cellN_of (i := i) hj hk ho
  have hn : hldN data s1 s2 (numT (s1 - 1) (s2 - 1) i j k o) t = hld (c 0) (c 1) (c 2) (c 3) t := by
    unfold hldN numT
    rw [hcl.1, hcl.2, hc, hc, hc, hc]
    rfl
  refine ⟨p, q, r, d, c, made_0 C ho hx c hc, by rw [hn]; exact hw, by rw [hn]; exact hd, fun y hy => ?_⟩
  rw [hn] at hy
  have e := hd y hy
  subst e
  have hb := hld_bd (hv 0) (hv 1) (hv 2) (hv 3) ht hy
  have := inputs_0 (s0 := s0) (s1 := s1) (s2 := s2) (i, j, k) ho c hx ⟨h0.2, h1.2, h2.2⟩ (a := p) (b := q) (e := r) (d := d) (by omega) (by omega) (by omega) (by omega) (by omega)
  unfold numT
  rw [hcl.1, hcl.2]
  exact this
end Go.Proofs.YtlcaefokcnohnaaDoor
end
section
namespace Go.Proofs.YtlcaefokcnohnaaDoor
open Go Go.V Go.Nb
theorem numT_j (B C i j : Nat) : (i * B + (j + 1)) * C * 6 = ((i * B + j) * C + C) * 6 := by
  rw [← Nat.add_assoc, Nat.add_mul (i * B + j), Nat.one_mul]
theorem numT_i (B C i : Nat) : (i + 1) * B * C * 6 = (i * B + B) * C * 6 := by
  rw [Nat.add_mul i, Nat.one_mul]
theorem zU20_0 : type_of% @Nat.zero_add ∧ type_of% @cs1 := ⟨@Nat.zero_add, @cs1⟩
theorem holds_c (size : List Int) (out : Int) (data ts : List Int) (hs : size.length ≤ 281474976710656) (hd : data.length ≤ 281474976710656) (ht : ts.length ≤ 281474976710656) :
    Called Tryd.prog 8 [gridD size out data, .ints .i64 ts] (hdsR size out data ts) := by
  have hch := lcheck_c size out data ts hs hd ht
  have htt := tetra_c size out data
  unfold gcD at htt
  rcases Decidable.em (chk size out data ts = 0) with h0 | h0
  rotate_left
  · rw [hdsR_no h0]
    have hr := chk_r size out data ts
    generalize chk size out data ts = z at *
    unfold gridD at hch ⊢
    refine called_of_run tbOk 6 ⟨Tryd.func8, rfl, rfl, Nat.le_of_ble_eq_true rfl⟩ ?_
    (conv => whnf)
    (conv => whnf)
    (try simp only [Nat.zero_add])
    repeat ((first | refine V.s1 ?_ | ((try ((with_reducible refine .ext ?_); (conv => whnf); (try simp only [Nat.zero_add]))); (with_reducible refine call_intro (r := ?_) ?_ ?_); rotate_left; (focus (first | exact (hch))); (conv => whnf))); (try simp only [Nat.zero_add]))
    refine Cnd.split (CondB.mk (fun hq => ?_) (fun hq => ?_))
    · (conv => whnf)
      (try simp only [Nat.zero_add])
      repeat ((first | refine V.s1 ?_); (try simp only [Nat.zero_add]))
      exact Fin.of rfl
    · exfalso
      simp at hq
      omega
  rw [h0] at hch
  obtain ⟨s0, s1, s2, t, rfl, rfl, rfl, C, hv⟩ := chk_ok h0
  rw [hdsR_ok h0]
  have hle := cells_le C
  have hF : ∀ i j k o, i < s0 - 1 → j < s1 - 1 → k < s2 - 1 → o < 6 → ∃ p q r d c, TetOk s0 s1 s2 data t i j k o (numT (s1 - 1) (s2 - 1) i j k o) p q r d (tetD (i, j, k) (ordA o) c) := fun i j k o => tet_ok C hv
  have hlt : ∀ i j k o, i < s0 - 1 → j < s1 - 1 → k < s2 - 1 → o < 6 → _ := fun i j k o hi hj hk ho => num_lt (A := s0 - 1) (B := s1 - 1) (C := s2 - 1) hi hj hk ho
  have hcnt := cnt_succ data s1 s2
  have hcl : ∀ m, cntN data s1 s2 m t ≤ m := fun m => cnt_le data s1 s2 m t
  have h0 := C.h0
  have h1 := C.h1
  have h2 := C.h2
  have z0 := sz3_0 s0 s1 s2
  have z1 := sz3_1 s0 s1 s2
  have z2 := sz3_2 s0 s1 s2
  have zl := sz3_len s0 s1 s2
  have y0 : (sz3 s0 s1 s2).getD 0 0 = s0 := rfl
  have y1 : (sz3 s0 s1 s2).getD 1 0 = s1 := rfl
  have y2 : (sz3 s0 s1 s2).getD 2 0 = s2 := rfl
  obtain ⟨sz, hsz⟩ : ∃ sz, sz3 s0 s1 s2 = sz := ⟨_, rfl⟩
  unfold v3L at hch ⊢
  unfold gridD at hch htt ⊢
  rw [hsz] at hch htt z0 z1 z2 zl y0 y1 y2 ⊢
  unfold cellsN at hle ⊢
  obtain ⟨A, hA⟩ : ∃ A, s0 - 1 = A := ⟨_, rfl⟩
  obtain ⟨B, hB⟩ : ∃ B, s1 - 1 = B := ⟨_, rfl⟩
  obtain ⟨Cc, hC⟩ : ∃ C, s2 - 1 = C := ⟨_, rfl⟩
  rw [hA, hB, hC] at hF hle hlt ⊢
  have w0 : (s0 : Int) - 1 = (A : Int) := by omega
  have w1 : (s1 : Int) - 1 = (B : Int) := by omega
  have w2 : (s2 : Int) - 1 = (Cc : Int) := by omega
  clear C
  refine called_of_run tbOk 6 ⟨Tryd.func8, rfl, rfl, Nat.le_of_ble_eq_true rfl⟩ ?_
  (conv => whnf)
  (conv => whnf)
  (try simp only [Nat.zero_add])
  repeat ((first | refine V.s1 ?_ | ((try ((with_reducible refine .ext ?_); (conv => whnf); (try simp only [Nat.zero_add]))); (with_reducible refine call_intro (r := ?_) ?_ ?_); rotate_left; (focus (first | exact (hch) | exact (htt))); (conv => whnf))); (try simp only [Nat.zero_add]))
  refine ⟨_, _, ⟨Tryd.func19, rfl, rfl, Nat.le_of_ble_eq_true rfl⟩, ?_⟩
  (conv => whnf)
  (conv => whnf)
  (try simp only [Nat.zero_add, z0, y0, w0])
  repeat ((first | refine V.s1 ?_); (try simp only [Nat.zero_add, z0, y0, w0]))
  refine lp_any (0) (fun k => k ≤ A) (fun k => A - k) (fun k => [(14, .int .i64 k), (3, .int .i64 ((k * B * Cc * 6 : Nat) : Int))]) (fun k => [(34, .lp none), (7, .box [.int .i64 (cntN data s1 s2 (k * B * Cc * 6) t)])]) ?_ ?_ ?_
  · simp only [Nat.zero_mul]
    exact V.wk
  · omega
  intro i hi
  (conv => whnf)
  (try simp only [Nat.zero_add, z0, y0, w0])
  repeat ((first | refine V.s1 ?_); (try simp only [Nat.zero_add, z0, y0, w0]))
  refine Cnd.split (CondB.mk (fun hq => ?_) (fun hq => ?_))
  · rw [decide_eq_true_eq] at hq
    have hi2 : i < A := by omega
    (conv => whnf)
    (try simp only [Nat.zero_add, z1, y1, w1])
    repeat ((first | refine V.s1 ?_); (try simp only [Nat.zero_add, z1, y1, w1]))
    refine lp_any (0) (fun k => k ≤ B) (fun k => B - k) (fun k => [(22, .int .i64 k), (3, .int .i64 (((i * B + k) * Cc * 6 : Nat) : Int))]) (fun k => [(34, .lp none), (7, .box [.int .i64 (cntN data s1 s2 ((i * B + k) * Cc * 6) t)])]) ?_ ?_ ?_
    · simp only [Nat.add_zero]
      exact V.wk
    · omega
    intro j hj
    (conv => whnf)
    (try simp only [Nat.zero_add, z1, y1, w1])
    repeat ((first | refine V.s1 ?_); (try simp only [Nat.zero_add, z1, y1, w1]))
    refine Cnd.split (CondB.mk (fun hq2 => ?_) (fun hq2 => ?_))
    · rw [decide_eq_true_eq] at hq2
      have hj2 : j < B := by omega
      (conv => whnf)
      (try simp only [Nat.zero_add, z2, y2, w2])
      repeat ((first | refine V.s1 ?_); (try simp only [Nat.zero_add, z2, y2, w2]))
      refine lp_any (0) (fun k => k ≤ Cc) (fun k => Cc - k) (fun k => [(30, .int .i64 k), (3, .int .i64 ((((i * B + j) * Cc + k) * 6 : Nat) : Int))]) (fun k => [(34, .lp none), (7, .box [.int .i64 (cntN data s1 s2 (((i * B + j) * Cc + k) * 6) t)])]) ?_ ?_ ?_
      · simp only [Nat.add_zero]
        exact V.wk
      · omega
      intro k hk
      (conv => whnf)
      (try simp only [Nat.zero_add, z2, y2, w2])
      repeat ((first | refine V.s1 ?_); (try simp only [Nat.zero_add, z2, y2, w2]))
      refine Cnd.split (CondB.mk (fun hq3 => ?_) (fun hq3 => ?_))
      · rw [decide_eq_true_eq] at hq3
        have hk2 : k < Cc := by omega
        have hn6 := hlt i j k 5 hi2 hj2 hk2 (by decide)
        (conv => whnf)
        (try simp only [Nat.zero_add])
        repeat ((first | refine V.s1 ?_); (try simp only [Nat.zero_add]))
        refine lp_any (0 : Nat) (fun o => o ≤ 6) (fun o => 6 - o) (fun o => [(34, .int .i64 (o : Int)), (3, .int .i64 ((((i * B + j) * Cc + k) * 6 + o : Nat) : Int))]) (fun o => [(34, .lp none), (7, .box [.int .i64 (cntN data s1 s2 (((i * B + j) * Cc + k) * 6 + o) t)])]) ?_ ?_ ?_
        · simp only [Nat.add_zero]
          exact V.wk
        · omega
        intro o ho
        have ho6 : o = 0 ∨ o = 1 ∨ o = 2 ∨ o = 3 ∨ o = 4 ∨ o = 5 ∨ o = 6 := by omega
        rcases ho6 with eo | eo | eo | eo | eo | eo | eo
        · subst eo
          obtain ⟨p, q, r, d, c, F⟩ := hF i j k 0 hi2 hj2 hk2 (by decide)
          have fm := F.made
          have fw := F.wts
          clear F
          unfold tetD at fm fw
          simp only [tetL, n3L, v3L, ordA, List.cons_append, List.nil_append, List.map_cons, List.map_nil, n3D, n3I, k0, k1, k2] at fm fw
          unfold gridD at fm
          rw [hsz] at fm
          rw [show numT B Cc i j k 0 = ((i * B + j) * Cc + k) * 6 + 0 from rfl] at fw
          have e1 := hcnt (((i * B + j) * Cc + k) * 6 + 0) t
          have e3 := hcl (((i * B + j) * Cc + k) * 6 + 0)
          (conv => whnf)
          (try simp only [Nat.zero_add, k0])
          repeat ((first | refine V.s1 ?_ | ((try ((with_reducible refine .ext ?_); (conv => whnf); (try simp only [Nat.zero_add, k0]))); (with_reducible refine call_intro (r := ?_) ?_ ?_); rotate_left; (focus (first | exact (fm) | exact (fw))); (conv => whnf))); (try simp only [Nat.zero_add, k0]))
          refine cnd_meet [] [(7, .box [.int .i64 (cntN data s1 s2 (((i * B + j) * Cc + k) * 6 + 0 + 1) t)])] (CondB.mk (fun hm => ?_) (fun hm => ?_)) ?_
          · rw [hm, if_pos rfl] at e1
            have e2 : ((cntN data s1 s2 (((i * B + j) * Cc + k) * 6 + 0) t : Nat) : Int) + 1 = (cntN data s1 s2 (((i * B + j) * Cc + k) * 6 + 0 + 1) t : Nat) := by omega
            (conv => whnf)
            (try simp only [Nat.zero_add, e2])
            repeat ((first | refine V.s1 ?_); (try simp only [Nat.zero_add, e2]))
            exact V.wk
          · rw [hm, if_neg (by decide), Nat.add_zero] at e1
            rw [e1]
            (conv => whnf)
            refine V.st ?_
            exact V.wk
          (conv => whnf)
          (try simp only [zU20_0])
          repeat ((first | refine V.s1 ?_); (try simp only [zU20_0]))
          exact ⟨0 + 1, by omega, by omega, V.wk⟩
        · subst eo
          obtain ⟨p, q, r, d, c, F⟩ := hF i j k 1 hi2 hj2 hk2 (by decide)
          have fm := F.made
          have fw := F.wts
          clear F
          unfold tetD at fm fw
          simp only [tetL, n3L, v3L, ordA, List.cons_append, List.nil_append, List.map_cons, List.map_nil, n3D, n3I, k0, k1, k2] at fm fw
          unfold gridD at fm
          rw [hsz] at fm
          rw [show numT B Cc i j k 1 = ((i * B + j) * Cc + k) * 6 + 1 from rfl] at fw
          have e1 := hcnt (((i * B + j) * Cc + k) * 6 + 1) t
          have e3 := hcl (((i * B + j) * Cc + k) * 6 + 1)
          (conv => whnf)
          (try simp only [Nat.zero_add, k1])
          repeat ((first | refine V.s1 ?_ | ((try ((with_reducible refine .ext ?_); (conv => whnf); (try simp only [Nat.zero_add, k1]))); (with_reducible refine call_intro (r := ?_) ?_ ?_); rotate_left; (focus (first | exact (fm) | exact (fw))); (conv => whnf))); (try simp only [Nat.zero_add, k1]))
          refine cnd_meet [] [(7, .box [.int .i64 (cntN data s1 s2 (((i * B + j) * Cc + k) * 6 + 1 + 1) t)])] (CondB.mk (fun hm => ?_) (fun hm => ?_)) ?_
          · rw [hm, if_pos rfl] at e1
            have e2 : ((cntN data s1 s2 (((i * B + j) * Cc + k) * 6 + 1) t : Nat) : Int) + 1 = (cntN data s1 s2 (((i * B + j) * Cc + k) * 6 + 1 + 1) t : Nat) := by omega
            (conv => whnf)
            (try simp only [Nat.zero_add, e2])
            repeat ((first | refine V.s1 ?_); (try simp only [Nat.zero_add, e2]))
            exact V.wk
          · rw [hm, if_neg (by decide), Nat.add_zero] at e1
            rw [e1]
            (conv => whnf)
            refine V.st ?_
            exact V.wk
          (conv => whnf)
          (try simp only [zU20_0])
          repeat ((first | refine V.s1 ?_); (try simp only [zU20_0]))
          exact ⟨1 + 1, by omega, by omega, V.wk⟩
        · subst eo
          obtain ⟨p, q, r, d, c, F⟩ := hF i j k 2 hi2 hj2 hk2 (by decide)
          have fm := F.made
          have fw := F.wts
          clear F
          unfold tetD at fm fw
          simp only [tetL, n3L, v3L, ordA, List.cons_append, List.nil_append, List.map_cons, List.map_nil, n3D, n3I, k0, k1, k2] at fm fw
          unfold gridD at fm
          rw [hsz] at fm
          rw [show numT B Cc i j k 2 = ((i * B + j) * Cc + k) * 6 + 2 from rfl] at fw
          have e1 := hcnt (((i * B + j) * Cc + k) * 6 + 2) t
          have e3 := hcl (((i * B + j) * Cc + k) * 6 + 2)
          (conv => whnf)
          (try simp only [Nat.zero_add, k2])
          repeat ((first | refine V.s1 ?_ | ((try ((with_reducible refine .ext ?_); (conv => whnf); (try simp only [Nat.zero_add, k2]))); (with_reducible refine call_intro (r := ?_) ?_ ?_); rotate_left; (focus (first | exact (fm) | exact (fw))); (conv => whnf))); (try simp only [Nat.zero_add, k2]))
          refine cnd_meet [] [(7, .box [.int .i64 (cntN data s1 s2 (((i * B + j) * Cc + k) * 6 + 2 + 1) t)])] (CondB.mk (fun hm => ?_) (fun hm => ?_)) ?_
          · rw [hm, if_pos rfl] at e1
            have e2 : ((cntN data s1 s2 (((i * B + j) * Cc + k) * 6 + 2) t : Nat) : Int) + 1 = (cntN data s1 s2 (((i * B + j) * Cc + k) * 6 + 2 + 1) t : Nat) := by omega
            (conv => whnf)
            (try simp only [Nat.zero_add, e2])
            repeat ((first | refine V.s1 ?_); (try simp only [Nat.zero_add, e2]))
            exact V.wk
          · rw [hm, if_neg (by decide), Nat.add_zero] at e1
            rw [e1]
            (conv => whnf)
            refine V.st ?_
            exact V.wk
          (conv => whnf)
          (try simp only [zU20_0])
          repeat ((first | refine V.s1 ?_); (try simp only [zU20_0]))
          exact ⟨2 + 1, by omega, by omega, V.wk⟩
        · subst eo
          obtain ⟨p, q, r, d, c, F⟩ := hF i j k 3 hi2 hj2 hk2 (by decide)
          have fm := F.made
          have fw := F.wts
          clear F
          unfold tetD at fm fw
          simp only [tetL, n3L, v3L, ordA, List.cons_append, List.nil_append, List.map_cons, List.map_nil, n3D, n3I, k0, k1, k2] at fm fw
          unfold gridD at fm
          rw [hsz] at fm
          rw [show numT B Cc i j k 3 = ((i * B + j) * Cc + k) * 6 + 3 from rfl] at fw
          have e1 := hcnt (((i * B + j) * Cc + k) * 6 + 3) t
          have e3 := hcl (((i * B + j) * Cc + k) * 6 + 3)
          (conv => whnf)
          (try simp only [Nat.zero_add, k3])
          repeat ((first | refine V.s1 ?_ | ((try ((with_reducible refine .ext ?_); (conv => whnf); (try simp only [Nat.zero_add, k3]))); (with_reducible refine call_intro (r := ?_) ?_ ?_); rotate_left; (focus (first | exact (fm) | exact (fw))); (conv => whnf))); (try simp only [Nat.zero_add, k3]))
          refine cnd_meet [] [(7, .box [.int .i64 (cntN data s1 s2 (((i * B + j) * Cc + k) * 6 + 3 + 1) t)])] (CondB.mk (fun hm => ?_) (fun hm => ?_)) ?_
          · rw [hm, if_pos rfl] at e1
            have e2 : ((cntN data s1 s2 (((i * B + j) * Cc + k) * 6 + 3) t : Nat) : Int) + 1 = (cntN data s1 s2 (((i * B + j) * Cc + k) * 6 + 3 + 1) t : Nat) := by omega
            (conv => whnf)
            (try simp only [Nat.zero_add, e2])
            repeat ((first | refine V.s1 ?_); (try simp only [Nat.zero_add, e2]))
            exact V.wk
          · rw [hm, if_neg (by decide), Nat.add_zero] at e1
            rw [e1]
            (conv => whnf)
            refine V.st ?_
            exact V.wk
          (conv => whnf)
          (try simp only [zU20_0])
          repeat ((first | refine V.s1 ?_); (try simp only [zU20_0]))
          exact ⟨3 + 1, by omega, by omega, V.wk⟩
        · subst eo
          obtain ⟨p, q, r, d, c, F⟩ := hF i j k 4 hi2 hj2 hk2 (by decide)
          have fm := F.made
          have fw := F.wts
          clear F
          unfold tetD at fm fw
          simp only [tetL, n3L, v3L, ordA, List.cons_append, List.nil_append, List.map_cons, List.map_nil, n3D, n3I, k0, k1, k2] at fm fw
          unfold gridD at fm
          rw [hsz] at fm
          rw [show numT B Cc i j k 4 = ((i * B + j) * Cc + k) * 6 + 4 from rfl] at fw
          have e1 := hcnt (((i * B + j) * Cc + k) * 6 + 4) t
          have e3 := hcl (((i * B + j) * Cc + k) * 6 + 4)
          (conv => whnf)
          (try simp only [Nat.zero_add, k4])
          repeat ((first | refine V.s1 ?_ | ((try ((with_reducible refine .ext ?_); (conv => whnf); (try simp only [Nat.zero_add, k4]))); (with_reducible refine call_intro (r := ?_) ?_ ?_); rotate_left; (focus (first | exact (fm) | exact (fw))); (conv => whnf))); (try simp only [Nat.zero_add, k4]))
          refine cnd_meet [] [(7, .box [.int .i64 (cntN data s1 s2 (((i * B + j) * Cc + k) * 6 + 4 + 1) t)])] (CondB.mk (fun hm => ?_) (fun hm => ?_)) ?_
          · rw [hm, if_pos rfl] at e1
            have e2 : ((cntN data s1 s2 (((i * B + j) * Cc + k) * 6 + 4) t : Nat) : Int) + 1 = (cntN data s1 s2 (((i * B + j) * Cc + k) * 6 + 4 + 1) t : Nat) := by omega
            (conv => whnf)
            (try simp only [Nat.zero_add, e2])
            repeat ((first | refine V.s1 ?_); (try simp only [Nat.zero_add, e2]))
            exact V.wk
          · rw [hm, if_neg (by decide), Nat.add_zero] at e1
            rw [e1]
            (conv => whnf)
            refine V.st ?_
            exact V.wk
          (conv => whnf)
          (try simp only [zU20_0])
          repeat ((first | refine V.s1 ?_); (try simp only [zU20_0]))
          exact ⟨4 + 1, by omega, by omega, V.wk⟩
        · subst eo
          obtain ⟨p, q, r, d, c, F⟩ := hF i j k 5 hi2 hj2 hk2 (by decide)
          have fm := F.made
          have fw := F.wts
          clear F
          unfold tetD at fm fw
          simp only [tetL, n3L, v3L, ordA, List.cons_append, List.nil_append, List.map_cons, List.map_nil, n3D, n3I, k0, k1, k2] at fm fw
          unfold gridD at fm
          rw [hsz] at fm
          rw [show numT B Cc i j k 5 = ((i * B + j) * Cc + k) * 6 + 5 from rfl] at fw
          have e1 := hcnt (((i * B + j) * Cc + k) * 6 + 5) t
          have e3 := hcl (((i * B + j) * Cc + k) * 6 + 5)
          (conv => whnf)
          (try simp only [Nat.zero_add, k5])
          repeat ((first | refine V.s1 ?_ | ((try ((with_reducible refine .ext ?_); (conv => whnf); (try simp only [Nat.zero_add, k5]))); (with_reducible refine call_intro (r := ?_) ?_ ?_); rotate_left; (focus (first | exact (fm) | exact (fw))); (conv => whnf))); (try simp only [Nat.zero_add, k5]))
          refine cnd_meet [] [(7, .box [.int .i64 (cntN data s1 s2 (((i * B + j) * Cc + k) * 6 + 5 + 1) t)])] (CondB.mk (fun hm => ?_) (fun hm => ?_)) ?_
          · rw [hm, if_pos rfl] at e1
            have e2 : ((cntN data s1 s2 (((i * B + j) * Cc + k) * 6 + 5) t : Nat) : Int) + 1 = (cntN data s1 s2 (((i * B + j) * Cc + k) * 6 + 5 + 1) t : Nat) := by omega
            (conv => whnf)
            (try simp only [Nat.zero_add, e2])
            repeat ((first | refine V.s1 ?_); (try simp only [Nat.zero_add, e2]))
            exact V.wk
          · rw [hm, if_neg (by decide), Nat.add_zero] at e1
            rw [e1]
            (conv => whnf)
            refine V.st ?_
            exact V.wk
          (conv => whnf)
          (try simp only [zU20_0])
          repeat ((first | refine V.s1 ?_); (try simp only [zU20_0]))
          exact ⟨5 + 1, by omega, by omega, V.wk⟩
        · subst eo
          have e9 : ((i * B + j) * Cc + k) * 6 + 6 = ((i * B + j) * Cc + (k + 1)) * 6 := by omega
          rw [e9]
          (conv => whnf)
          (try simp only [zU20_0])
          repeat ((first | refine V.s1 ?_); (try simp only [zU20_0]))
          exact ⟨k + 1, by omega, by omega, V.wk⟩
      · rw [decide_eq_false_iff_not] at hq3
        have hk2 : k = Cc := by omega
        subst hk2
        rw [← numT_j]
        (conv => whnf)
        (try simp only [zU20_0])
        repeat ((first | refine V.s1 ?_); (try simp only [zU20_0]))
        exact ⟨j + 1, by omega, by omega, V.wk⟩
    · rw [decide_eq_false_iff_not] at hq2
      have hj2 : j = B := by omega
      subst hj2
      rw [← numT_i]
      (conv => whnf)
      (try simp only [zU20_0])
      repeat ((first | refine V.s1 ?_); (try simp only [zU20_0]))
      exact ⟨i + 1, by omega, by omega, V.wk⟩
  · rw [decide_eq_false_iff_not] at hq
    have hi2 : i = A := by omega
    subst hi2
    have e9 : i * B * Cc * 6 = 6 * (i * B * Cc) := by rw [Nat.mul_comm]
    rw [e9]
    (conv => whnf)
    (try simp only [Nat.zero_add])
    repeat ((first | refine V.s1 ?_); (try simp only [Nat.zero_add]))
    exact Fin.of rfl
end Go.Proofs.YtlcaefokcnohnaaDoor
end
section
namespace Go.Proofs.YtlcaefokcnohnaaDoor
open Go Go.V Go.Nb
theorem zU21_0 : type_of% @Nat.zero_add ∧ type_of% @cs1 := ⟨@Nat.zero_add, @cs1⟩
theorem locate_c (size : List Int) (out : Int) (data ts : List Int) (hs : size.length ≤ 281474976710656) (hd : data.length ≤ 281474976710656) (ht : ts.length ≤ 281474976710656) :
    Called Tryd.prog 7 [gridD size out data, .ints .i64 ts] (locR size out data ts) := by
  have hch := lcheck_c size out data ts hs hd ht
  have htt := tetra_c size out data
  unfold gcD at htt
  rcases Decidable.em (chk size out data ts = 0) with h0 | h0
  rotate_left
  · rw [locR_no h0]
    have hr := chk_r size out data ts
    generalize chk size out data ts = z at *
    unfold gridD at hch ⊢
    refine called_of_run tbOk 6 ⟨Tryd.func7, rfl, rfl, Nat.le_of_ble_eq_true rfl⟩ ?_
    (conv => whnf)
    (conv => whnf)
    (try simp only [Nat.zero_add])
    repeat ((first | refine V.s1 ?_ | ((try ((with_reducible refine .ext ?_); (conv => whnf); (try simp only [Nat.zero_add]))); (with_reducible refine call_intro (r := ?_) ?_ ?_); rotate_left; (focus (first | exact (hch))); (conv => whnf))); (try simp only [Nat.zero_add]))
    refine Cnd.split (CondB.mk (fun hq => ?_) (fun hq => ?_))
    · (conv => whnf)
      (try simp only [Nat.zero_add])
      repeat ((first | refine V.s1 ?_); (try simp only [Nat.zero_add]))
      exact Fin.of rfl
    · exfalso
      simp at hq
      omega
  rw [h0] at hch
  obtain ⟨s0, s1, s2, t, rfl, rfl, rfl, C, hv⟩ := chk_ok h0
  have hnone := locR_none h0
  have hsome : ∀ n a b e d, _ := fun n a b e d => locR_some (n := n) (a := a) (b := b) (e := e) (d := d) h0
  generalize locR (sz3 s0 s1 s2) 3 data (v3L t) = LR at *
  have hfn : ∀ n, n < 6 * cellsN s0 s1 s2 → (∀ m, m < n → hldN data s1 s2 m t = none) → ∀ {r}, hldN data s1 s2 n t = some r → fndN data s0 s1 s2 t = some n := fun n hn hm r hr => fnd_some hm hn hr
  have hfz : (∀ n, n < 6 * cellsN s0 s1 s2 → hldN data s1 s2 n t = none) → fndN data s0 s1 s2 t = none := fun h => fnd_none h
  have hle := cells_le C
  have hF : ∀ i j k o, i < s0 - 1 → j < s1 - 1 → k < s2 - 1 → o < 6 → ∃ p q r d c, TetOk s0 s1 s2 data t i j k o (numT (s1 - 1) (s2 - 1) i j k o) p q r d (tetD (i, j, k) (ordA o) c) := fun i j k o => tet_ok C hv
  have hlt : ∀ i j k o, i < s0 - 1 → j < s1 - 1 → k < s2 - 1 → o < 6 → _ := fun i j k o hi hj hk ho => num_lt (A := s0 - 1) (B := s1 - 1) (C := s2 - 1) hi hj hk ho
  have h0 := C.h0
  have h1 := C.h1
  have h2 := C.h2
  have z0 := sz3_0 s0 s1 s2
  have z1 := sz3_1 s0 s1 s2
  have z2 := sz3_2 s0 s1 s2
  have zl := sz3_len s0 s1 s2
  have y0 : (sz3 s0 s1 s2).getD 0 0 = s0 := rfl
  have y1 : (sz3 s0 s1 s2).getD 1 0 = s1 := rfl
  have y2 : (sz3 s0 s1 s2).getD 2 0 = s2 := rfl
  obtain ⟨sz, hsz⟩ : ∃ sz, sz3 s0 s1 s2 = sz := ⟨_, rfl⟩
  unfold v3L at hch ⊢
  unfold gridD at hch htt ⊢
  rw [hsz] at hch htt z0 z1 z2 zl y0 y1 y2 ⊢
  unfold cellsN at hle hfn hfz
  obtain ⟨A, hA⟩ : ∃ A, s0 - 1 = A := ⟨_, rfl⟩
  obtain ⟨B, hB⟩ : ∃ B, s1 - 1 = B := ⟨_, rfl⟩
  obtain ⟨Cc, hC⟩ : ∃ C, s2 - 1 = C := ⟨_, rfl⟩
  rw [hA, hB, hC] at hF hle hlt hfn hfz
  have w0 : (s0 : Int) - 1 = (A : Int) := by omega
  have w1 : (s1 : Int) - 1 = (B : Int) := by omega
  have w2 : (s2 : Int) - 1 = (Cc : Int) := by omega
  clear C
  refine called_of_run tbOk 6 ⟨Tryd.func7, rfl, rfl, Nat.le_of_ble_eq_true rfl⟩ ?_
  (conv => whnf)
  (conv => whnf)
  (try simp only [Nat.zero_add])
  repeat ((first | refine V.s1 ?_ | ((try ((with_reducible refine .ext ?_); (conv => whnf); (try simp only [Nat.zero_add]))); (with_reducible refine call_intro (r := ?_) ?_ ?_); rotate_left; (focus (first | exact (hch) | exact (htt))); (conv => whnf))); (try simp only [Nat.zero_add]))
  refine ⟨_, _, ⟨Tryd.func19, rfl, rfl, Nat.le_of_ble_eq_true rfl⟩, ?_⟩
  (conv => whnf)
  (conv => whnf)
  (try simp only [Nat.zero_add, z0, y0, w0])
  repeat ((first | refine V.s1 ?_); (try simp only [Nat.zero_add, z0, y0, w0]))
  refine lp_any (0) (fun k => k ≤ A ∧ ∀ m, m < k * B * Cc * 6 → hldN data s1 s2 m t = none) (fun k => A - k) (fun k => [(14, .int .i64 k), (3, .int .i64 ((k * B * Cc * 6 : Nat) : Int))]) (fun k => [(47, .lp none)]) ?_ ?_ ?_
  · simp only [Nat.zero_mul]
    exact V.wk
  · exact ⟨Nat.zero_le _, fun m hm => absurd hm (by simp)⟩
  intro i hi
  obtain ⟨hi, hno⟩ := hi
  (conv => whnf)
  (try simp only [Nat.zero_add, z0, y0, w0])
  repeat ((first | refine V.s1 ?_); (try simp only [Nat.zero_add, z0, y0, w0]))
  refine Cnd.split (CondB.mk (fun hq => ?_) (fun hq => ?_))
  · rw [decide_eq_true_eq] at hq
    have hi2 : i < A := by omega
    (conv => whnf)
    (try simp only [Nat.zero_add, z1, y1, w1])
    repeat ((first | refine V.s1 ?_); (try simp only [Nat.zero_add, z1, y1, w1]))
    refine lp_any (0) (fun k => k ≤ B ∧ ∀ m, m < (i * B + k) * Cc * 6 → hldN data s1 s2 m t = none) (fun k => B - k) (fun k => [(22, .int .i64 k), (3, .int .i64 (((i * B + k) * Cc * 6 : Nat) : Int))]) (fun k => [(47, .lp none)]) ?_ ?_ ?_
    · simp only [Nat.add_zero]
      exact V.wk
    · exact ⟨Nat.zero_le _, hno⟩
    intro j hj
    clear hno
    obtain ⟨hj, hno⟩ := hj
    (conv => whnf)
    (try simp only [Nat.zero_add, z1, y1, w1])
    repeat ((first | refine V.s1 ?_); (try simp only [Nat.zero_add, z1, y1, w1]))
    refine Cnd.split (CondB.mk (fun hq2 => ?_) (fun hq2 => ?_))
    · rw [decide_eq_true_eq] at hq2
      have hj2 : j < B := by omega
      (conv => whnf)
      (try simp only [Nat.zero_add, z2, y2, w2])
      repeat ((first | refine V.s1 ?_); (try simp only [Nat.zero_add, z2, y2, w2]))
      refine lp_any (0) (fun k => k ≤ Cc ∧ ∀ m, m < ((i * B + j) * Cc + k) * 6 → hldN data s1 s2 m t = none) (fun k => Cc - k) (fun k => [(30, .int .i64 k), (3, .int .i64 ((((i * B + j) * Cc + k) * 6 : Nat) : Int))]) (fun k => [(47, .lp none)]) ?_ ?_ ?_
      · simp only [Nat.add_zero]
        exact V.wk
      · exact ⟨Nat.zero_le _, hno⟩
      intro k hk
      clear hno
      obtain ⟨hk, hno⟩ := hk
      (conv => whnf)
      (try simp only [Nat.zero_add, z2, y2, w2])
      repeat ((first | refine V.s1 ?_); (try simp only [Nat.zero_add, z2, y2, w2]))
      refine Cnd.split (CondB.mk (fun hq3 => ?_) (fun hq3 => ?_))
      · rw [decide_eq_true_eq] at hq3
        have hk2 : k < Cc := by omega
        have hn6 := hlt i j k 5 hi2 hj2 hk2 (by decide)
        (conv => whnf)
        (try simp only [Nat.zero_add])
        repeat ((first | refine V.s1 ?_); (try simp only [Nat.zero_add]))
        refine lp_any (0 : Nat) (fun o => o ≤ 6 ∧ ∀ m, m < ((i * B + j) * Cc + k) * 6 + o → hldN data s1 s2 m t = none) (fun o => 6 - o) (fun o => [(34, .int .i64 (o : Int)), (3, .int .i64 ((((i * B + j) * Cc + k) * 6 + o : Nat) : Int))]) (fun o => [(47, .lp none)]) ?_ ?_ ?_
        · simp only [Nat.add_zero]
          exact V.wk
        · exact ⟨Nat.zero_le _, hno⟩
        intro o ho
        clear hno
        obtain ⟨ho, hno⟩ := ho
        have ho6 : o = 0 ∨ o = 1 ∨ o = 2 ∨ o = 3 ∨ o = 4 ∨ o = 5 ∨ o = 6 := by omega
        rcases ho6 with eo | eo | eo | eo | eo | eo | eo
        · subst eo
          obtain ⟨p, q, r, d, c, F⟩ := hF i j k 0 hi2 hj2 hk2 (by decide)
          have fm := F.made
          have fw := F.wts
          have fis := F.is
          have fin := F.inp
          clear F
          unfold tetD at fm fw fin
          simp only [tetL, n3L, v3L, ordA, List.cons_append, List.nil_append, List.map_cons, List.map_nil, n3D, n3I, k0, k1, k2] at fm fw fin
          unfold gridD at fm
          rw [hsz] at fm fin
          rw [show numT B Cc i j k 0 = ((i * B + j) * Cc + k) * 6 + 0 from rfl] at fw fis fin
          have hnl := hlt i j k 0 hi2 hj2 hk2 (by decide)
          (conv => whnf)
          (try simp only [Nat.zero_add, k0])
          repeat ((first | refine V.s1 ?_ | ((try ((with_reducible refine .ext ?_); (conv => whnf); (try simp only [Nat.zero_add, k0]))); (with_reducible refine call_intro (r := ?_) ?_ ?_); rotate_left; (focus (first | exact (fm) | exact (fw))); (conv => whnf))); (try simp only [Nat.zero_add, k0]))
          refine Cnd.split (CondB.mk (fun hm => ?_) (fun hm => ?_))
          · have hyes : ∃ y, hldN data s1 s2 (((i * B + j) * Cc + k) * 6 + 0) t = some y := by
              cases hx : hldN data s1 s2 (((i * B + j) * Cc + k) * 6 + 0) t with
              | none => rw [hx] at hm; simp at hm
              | some y => exact ⟨y, rfl⟩
            obtain ⟨y, hy⟩ := hyes
            have hey := fis y hy
            subst hey
            have fi := fin _ hy
            have hl := hsome _ p q r d (hfn _ hnl hno hy) hy
            rw [hl]
            (conv => whnf)
            (try simp only [Nat.zero_add])
            repeat ((first | refine V.s1 ?_ | ((try ((with_reducible refine .ext ?_); (conv => whnf); (try simp only [Nat.zero_add]))); (with_reducible refine call_intro (r := ?_) ?_ ?_); rotate_left; (focus (first | exact (fi))); (conv => whnf))); (try simp only [Nat.zero_add]))
            refine ⟨(.take 0 (.take 1 (.ev (.cons 2 [1] (.ev (.cons 3 [] (.ev (.cons 4 [] (.done) (.nil))) (.nil))) (.nil))))), ⟨by kernel_rfl, by kernel_rfl, by kernel_rfl⟩, ?_⟩
            refine drw_meet [] [(4, .box [.slf 2 3 (resF (cellN s1 s2 (((i * B + j) * Cc + k) * 6 + 0)) ((((i * B + j) * Cc + k) * 6 + 0) % 6) p q r d s0 s1 s2)]), (5, .box [.int .i64 ((((i * B + j) * Cc + k) * 6 + 0 : Nat) : Int)]), (6, .box [.int .i64 0])] ?_ ?_
            · (conv => whnf); (try simp only [Nat.zero_add])
              repeat' (first | exact V.wk | ((first | refine V.s1 ?_ | ((with_reducible refine recheck_and ?_ ?_); (focus ((conv => whnf); (try simp only [Nat.zero_add]); (repeat (refine V.s1 ?_; (try simp only [Nat.zero_add]))); exact ⟨rfl⟩)); (conv => whnf))); (try simp only [Nat.zero_add])) | (refine And.intro ?_ ?_ <;> (conv => whnf); (try simp only [Nat.zero_add])))
            (conv => whnf)
            (try simp only [Nat.zero_add])
            repeat ((first | refine V.s1 ?_); (try simp only [Nat.zero_add]))
            exact Fin.of rfl
          · have hno2 : hldN data s1 s2 (((i * B + j) * Cc + k) * 6 + 0) t = none := by
              cases hx : hldN data s1 s2 (((i * B + j) * Cc + k) * 6 + 0) t with
              | none => rfl
              | some y => rw [hx] at hm; simp at hm
            (conv => whnf)
            (try simp only [zU21_0])
            repeat ((first | refine V.s1 ?_); (try simp only [zU21_0]))
            exact ⟨0 + 1, ⟨by omega, fun m hm => (Nat.lt_succ_iff_lt_or_eq.1 hm).elim (hno m) (fun e => e ▸ hno2)⟩, by omega, V.wk⟩
        · subst eo
          obtain ⟨p, q, r, d, c, F⟩ := hF i j k 1 hi2 hj2 hk2 (by decide)
          have fm := F.made
          have fw := F.wts
          have fis := F.is
          have fin := F.inp
          clear F
          unfold tetD at fm fw fin
          simp only [tetL, n3L, v3L, ordA, List.cons_append, List.nil_append, List.map_cons, List.map_nil, n3D, n3I, k0, k1, k2] at fm fw fin
          unfold gridD at fm
          rw [hsz] at fm fin
          rw [show numT B Cc i j k 1 = ((i * B + j) * Cc + k) * 6 + 1 from rfl] at fw fis fin
          have hnl := hlt i j k 1 hi2 hj2 hk2 (by decide)
          (conv => whnf)
          (try simp only [Nat.zero_add, k1])
          repeat ((first | refine V.s1 ?_ | ((try ((with_reducible refine .ext ?_); (conv => whnf); (try simp only [Nat.zero_add, k1]))); (with_reducible refine call_intro (r := ?_) ?_ ?_); rotate_left; (focus (first | exact (fm) | exact (fw))); (conv => whnf))); (try simp only [Nat.zero_add, k1]))
          refine Cnd.split (CondB.mk (fun hm => ?_) (fun hm => ?_))
          · have hyes : ∃ y, hldN data s1 s2 (((i * B + j) * Cc + k) * 6 + 1) t = some y := by
              cases hx : hldN data s1 s2 (((i * B + j) * Cc + k) * 6 + 1) t with
              | none => rw [hx] at hm; simp at hm
              | some y => exact ⟨y, rfl⟩
            obtain ⟨y, hy⟩ := hyes
            have hey := fis y hy
            subst hey
            have fi := fin _ hy
            have hl := hsome _ p q r d (hfn _ hnl hno hy) hy
            rw [hl]
            (conv => whnf)
            (try simp only [Nat.zero_add])
            repeat ((first | refine V.s1 ?_ | ((try ((with_reducible refine .ext ?_); (conv => whnf); (try simp only [Nat.zero_add]))); (with_reducible refine call_intro (r := ?_) ?_ ?_); rotate_left; (focus (first | exact (fi))); (conv => whnf))); (try simp only [Nat.zero_add]))
            refine ⟨(.take 0 (.take 1 (.ev (.cons 2 [1] (.ev (.cons 3 [] (.ev (.cons 4 [] (.done) (.nil))) (.nil))) (.nil))))), ⟨by kernel_rfl, by kernel_rfl, by kernel_rfl⟩, ?_⟩
            refine drw_meet [] [(4, .box [.slf 2 3 (resF (cellN s1 s2 (((i * B + j) * Cc + k) * 6 + 1)) ((((i * B + j) * Cc + k) * 6 + 1) % 6) p q r d s0 s1 s2)]), (5, .box [.int .i64 ((((i * B + j) * Cc + k) * 6 + 1 : Nat) : Int)]), (6, .box [.int .i64 0])] ?_ ?_
            · (conv => whnf); (try simp only [Nat.zero_add])
              repeat' (first | exact V.wk | ((first | refine V.s1 ?_ | ((with_reducible refine recheck_and ?_ ?_); (focus ((conv => whnf); (try simp only [Nat.zero_add]); (repeat (refine V.s1 ?_; (try simp only [Nat.zero_add]))); exact ⟨rfl⟩)); (conv => whnf))); (try simp only [Nat.zero_add])) | (refine And.intro ?_ ?_ <;> (conv => whnf); (try simp only [Nat.zero_add])))
            (conv => whnf)
            (try simp only [Nat.zero_add])
            repeat ((first | refine V.s1 ?_); (try simp only [Nat.zero_add]))
            exact Fin.of rfl
          · have hno2 : hldN data s1 s2 (((i * B + j) * Cc + k) * 6 + 1) t = none := by
              cases hx : hldN data s1 s2 (((i * B + j) * Cc + k) * 6 + 1) t with
              | none => rfl
              | some y => rw [hx] at hm; simp at hm
            (conv => whnf)
            (try simp only [zU21_0])
            repeat ((first | refine V.s1 ?_); (try simp only [zU21_0]))
            exact ⟨1 + 1, ⟨by omega, fun m hm => (Nat.lt_succ_iff_lt_or_eq.1 hm).elim (hno m) (fun e => e ▸ hno2)⟩, by omega, V.wk⟩
        · subst eo
          obtain ⟨p, q, r, d, c, F⟩ := hF i j k 2 hi2 hj2 hk2 (by decide)
          have fm := F.made
          have fw := F.wts
          have fis := F.is
          have fin := F.inp
          clear F
          unfold tetD at fm fw fin
          simp only [tetL, n3L, v3L, ordA, List.cons_append, List.nil_append, List.map_cons, List.map_nil, n3D, n3I, k0, k1, k2] at fm fw fin
          unfold gridD at fm
          rw [hsz] at fm fin
          rw [show numT B Cc i j k 2 = ((i * B + j) * Cc + k) * 6 + 2 from rfl] at fw fis fin
          have hnl := hlt i j k 2 hi2 hj2 hk2 (by decide)
          (conv => whnf)
          (try simp only [Nat.zero_add, k2])
          repeat ((first | refine V.s1 ?_ | ((try ((with_reducible refine .ext ?_); (conv => whnf); (try simp only [Nat.zero_add, k2]))); (with_reducible refine call_intro (r := ?_) ?_ ?_); rotate_left; (focus (first | exact (fm) | exact (fw))); (conv => whnf))); (try simp only [Nat.zero_add, k2]))
          refine Cnd.split (CondB.mk (fun hm => ?_) (fun hm => ?_))
          · have hyes : ∃ y, hldN data s1 s2 (((i * B + j) * Cc + k) * 6 + 2) t = some y := by
              cases hx : hldN data s1 s2 (((i * B + j) * Cc + k) * 6 + 2) t with
              | none => rw [hx] at hm; simp at hm
              | some y => exact ⟨y, rfl⟩
            obtain ⟨y, hy⟩ := hyes
            have hey := fis y hy
            subst hey
            have fi := fin _ hy
            have hl := hsome _ p q r d (hfn _ hnl hno hy) hy
            rw [hl]
            (conv => whnf)
            (try simp only [Nat.zero_add])
            repeat ((first | refine V.s1 ?_ | ((try ((with_reducible refine .ext ?_); (conv => whnf); (try simp only [Nat.zero_add]))); (with_reducible refine call_intro (r := ?_) ?_ ?_); rotate_left; (focus (first | exact (fi))); (conv => whnf))); (try simp only [Nat.zero_add]))
            refine ⟨(.take 0 (.take 1 (.ev (.cons 2 [1] (.ev (.cons 3 [] (.ev (.cons 4 [] (.done) (.nil))) (.nil))) (.nil))))), ⟨by kernel_rfl, by kernel_rfl, by kernel_rfl⟩, ?_⟩
            refine drw_meet [] [(4, .box [.slf 2 3 (resF (cellN s1 s2 (((i * B + j) * Cc + k) * 6 + 2)) ((((i * B + j) * Cc + k) * 6 + 2) % 6) p q r d s0 s1 s2)]), (5, .box [.int .i64 ((((i * B + j) * Cc + k) * 6 + 2 : Nat) : Int)]), (6, .box [.int .i64 0])] ?_ ?_
            · (conv => whnf); (try simp only [Nat.zero_add])
              repeat' (first | exact V.wk | ((first | refine V.s1 ?_ | ((with_reducible refine recheck_and ?_ ?_); (focus ((conv => whnf); (try simp only [Nat.zero_add]); (repeat (refine V.s1 ?_; (try simp only [Nat.zero_add]))); exact ⟨rfl⟩)); (conv => whnf))); (try simp only [Nat.zero_add])) | (refine And.intro ?_ ?_ <;> (conv => whnf); (try simp only [Nat.zero_add])))
            (conv => whnf)
            (try simp only [Nat.zero_add])
            repeat ((first | refine V.s1 ?_); (try simp only [Nat.zero_add]))
            exact Fin.of rfl
          · have hno2 : hldN data s1 s2 (((i * B + j) * Cc + k) * 6 + 2) t = none := by
              cases hx : hldN data s1 s2 (((i * B + j) * Cc + k) * 6 + 2) t with
              | none => rfl
              | some y => rw [hx] at hm; simp at hm
            (conv => whnf)
            (try simp only [zU21_0])
            repeat ((first | refine V.s1 ?_); (try simp only [zU21_0]))
            exact ⟨2 + 1, ⟨by omega, fun m hm => (Nat.lt_succ_iff_lt_or_eq.1 hm).elim (hno m) (fun e => e ▸ hno2)⟩, by omega, V.wk⟩
        · subst eo
          obtain ⟨p, q, r, d, c, F⟩ := hF i j k 3 hi2 hj2 hk2 (by decide)
          have fm := F.made
          have fw := F.wts
          have fis := F.is
          have fin := F.inp
          clear F
          unfold tetD at fm fw fin
          simp only [tetL, n3L, v3L, ordA, List.cons_append, List.nil_append, List.map_cons, List.map_nil, n3D, n3I, k0, k1, k2] at fm fw fin
          unfold gridD at fm
          rw [hsz] at fm fin
          rw [show numT B Cc i j k 3 = ((i * B + j) * Cc + k) * 6 + 3 from rfl] at fw fis fin
          have hnl := hlt i j k 3 hi2 hj2 hk2 (by decide)
          (conv => whnf)
          (try simp only [Nat.zero_add, k3])
          repeat ((first | refine V.s1 ?_ | ((try ((with_reducible refine .ext ?_); (conv => whnf); (try simp only [Nat.zero_add, k3]))); (with_reducible refine call_intro (r := ?_) ?_ ?_); rotate_left; (focus (first | exact (fm) | exact (fw))); (conv => whnf))); (try simp only [Nat.zero_add, k3]))
          refine Cnd.split (CondB.mk (fun hm => ?_) (fun hm => ?_))
          · have hyes : ∃ y, hldN data s1 s2 (((i * B + j) * Cc + k) * 6 + 3) t = some y := by
              cases hx : hldN data s1 s2 (((i * B + j) * Cc + k) * 6 + 3) t with
              | none => rw [hx] at hm; simp at hm
              | some y => exact ⟨y, rfl⟩
            obtain ⟨y, hy⟩ := hyes
            have hey := fis y hy
            subst hey
            have fi := fin _ hy
            have hl := hsome _ p q r d (hfn _ hnl hno hy) hy
            rw [hl]
            (conv => whnf)
            (try simp only [Nat.zero_add])
            repeat ((first | refine V.s1 ?_ | ((try ((with_reducible refine .ext ?_); (conv => whnf); (try simp only [Nat.zero_add]))); (with_reducible refine call_intro (r := ?_) ?_ ?_); rotate_left; (focus (first | exact (fi))); (conv => whnf))); (try simp only [Nat.zero_add]))
            refine ⟨(.take 0 (.take 1 (.ev (.cons 2 [1] (.ev (.cons 3 [] (.ev (.cons 4 [] (.done) (.nil))) (.nil))) (.nil))))), ⟨by kernel_rfl, by kernel_rfl, by kernel_rfl⟩, ?_⟩
            refine drw_meet [] [(4, .box [.slf 2 3 (resF (cellN s1 s2 (((i * B + j) * Cc + k) * 6 + 3)) ((((i * B + j) * Cc + k) * 6 + 3) % 6) p q r d s0 s1 s2)]), (5, .box [.int .i64 ((((i * B + j) * Cc + k) * 6 + 3 : Nat) : Int)]), (6, .box [.int .i64 0])] ?_ ?_
            · (conv => whnf); (try simp only [Nat.zero_add])
              repeat' (first | exact V.wk | ((first | refine V.s1 ?_ | ((with_reducible refine recheck_and ?_ ?_); (focus ((conv => whnf); (try simp only [Nat.zero_add]); (repeat (refine V.s1 ?_; (try simp only [Nat.zero_add]))); exact ⟨rfl⟩)); (conv => whnf))); (try simp only [Nat.zero_add])) | (refine And.intro ?_ ?_ <;> (conv => whnf); (try simp only [Nat.zero_add])))
            (conv => whnf)
            (try simp only [Nat.zero_add])
            repeat ((first | refine V.s1 ?_); (try simp only [Nat.zero_add]))
            exact Fin.of rfl
          · have hno2 : hldN data s1 s2 (((i * B + j) * Cc + k) * 6 + 3) t = none := by
              cases hx : hldN data s1 s2 (((i * B + j) * Cc + k) * 6 + 3) t with
              | none => rfl
              | some y => rw [hx] at hm; simp at hm
            (conv => whnf)
            (try simp only [zU21_0])
            repeat ((first | refine V.s1 ?_); (try simp only [zU21_0]))
            exact ⟨3 + 1, ⟨by omega, fun m hm => (Nat.lt_succ_iff_lt_or_eq.1 hm).elim (hno m) (fun e => e ▸ hno2)⟩, by omega, V.wk⟩
        · subst eo
          obtain ⟨p, q, r, d, c, F⟩ := hF i j k 4 hi2 hj2 hk2 (by decide)
          have fm := F.made
          have fw := F.wts
          have fis := F.is
          have fin := F.inp
          clear F
          unfold tetD at fm fw fin
          simp only [tetL, n3L, v3L, ordA, List.cons_append, List.nil_append, List.map_cons, List.map_nil, n3D, n3I, k0, k1, k2] at fm fw fin
          unfold gridD at fm
          rw [hsz] at fm fin
          rw [show numT B Cc i j k 4 = ((i * B + j) * Cc + k) * 6 + 4 from rfl] at fw fis fin
          have hnl := hlt i j k 4 hi2 hj2 hk2 (by decide)
          (conv => whnf)
          (try simp only [Nat.zero_add, k4])
          repeat ((first | refine V.s1 ?_ | ((try ((with_reducible refine .ext ?_); (conv => whnf); (try simp only [Nat.zero_add, k4]))); (with_reducible refine call_intro (r := ?_) ?_ ?_); rotate_left; (focus (first | exact (fm) | exact (fw))); (conv => whnf))); (try simp only [Nat.zero_add, k4]))
          refine Cnd.split (CondB.mk (fun hm => ?_) (fun hm => ?_))
          · have hyes : ∃ y, hldN data s1 s2 (((i * B + j) * Cc + k) * 6 + 4) t = some y := by
              cases hx : hldN data s1 s2 (((i * B + j) * Cc + k) * 6 + 4) t with
              | none => rw [hx] at hm; simp at hm
              | some y => exact ⟨y, rfl⟩
            obtain ⟨y, hy⟩ := hyes
            have hey := fis y hy
            subst hey
            have fi := fin _ hy
            have hl := hsome _ p q r d (hfn _ hnl hno hy) hy
            rw [hl]
            (conv => whnf)
            (try simp only [Nat.zero_add])
            repeat ((first | refine V.s1 ?_ | ((try ((with_reducible refine .ext ?_); (conv => whnf); (try simp only [Nat.zero_add]))); (with_reducible refine call_intro (r := ?_) ?_ ?_); rotate_left; (focus (first | exact (fi))); (conv => whnf))); (try simp only [Nat.zero_add]))
            refine ⟨(.take 0 (.take 1 (.ev (.cons 2 [1] (.ev (.cons 3 [] (.ev (.cons 4 [] (.done) (.nil))) (.nil))) (.nil))))), ⟨by kernel_rfl, by kernel_rfl, by kernel_rfl⟩, ?_⟩
            refine drw_meet [] [(4, .box [.slf 2 3 (resF (cellN s1 s2 (((i * B + j) * Cc + k) * 6 + 4)) ((((i * B + j) * Cc + k) * 6 + 4) % 6) p q r d s0 s1 s2)]), (5, .box [.int .i64 ((((i * B + j) * Cc + k) * 6 + 4 : Nat) : Int)]), (6, .box [.int .i64 0])] ?_ ?_
            · (conv => whnf); (try simp only [Nat.zero_add])
              repeat' (first | exact V.wk | ((first | refine V.s1 ?_ | ((with_reducible refine recheck_and ?_ ?_); (focus ((conv => whnf); (try simp only [Nat.zero_add]); (repeat (refine V.s1 ?_; (try simp only [Nat.zero_add]))); exact ⟨rfl⟩)); (conv => whnf))); (try simp only [Nat.zero_add])) | (refine And.intro ?_ ?_ <;> (conv => whnf); (try simp only [Nat.zero_add])))
            (conv => whnf)
            (try simp only [Nat.zero_add])
            repeat ((first | refine V.s1 ?_); (try simp only [Nat.zero_add]))
            exact Fin.of rfl
          · have hno2 : hldN data s1 s2 (((i * B + j) * Cc + k) * 6 + 4) t = none := by
              cases hx : hldN data s1 s2 (((i * B + j) * Cc + k) * 6 + 4) t with
              | none => rfl
              | some y => rw [hx] at hm; simp at hm
            (conv => whnf)
            (try simp only [zU21_0])
            repeat ((first | refine V.s1 ?_); (try simp only [zU21_0]))
            exact ⟨4 + 1, ⟨by omega, fun m hm => (Nat.lt_succ_iff_lt_or_eq.1 hm).elim (hno m) (fun e => e ▸ hno2)⟩, by omega, V.wk⟩
        · subst eo
          obtain ⟨p, q, r, d, c, F⟩ := hF i j k 5 hi2 hj2 hk2 (by decide)
          have fm := F.made
          have fw := F.wts
          have fis := F.is
          have fin := F.inp
          clear F
          unfold tetD at fm fw fin
          simp only [tetL, n3L, v3L, ordA, List.cons_append, List.nil_append, List.map_cons, List.map_nil, n3D, n3I, k0, k1, k2] at fm fw fin
          unfold gridD at fm
          rw [hsz] at fm fin
          rw [show numT B Cc i j k 5 = ((i * B + j) * Cc + k) * 6 + 5 from rfl] at fw fis fin
          have hnl := hlt i j k 5 hi2 hj2 hk2 (by decide)
          (conv => whnf)
          (try simp only [Nat.zero_add, k5])
          repeat ((first | refine V.s1 ?_ | ((try ((with_reducible refine .ext ?_); (conv => whnf); (try simp only [Nat.zero_add, k5]))); (with_reducible refine call_intro (r := ?_) ?_ ?_); rotate_left; (focus (first | exact (fm) | exact (fw))); (conv => whnf))); (try simp only [Nat.zero_add, k5]))
          refine Cnd.split (CondB.mk (fun hm => ?_) (fun hm => ?_))
          · have hyes : ∃ y, hldN data s1 s2 (((i * B + j) * Cc + k) * 6 + 5) t = some y := by
              cases hx : hldN data s1 s2 (((i * B + j) * Cc + k) * 6 + 5) t with
              | none => rw [hx] at hm; simp at hm
              | some y => exact ⟨y, rfl⟩
            obtain ⟨y, hy⟩ := hyes
            have hey := fis y hy
            subst hey
            have fi := fin _ hy
            have hl := hsome _ p q r d (hfn _ hnl hno hy) hy
            rw [hl]
            (conv => whnf)
            (try simp only [Nat.zero_add])
            repeat ((first | refine V.s1 ?_ | ((try ((with_reducible refine .ext ?_); (conv => whnf); (try simp only [Nat.zero_add]))); (with_reducible refine call_intro (r := ?_) ?_ ?_); rotate_left; (focus (first | exact (fi))); (conv => whnf))); (try simp only [Nat.zero_add]))
            refine ⟨(.take 0 (.take 1 (.ev (.cons 2 [1] (.ev (.cons 3 [] (.ev (.cons 4 [] (.done) (.nil))) (.nil))) (.nil))))), ⟨by kernel_rfl, by kernel_rfl, by kernel_rfl⟩, ?_⟩
            refine drw_meet [] [(4, .box [.slf 2 3 (resF (cellN s1 s2 (((i * B + j) * Cc + k) * 6 + 5)) ((((i * B + j) * Cc + k) * 6 + 5) % 6) p q r d s0 s1 s2)]), (5, .box [.int .i64 ((((i * B + j) * Cc + k) * 6 + 5 : Nat) : Int)]), (6, .box [.int .i64 0])] ?_ ?_
            · (conv => whnf); (try simp only [Nat.zero_add])
              repeat' (first | exact V.wk | ((first | refine V.s1 ?_ | ((with_reducible refine recheck_and ?_ ?_); (focus ((conv => whnf); (try simp only [Nat.zero_add]); (repeat (refine V.s1 ?_; (try simp only [Nat.zero_add]))); exact ⟨rfl⟩)); (conv => whnf))); (try simp only [Nat.zero_add])) | (refine And.intro ?_ ?_ <;> (conv => whnf); (try simp only [Nat.zero_add])))
            (conv => whnf)
            (try simp only [Nat.zero_add])
            repeat ((first | refine V.s1 ?_); (try simp only [Nat.zero_add]))
            exact Fin.of rfl
          · have hno2 : hldN data s1 s2 (((i * B + j) * Cc + k) * 6 + 5) t = none := by
              cases hx : hldN data s1 s2 (((i * B + j) * Cc + k) * 6 + 5) t with
              | none => rfl
              | some y => rw [hx] at hm; simp at hm
            (conv => whnf)
            (try simp only [zU21_0])
            repeat ((first | refine V.s1 ?_); (try simp only [zU21_0]))
            exact ⟨5 + 1, ⟨by omega, fun m hm => (Nat.lt_succ_iff_lt_or_eq.1 hm).elim (hno m) (fun e => e ▸ hno2)⟩, by omega, V.wk⟩
        · subst eo
          have e9 : ((i * B + j) * Cc + k) * 6 + 6 = ((i * B + j) * Cc + (k + 1)) * 6 := by omega
          rw [e9] at hno ⊢
          (conv => whnf)
          (try simp only [zU21_0])
          repeat ((first | refine V.s1 ?_); (try simp only [zU21_0]))
          exact ⟨k + 1, ⟨by omega, hno⟩, by omega, V.wk⟩
      · rw [decide_eq_false_iff_not] at hq3
        have hk2 : k = Cc := by omega
        subst hk2
        rw [← numT_j] at hno ⊢
        (conv => whnf)
        (try simp only [zU21_0])
        repeat ((first | refine V.s1 ?_); (try simp only [zU21_0]))
        exact ⟨j + 1, ⟨by omega, hno⟩, by omega, V.wk⟩
    · rw [decide_eq_false_iff_not] at hq2
      have hj2 : j = B := by omega
      subst hj2
      rw [← numT_i] at hno ⊢
      (conv => whnf)
      (try simp only [zU21_0])
      repeat ((first | refine V.s1 ?_); (try simp only [zU21_0]))
      exact ⟨i + 1, ⟨by omega, hno⟩, by omega, V.wk⟩
  · rw [decide_eq_false_iff_not] at hq
    have hi2 : i = A := by omega
    subst hi2
    have e9 : i * B * Cc * 6 = 6 * (i * B * Cc) := by rw [Nat.mul_comm]
    rw [e9] at hno
    rw [hnone (hfz hno)]
    (conv => whnf)
    (try simp only [Nat.zero_add])
    repeat ((first | refine V.s1 ?_); (try simp only [Nat.zero_add]))
    refine ⟨(.take 0 (.ev (.cons 1 [0] (.ev (.cons 2 [0] (.ev (.cons 3 [] (.done) (.nil))) (.nil))) (.nil)))), ⟨by kernel_rfl, by kernel_rfl, by kernel_rfl⟩, ?_⟩
    refine drw_meet [] [(4, .box [.nil]), (5, .box [.int .i64 0]), (6, .box [.int .i64 4])] ?_ ?_
    · (conv => whnf); (try simp only [Nat.zero_add])
      repeat' (first | exact V.wk | ((first | refine V.s1 ?_ | ((with_reducible refine recheck_and ?_ ?_); (focus ((conv => whnf); (try simp only [Nat.zero_add]); (repeat (refine V.s1 ?_; (try simp only [Nat.zero_add]))); exact ⟨rfl⟩)); (conv => whnf))); (try simp only [Nat.zero_add])) | (refine And.intro ?_ ?_ <;> (conv => whnf); (try simp only [Nat.zero_add])))
    (conv => whnf)
    (try simp only [Nat.zero_add])
    repeat ((first | refine V.s1 ?_); (try simp only [Nat.zero_add]))
    exact Fin.of rfl
end Go.Proofs.YtlcaefokcnohnaaDoor
end
section
namespace Go.Proofs.YtlcaefokcnohnaaDoor
open Go Go.V Go.Nb
end Go.Proofs.YtlcaefokcnohnaaDoor
end
section
namespace Go.Proofs.YtlcaefokcnohnaaDoor
open Go Go.V Go.Nb
theorem lawof_c (n m : Int) (hn : -9223372036854775807 ≤ n ∧ n ≤ 9223372036854775807) (hm : 1 ≤ m ∧ m ≤ 9223372036854775807) : Called Tryd.prog 11 [.int .i64 n, .int .i64 m] (.agg (frC (Rat.divInt n m))) := by
  have h := rofI n m hn hm
  unfold frC at h ⊢
  refine called_of_run tbOk 6 ⟨Tryd.func11, rfl, rfl, Nat.le_of_ble_eq_true rfl⟩ ?_
  (conv => whnf)
  (conv => whnf)
  (try simp only [Nat.zero_add])
  repeat ((first | refine V.s1 ?_ | ((try ((with_reducible refine .ext ?_); (conv => whnf); (try simp only [Nat.zero_add]))); (with_reducible refine call_intro (r := ?_) ?_ ?_); rotate_left; (focus (first | exact (h))); (conv => whnf))); (try simp only [Nat.zero_add]))
  exact Fin.of rfl
def cubeL : List Int := [0, 0, 0, 0, 0, 65535, 0, 65535, 0, 0, 65535, 65535, 65535, 0, 0, 65535, 0, 65535, 65535, 65535, 0, 65535, 65535, 65535]
def cubeK : Nat → List Int
  | k => cubeL.take (3 * k)
theorem k4 : ((4 : Nat) : Int) = 4 := rfl
theorem k5 : ((5 : Nat) : Int) = 5 := rfl
theorem k6 : ((6 : Nat) : Int) = 6 := rfl
theorem k7 : ((7 : Nat) : Int) = 7 := rfl
theorem k8 : ((8 : Nat) : Int) = 8 := rfl
theorem zU26_0 : type_of% @List.cons_append.{0} ∧ type_of% @List.drop_zero.{0} ∧ type_of% @List.length_cons.{0} ∧ type_of% @List.length_nil.{0} ∧ type_of% @List.nil_append.{0} ∧ type_of% @List.take_succ_cons.{0} ∧ type_of% @List.take_zero.{0} ∧ type_of% @Nat.zero_add := ⟨@List.cons_append.{0}, @List.drop_zero.{0}, @List.length_cons.{0}, @List.length_nil.{0}, @List.nil_append.{0}, @List.take_succ_cons.{0}, @List.take_zero.{0}, @Nat.zero_add⟩
theorem cube_c : Called Tryd.prog 9 [] (gridD (sz3 2 2 2) 3 cubeL) := by
  refine called_of_run tbOk 6 ⟨Tryd.func9, rfl, rfl, Nat.le_of_ble_eq_true rfl⟩ ?_
  (conv => whnf)
  (conv => whnf)
  (try simp only [Nat.zero_add])
  repeat ((first | refine V.s1 ?_); (try simp only [Nat.zero_add]))
  refine Lp.ghostBox 21 1 2 .i64 (by decide) (by decide) ?_
  (conv => whnf)
  refine lp_any (0) (fun k => k ≤ 8) (fun k => 8 - k) (fun k => [(5, .int .i64 k)]) (fun k => [(1, .box [.osl 3 0 3, .int .i64 3, .osl 21 0 (3 * k)]), (21, .arr .i64 (cubeK k))]) ?_ ?_ ?_
  · exact V.wk
  · exact Nat.zero_le _
  intro k hk
  have hk9 : k = 0 ∨ k = 1 ∨ k = 2 ∨ k = 3 ∨ k = 4 ∨ k = 5 ∨ k = 6 ∨ k = 7 ∨ k = 8 := by omega
  rcases hk9 with e | e | e | e | e | e | e | e | e
  · subst e
    rw [show cubeK 0 = ([] : List Int) from rfl, show 3 * 0 = 0 from rfl]
    simp only [k0]
    (conv => whnf)
    (try simp only [zU26_0])
    repeat ((first | refine V.s1 ?_); (try simp only [zU26_0]))
    try refine And.intro (fun _ => ⟨rfl, by simp⟩) ?_
    (conv => whnf)
    (try simp only [zU26_0])
    repeat ((first | refine V.s1 ?_); (try simp only [zU26_0]))
    exact ⟨1, by omega, by omega, V.wk⟩
  · subst e
    rw [show cubeK 1 = [0, 0, 0] from rfl, show 3 * 1 = 3 from rfl]
    simp only [k1]
    (conv => whnf)
    (try simp only [zU26_0])
    repeat ((first | refine V.s1 ?_); (try simp only [zU26_0]))
    try refine And.intro (fun _ => ⟨rfl, by simp⟩) ?_
    (conv => whnf)
    (try simp only [zU26_0])
    repeat ((first | refine V.s1 ?_); (try simp only [zU26_0]))
    exact ⟨2, by omega, by omega, V.wk⟩
  · subst e
    rw [show cubeK 2 = [0, 0, 0, 0, 0, 65535] from rfl, show 3 * 2 = 6 from rfl]
    simp only [k2]
    (conv => whnf)
    (try simp only [zU26_0])
    repeat ((first | refine V.s1 ?_); (try simp only [zU26_0]))
    try refine And.intro (fun _ => ⟨rfl, by simp⟩) ?_
    (conv => whnf)
    (try simp only [zU26_0])
    repeat ((first | refine V.s1 ?_); (try simp only [zU26_0]))
    exact ⟨3, by omega, by omega, V.wk⟩
  · subst e
    rw [show cubeK 3 = [0, 0, 0, 0, 0, 65535, 0, 65535, 0] from rfl, show 3 * 3 = 9 from rfl]
    simp only [k3]
    (conv => whnf)
    (try simp only [zU26_0])
    repeat ((first | refine V.s1 ?_); (try simp only [zU26_0]))
    try refine And.intro (fun _ => ⟨rfl, by simp⟩) ?_
    (conv => whnf)
    (try simp only [zU26_0])
    repeat ((first | refine V.s1 ?_); (try simp only [zU26_0]))
    exact ⟨4, by omega, by omega, V.wk⟩
  · subst e
    rw [show cubeK 4 = [0, 0, 0, 0, 0, 65535, 0, 65535, 0, 0, 65535, 65535] from rfl, show 3 * 4 = 12 from rfl]
    simp only [k4]
    (conv => whnf)
    (try simp only [zU26_0])
    repeat ((first | refine V.s1 ?_); (try simp only [zU26_0]))
    try refine And.intro (fun _ => ⟨rfl, by simp⟩) ?_
    (conv => whnf)
    (try simp only [zU26_0])
    repeat ((first | refine V.s1 ?_); (try simp only [zU26_0]))
    exact ⟨5, by omega, by omega, V.wk⟩
  · subst e
    rw [show cubeK 5 = [0, 0, 0, 0, 0, 65535, 0, 65535, 0, 0, 65535, 65535, 65535, 0, 0] from rfl, show 3 * 5 = 15 from rfl]
    simp only [k5]
    (conv => whnf)
    (try simp only [zU26_0])
    repeat ((first | refine V.s1 ?_); (try simp only [zU26_0]))
    try refine And.intro (fun _ => ⟨rfl, by simp⟩) ?_
    (conv => whnf)
    (try simp only [zU26_0])
    repeat ((first | refine V.s1 ?_); (try simp only [zU26_0]))
    exact ⟨6, by omega, by omega, V.wk⟩
  · subst e
    rw [show cubeK 6 = [0, 0, 0, 0, 0, 65535, 0, 65535, 0, 0, 65535, 65535, 65535, 0, 0, 65535, 0, 65535] from rfl, show 3 * 6 = 18 from rfl]
    simp only [k6]
    (conv => whnf)
    (try simp only [zU26_0])
    repeat ((first | refine V.s1 ?_); (try simp only [zU26_0]))
    try refine And.intro (fun _ => ⟨rfl, by simp⟩) ?_
    (conv => whnf)
    (try simp only [zU26_0])
    repeat ((first | refine V.s1 ?_); (try simp only [zU26_0]))
    exact ⟨7, by omega, by omega, V.wk⟩
  · subst e
    rw [show cubeK 7 = [0, 0, 0, 0, 0, 65535, 0, 65535, 0, 0, 65535, 65535, 65535, 0, 0, 65535, 0, 65535, 65535, 65535, 0] from rfl, show 3 * 7 = 21 from rfl]
    simp only [k7]
    (conv => whnf)
    (try simp only [zU26_0])
    repeat ((first | refine V.s1 ?_); (try simp only [zU26_0]))
    try refine And.intro (fun _ => ⟨rfl, by simp⟩) ?_
    (conv => whnf)
    (try simp only [zU26_0])
    repeat ((first | refine V.s1 ?_); (try simp only [zU26_0]))
    exact ⟨8, by omega, by omega, V.wk⟩
  · subst e
    (conv => whnf)
    (try simp only [Nat.zero_add, k8])
    repeat ((first | refine V.s1 ?_); (try simp only [Nat.zero_add, k8]))
    exact Fin.of rfl
theorem finds_yes {t : V3} {dt' : D} (it : Is3 dt' t) {size data : List Int} {n : Nat} {q0 q1 q2 : Rat} (hs : size.length ≤ 281474976710656) (hd : data.length ≤ 281474976710656) (h : locR size 3 data (v3L t) = .tup [.slf 2 3 (frF q0 q1 q2), .int .i64 n, .int .i64 0]) :
    Called Tryd.prog 10 [gridD size 3 data, dt', .int .i64 n, .slf 2 3 (frF q0 q1 q2)] (.bool true) := by
  have hl := locate_c size 3 data (v3L t) hs hd (by simp [v3L])
  rw [h] at hl
  clear h
  unfold gridD v3L at hl
  unfold frF frC at hl ⊢
  simp only [List.cons_append, List.nil_append] at hl ⊢
  unfold gridD
  have key : ∀ d, d = v3D t ∨ d = v3I t → Called Tryd.prog 10 [.agg [.ints .i64 size, .int .i64 3, .ints .i64 data], d, .int .i64 n, .slf 2 3 (fun j => List.take 2 (List.drop (j * 2) [.str (decZ q0.num), .str (dec q0.den), .str (decZ q1.num), .str (dec q1.den), .str (decZ q2.num), .str (dec q2.den)]))] (.bool true) := by
    intro d hd
    unfold v3D v3I at hd
    rcases hd with e | e
    all_goals subst e
    · refine called_of_run tbOk 6 ⟨Tryd.func10, rfl, rfl, Nat.le_of_ble_eq_true rfl⟩ ?_
      (conv => whnf)
      (conv => whnf)
      (try simp only [Nat.zero_add])
      repeat ((first | refine V.s1 ?_); (try simp only [Nat.zero_add]))
      refine ⟨(.take 0 (.take 1 (.ev (.cons 2 [] (.take 3 (.take 4 (.take 5 (.take 6 (.take 7 (.take 8 (.take 9 (.done)))))))) (.nil))))), ⟨by kernel_rfl, by kernel_rfl, by kernel_rfl⟩, .go ?_⟩
      (conv => whnf)
      (try simp only [Nat.zero_add, tn0, tn1, tn2, tn3])
      repeat ((first | refine V.s1 ?_ | ((try ((with_reducible refine .ext ?_); (conv => whnf); (try simp only [Nat.zero_add, tn0, tn1, tn2, tn3]))); (with_reducible refine call_intro (r := ?_) ?_ ?_); rotate_left; (focus (first | exact (hl))); (conv => whnf))); (try simp only [Nat.zero_add, tn0, tn1, tn2, tn3]))
      refine Cnd.split (CondB.mk (fun hq => ?_) (fun hq => ?_))
      · exfalso
        simp at hq
      (conv => whnf)
      (try simp only [Nat.zero_add])
      repeat ((first | refine V.s1 ?_); (try simp only [Nat.zero_add]))
      refine lp_any (0) (fun k => k ≤ 3) (fun k => 3 - k) (fun k => [(36, .int .i64 k)]) (fun k => []) ?_ ?_ ?_
      · exact V.wk
      · exact Nat.zero_le _
      intro k hk
      have hk4 : k = 0 ∨ k = 1 ∨ k = 2 ∨ k = 3 := by omega
      rcases hk4 with e | e | e | e
      · subst e
        (conv => whnf)
        (try simp only [Nat.zero_add, tn0, tn1, tn2, k0])
        repeat ((first | refine V.s1 ?_); (try simp only [Nat.zero_add, tn0, tn1, tn2, k0]))
        refine ⟨(.take 0 (.take 1 (.take 2 (.take 3 (.take 4 (.take 5 (.take 6 (.take 7 (.take 8 (.done)))))))))), ⟨by kernel_rfl, by kernel_rfl, by kernel_rfl⟩, .go ?_⟩
        (conv => whnf)
        (try simp only [Nat.zero_add, tn0, tn1, tn2, k0])
        repeat ((first | refine V.s1 ?_); (try simp only [Nat.zero_add, tn0, tn1, tn2, k0]))
        exact ⟨1, by omega, by omega, V.wk⟩
      · subst e
        (conv => whnf)
        (try simp only [Nat.zero_add, tn0, tn1, tn2, k1])
        repeat ((first | refine V.s1 ?_); (try simp only [Nat.zero_add, tn0, tn1, tn2, k1]))
        refine ⟨(.take 0 (.take 1 (.take 2 (.take 3 (.take 4 (.take 5 (.take 6 (.take 7 (.take 8 (.done)))))))))), ⟨by kernel_rfl, by kernel_rfl, by kernel_rfl⟩, .go ?_⟩
        (conv => whnf)
        (try simp only [Nat.zero_add, tn0, tn1, tn2, k1])
        repeat ((first | refine V.s1 ?_); (try simp only [Nat.zero_add, tn0, tn1, tn2, k1]))
        exact ⟨2, by omega, by omega, V.wk⟩
      · subst e
        (conv => whnf)
        (try simp only [Nat.zero_add, tn0, tn1, tn2, k2])
        repeat ((first | refine V.s1 ?_); (try simp only [Nat.zero_add, tn0, tn1, tn2, k2]))
        refine ⟨(.take 0 (.take 1 (.take 2 (.take 3 (.take 4 (.take 5 (.take 6 (.take 7 (.take 8 (.done)))))))))), ⟨by kernel_rfl, by kernel_rfl, by kernel_rfl⟩, .go ?_⟩
        (conv => whnf)
        (try simp only [Nat.zero_add, tn0, tn1, tn2, k2])
        repeat ((first | refine V.s1 ?_); (try simp only [Nat.zero_add, tn0, tn1, tn2, k2]))
        exact ⟨3, by omega, by omega, V.wk⟩
      · subst e
        (conv => whnf)
        (try simp only [Nat.zero_add, k3])
        repeat ((first | refine V.s1 ?_); (try simp only [Nat.zero_add, k3]))
        exact Fin.of rfl
    · refine called_of_run tbOk 6 ⟨Tryd.func10, rfl, rfl, Nat.le_of_ble_eq_true rfl⟩ ?_
      (conv => whnf)
      (conv => whnf)
      (try simp only [Nat.zero_add])
      repeat ((first | refine V.s1 ?_); (try simp only [Nat.zero_add]))
      refine ⟨(.take 0 (.take 1 (.ev (.cons 2 [] (.take 3 (.take 4 (.take 5 (.take 6 (.take 7 (.take 8 (.take 9 (.done)))))))) (.nil))))), ⟨by kernel_rfl, by kernel_rfl, by kernel_rfl⟩, .go ?_⟩
      (conv => whnf)
      (try simp only [Nat.zero_add, tn0, tn1, tn2, tn3])
      repeat ((first | refine V.s1 ?_ | ((try ((with_reducible refine .ext ?_); (conv => whnf); (try simp only [Nat.zero_add, tn0, tn1, tn2, tn3]))); (with_reducible refine call_intro (r := ?_) ?_ ?_); rotate_left; (focus (first | exact (hl))); (conv => whnf))); (try simp only [Nat.zero_add, tn0, tn1, tn2, tn3]))
      refine Cnd.split (CondB.mk (fun hq => ?_) (fun hq => ?_))
      · exfalso
        simp at hq
      (conv => whnf)
      (try simp only [Nat.zero_add])
      repeat ((first | refine V.s1 ?_); (try simp only [Nat.zero_add]))
      refine lp_any (0) (fun k => k ≤ 3) (fun k => 3 - k) (fun k => [(36, .int .i64 k)]) (fun k => []) ?_ ?_ ?_
      · exact V.wk
      · exact Nat.zero_le _
      intro k hk
      have hk4 : k = 0 ∨ k = 1 ∨ k = 2 ∨ k = 3 := by omega
      rcases hk4 with e | e | e | e
      · subst e
        (conv => whnf)
        (try simp only [Nat.zero_add, tn0, tn1, tn2, k0])
        repeat ((first | refine V.s1 ?_); (try simp only [Nat.zero_add, tn0, tn1, tn2, k0]))
        refine ⟨(.take 0 (.take 1 (.take 2 (.take 3 (.take 4 (.take 5 (.take 6 (.take 7 (.take 8 (.done)))))))))), ⟨by kernel_rfl, by kernel_rfl, by kernel_rfl⟩, .go ?_⟩
        (conv => whnf)
        (try simp only [Nat.zero_add, tn0, tn1, tn2, k0])
        repeat ((first | refine V.s1 ?_); (try simp only [Nat.zero_add, tn0, tn1, tn2, k0]))
        exact ⟨1, by omega, by omega, V.wk⟩
      · subst e
        (conv => whnf)
        (try simp only [Nat.zero_add, tn0, tn1, tn2, k1])
        repeat ((first | refine V.s1 ?_); (try simp only [Nat.zero_add, tn0, tn1, tn2, k1]))
        refine ⟨(.take 0 (.take 1 (.take 2 (.take 3 (.take 4 (.take 5 (.take 6 (.take 7 (.take 8 (.done)))))))))), ⟨by kernel_rfl, by kernel_rfl, by kernel_rfl⟩, .go ?_⟩
        (conv => whnf)
        (try simp only [Nat.zero_add, tn0, tn1, tn2, k1])
        repeat ((first | refine V.s1 ?_); (try simp only [Nat.zero_add, tn0, tn1, tn2, k1]))
        exact ⟨2, by omega, by omega, V.wk⟩
      · subst e
        (conv => whnf)
        (try simp only [Nat.zero_add, tn0, tn1, tn2, k2])
        repeat ((first | refine V.s1 ?_); (try simp only [Nat.zero_add, tn0, tn1, tn2, k2]))
        refine ⟨(.take 0 (.take 1 (.take 2 (.take 3 (.take 4 (.take 5 (.take 6 (.take 7 (.take 8 (.done)))))))))), ⟨by kernel_rfl, by kernel_rfl, by kernel_rfl⟩, .go ?_⟩
        (conv => whnf)
        (try simp only [Nat.zero_add, tn0, tn1, tn2, k2])
        repeat ((first | refine V.s1 ?_); (try simp only [Nat.zero_add, tn0, tn1, tn2, k2]))
        exact ⟨3, by omega, by omega, V.wk⟩
      · subst e
        (conv => whnf)
        (try simp only [Nat.zero_add, k3])
        repeat ((first | refine V.s1 ?_); (try simp only [Nat.zero_add, k3]))
        exact Fin.of rfl
  exact key dt' it
end Go.Proofs.YtlcaefokcnohnaaDoor
end
section
namespace Go.Proofs.YtlcaefokcnohnaaDoor
open Go Go.V Go.Nb
def fl7 (k : Nat) : List Int := List.replicate k 7 ++ cubeL.drop k
theorem fl7_len {k : Nat} (h : k ≤ 24) : (fl7 k).length = 24 := by
  unfold fl7
  simp [cubeL]
  omega
theorem fl7_set {k : Nat} (h : k < 24) : (fl7 k).set k 7 = fl7 (k + 1) := by
  unfold fl7
  rw [List.set_append_right _ _ (by simp), List.length_replicate, Nat.sub_self, List.replicate_succ', List.append_assoc]
  congr 1
  have hl : k < cubeL.length := by simpa [cubeL] using h
  rw [List.drop_eq_getElem_cons hl]
  rfl
theorem ex_none : locR (sz3 2 2 2) 3 (fl7 24) [7, 7, 7] = .tup [.nil, .int .i64 0, .int .i64 4] :=
  locR_none (t := (7, 7, 7)) (by decide +kernel) (by decide +kernel)
theorem ex_a : locR (sz3 2 2 2) 3 cubeL [0, 0, 65536] = .tup [.nil, .int .i64 0, .int .i64 2] := by
  have h : chk (sz3 2 2 2) 3 cubeL [0, 0, 65536] = 2 := by decide +kernel
  rw [locR_no (by rw [h]; decide), h]
theorem ex_b : locR (sz3 2 2 2) 3 cubeL [0, 0] = .tup [.nil, .int .i64 0, .int .i64 2] := by
  have h : chk (sz3 2 2 2) 3 cubeL [0, 0] = 2 := by decide +kernel
  rw [locR_no (by rw [h]; decide), h]
theorem ex_n : hdsR (sz3 2 2 2) 3 cubeL [0, 0, 0] = .tup [.int .i64 6, .int .i64 0] := by
  have h := hdsR_ok (s0 := 2) (s1 := 2) (s2 := 2) (data := cubeL) (t := (0, 0, 0)) (by decide +kernel)
  have e : cntN cubeL 2 2 (6 * cellsN 2 2 2) (0, 0, 0) = 6 := by decide +kernel
  rw [e] at h
  exact h
theorem ex_some {s0 s1 s2 n : Nat} {data : List Int} {t : V3} {a b e d : Int} {q0 q1 q2 : Rat} (h : chk (sz3 s0 s1 s2) 3 data (v3L t) = 0) (hf : fndN data s0 s1 s2 t = some n) (hr : hldN data s1 s2 n t = some (a, b, e, d))
    (h0 : frq (cellN s1 s2 n).1 (rs3 (n % 6) a b e).1 d s0 = q0) (h1 : frq (cellN s1 s2 n).2.1 (rs3 (n % 6) a b e).2.1 d s1 = q1) (h2 : frq (cellN s1 s2 n).2.2 (rs3 (n % 6) a b e).2.2 d s2 = q2) :
    locR (sz3 s0 s1 s2) 3 data (v3L t) = .tup [.slf 2 3 (frF q0 q1 q2), .int .i64 n, .int .i64 0] := by
  rw [locR_some h hf hr]
  unfold resF
  rw [h0, h1, h2]
theorem ex_f1 : locR (sz3 2 2 2) 3 cubeL (v3L (13107, 26214, 39321)) = .tup [.slf 2 3 (frF (Rat.divInt 1 5) (Rat.divInt 2 5) (Rat.divInt 3 5)), .int .i64 (5 : Nat), .int .i64 0] :=
  ex_some (a := 56292418401075) (b := 56292418401075) (e := 56292418401075) (d := 281462092005375) (by decide +kernel) (by decide +kernel) (by decide +kernel) (by decide +kernel) (by decide +kernel) (by decide +kernel)
theorem ex_f2 : locR (sz3 2 2 2) 3 cubeL (v3L (0, 0, 0)) = .tup [.slf 2 3 (frF (Rat.divInt 0 1) (Rat.divInt 0 1) (Rat.divInt 0 1)), .int .i64 (0 : Nat), .int .i64 0] :=
  ex_some (a := 0) (b := 0) (e := 0) (d := 281462092005375) (by decide +kernel) (by decide +kernel) (by decide +kernel) (by decide +kernel) (by decide +kernel) (by decide +kernel)
theorem ex_f3 : locR (sz3 2 2 2) 3 cubeL (v3L (65535, 1, 0)) = .tup [.slf 2 3 (frF (Rat.divInt 1 1) (Rat.divInt 1 65535) (Rat.divInt 0 1)), .int .i64 (0 : Nat), .int .i64 0] :=
  ex_some (a := 281457797169150) (b := 4294836225) (e := 0) (d := 281462092005375) (by decide +kernel) (by decide +kernel) (by decide +kernel) (by decide +kernel) (by decide +kernel) (by decide +kernel)
theorem zU27_0 : type_of% @List.cons_append.{0} ∧ type_of% @List.drop_zero.{0} ∧ type_of% @List.length_cons.{0} ∧ type_of% @List.length_nil.{0} ∧ type_of% @List.nil_append.{0} ∧ type_of% @List.take_succ_cons.{0} ∧ type_of% @List.take_zero.{0} ∧ type_of% @Nat.zero_add := ⟨@List.cons_append.{0}, @List.drop_zero.{0}, @List.length_cons.{0}, @List.length_nil.{0}, @List.nil_append.{0}, @List.take_succ_cons.{0}, @List.take_zero.{0}, @Nat.zero_add⟩
theorem zU27_1 : type_of% @List.drop_zero.{0} ∧ type_of% @Nat.zero_add ∧ type_of% @tn0 ∧ type_of% @tn1 ∧ type_of% @tn2 ∧ type_of% @tn3 := ⟨@List.drop_zero.{0}, @Nat.zero_add, @tn0, @tn1, @tn2, @tn3⟩
theorem works_c : Called Tryd.prog 6 [] (.bool true) := by
  have hcube := cube_c
  have l24 := fl7_len (k := 24) (Nat.le_refl _)
  have f1 := finds_yes (t := (13107, 26214, 39321)) (dt' := .agg [.int .i64 13107, .int .i64 26214, .int .i64 39321]) .agg (by decide) (by decide) ex_f1
  have f2 := finds_yes (t := (0, 0, 0)) (dt' := .agg [.int .i64 0, .int .i64 0, .int .i64 0]) .agg (by decide) (by decide) ex_f2
  have f3 := finds_yes (t := (65535, 1, 0)) (dt' := .agg [.int .i64 65535, .int .i64 1, .int .i64 0]) .agg (by decide) (by decide) ex_f3
  have o15 := lawof_c 1 5 (by omega) (by omega)
  have o25 := lawof_c 2 5 (by omega) (by omega)
  have o35 := lawof_c 3 5 (by omega) (by omega)
  have o01 := lawof_c 0 1 (by omega) (by omega)
  have o11 := lawof_c 1 1 (by omega) (by omega)
  have o1m := lawof_c 1 65535 (by omega) (by omega)
  have g1 := locate_c (sz3 2 2 2) 3 (fl7 24) [7, 7, 7] (by decide) (by omega) (by decide)
  rw [ex_none] at g1
  have g2 := locate_c (sz3 2 2 2) 3 cubeL [0, 0, 65536] (by decide) (by decide) (by decide)
  rw [ex_a] at g2
  have g3 := locate_c (sz3 2 2 2) 3 cubeL [0, 0] (by decide) (by decide) (by decide)
  rw [ex_b] at g3
  have g4 := holds_c (sz3 2 2 2) 3 cubeL [0, 0, 0] (by decide) (by decide) (by decide)
  rw [ex_n] at g4
  generalize Rat.divInt 1 5 = q15 at *
  generalize Rat.divInt 2 5 = q25 at *
  generalize Rat.divInt 3 5 = q35 at *
  generalize Rat.divInt 0 1 = q01 at *
  generalize Rat.divInt 1 1 = q11 at *
  generalize Rat.divInt 1 65535 = q1m at *
  unfold frF frC at f1 f2 f3
  unfold frC at o15 o25 o35 o01 o11 o1m
  simp only [List.cons_append, List.nil_append] at f1 f2 f3
  have hset := @fl7_set
  have hlen := @fl7_len
  have h0 : cubeL = fl7 0 := rfl
  unfold gridD sz3 at hcube g1 g2 g3 g4 f1 f2 f3
  obtain ⟨c24, hc24⟩ : ∃ c, cubeL = c := ⟨_, rfl⟩
  rw [hc24] at hcube g2 g3 g4 f1 f2 f3
  refine called_of_run tbOk 6 ⟨Tryd.func6, rfl, rfl, Nat.le_of_ble_eq_true rfl⟩ ?_
  (conv => whnf)
  (conv => whnf)
  (try simp only [Nat.zero_add])
  repeat ((first | refine V.s1 ?_); (try simp only [Nat.zero_add]))
  refine .ext ?_
  (conv => whnf)
  refine call_intro (r := ?_) ?_ ?_
  rotate_left
  · exact hcube
  (conv => whnf)
  (conv => whnf)
  (try simp only [Nat.zero_add])
  repeat ((first | refine V.s1 ?_); (try simp only [Nat.zero_add]))
  refine .inl ?_
  (conv => whnf)
  refine ⟨0, _, _, ⟨Tryd.func9, rfl, rfl, Nat.le_of_ble_eq_true rfl⟩, ?_⟩
  (conv => whnf)
  (conv => whnf)
  (try simp only [Nat.zero_add])
  repeat ((first | refine V.s1 ?_); (try simp only [Nat.zero_add]))
  refine Lp.ghostBox 124 104 2 .i64 (by decide) (by decide) ?_
  (conv => whnf)
  refine lp_any (0) (fun k => k ≤ 8) (fun k => 8 - k) (fun k => [(5, .int .i64 k)]) (fun k => [(104, .box [.osl 106 0 3, .int .i64 3, .osl 124 0 (3 * k)]), (124, .arr .i64 (cubeK k))]) ?_ ?_ ?_
  · exact V.wk
  · exact Nat.zero_le _
  intro k hk
  have hk9 : k = 0 ∨ k = 1 ∨ k = 2 ∨ k = 3 ∨ k = 4 ∨ k = 5 ∨ k = 6 ∨ k = 7 ∨ k = 8 := by omega
  rcases hk9 with e | e | e | e | e | e | e | e | e
  · subst e
    rw [show cubeK 0 = ([] : List Int) from rfl, show 3 * 0 = 0 from rfl]
    simp only [k0]
    (conv => whnf)
    (try simp only [zU27_0])
    repeat ((first | refine V.s1 ?_); (try simp only [zU27_0]))
    try refine And.intro (fun _ => ⟨rfl, by simp⟩) ?_
    (conv => whnf)
    (try simp only [zU27_0])
    repeat ((first | refine V.s1 ?_); (try simp only [zU27_0]))
    exact ⟨1, by omega, by omega, V.wk⟩
  · subst e
    rw [show cubeK 1 = [0, 0, 0] from rfl, show 3 * 1 = 3 from rfl]
    simp only [k1]
    (conv => whnf)
    (try simp only [zU27_0])
    repeat ((first | refine V.s1 ?_); (try simp only [zU27_0]))
    try refine And.intro (fun _ => ⟨rfl, by simp⟩) ?_
    (conv => whnf)
    (try simp only [zU27_0])
    repeat ((first | refine V.s1 ?_); (try simp only [zU27_0]))
    exact ⟨2, by omega, by omega, V.wk⟩
  · subst e
    rw [show cubeK 2 = [0, 0, 0, 0, 0, 65535] from rfl, show 3 * 2 = 6 from rfl]
    simp only [k2]
    (conv => whnf)
    (try simp only [zU27_0])
    repeat ((first | refine V.s1 ?_); (try simp only [zU27_0]))
    try refine And.intro (fun _ => ⟨rfl, by simp⟩) ?_
    (conv => whnf)
    (try simp only [zU27_0])
    repeat ((first | refine V.s1 ?_); (try simp only [zU27_0]))
    exact ⟨3, by omega, by omega, V.wk⟩
  · subst e
    rw [show cubeK 3 = [0, 0, 0, 0, 0, 65535, 0, 65535, 0] from rfl, show 3 * 3 = 9 from rfl]
    simp only [k3]
    (conv => whnf)
    (try simp only [zU27_0])
    repeat ((first | refine V.s1 ?_); (try simp only [zU27_0]))
    try refine And.intro (fun _ => ⟨rfl, by simp⟩) ?_
    (conv => whnf)
    (try simp only [zU27_0])
    repeat ((first | refine V.s1 ?_); (try simp only [zU27_0]))
    exact ⟨4, by omega, by omega, V.wk⟩
  · subst e
    rw [show cubeK 4 = [0, 0, 0, 0, 0, 65535, 0, 65535, 0, 0, 65535, 65535] from rfl, show 3 * 4 = 12 from rfl]
    simp only [k4]
    (conv => whnf)
    (try simp only [zU27_0])
    repeat ((first | refine V.s1 ?_); (try simp only [zU27_0]))
    try refine And.intro (fun _ => ⟨rfl, by simp⟩) ?_
    (conv => whnf)
    (try simp only [zU27_0])
    repeat ((first | refine V.s1 ?_); (try simp only [zU27_0]))
    exact ⟨5, by omega, by omega, V.wk⟩
  · subst e
    rw [show cubeK 5 = [0, 0, 0, 0, 0, 65535, 0, 65535, 0, 0, 65535, 65535, 65535, 0, 0] from rfl, show 3 * 5 = 15 from rfl]
    simp only [k5]
    (conv => whnf)
    (try simp only [zU27_0])
    repeat ((first | refine V.s1 ?_); (try simp only [zU27_0]))
    try refine And.intro (fun _ => ⟨rfl, by simp⟩) ?_
    (conv => whnf)
    (try simp only [zU27_0])
    repeat ((first | refine V.s1 ?_); (try simp only [zU27_0]))
    exact ⟨6, by omega, by omega, V.wk⟩
  · subst e
    rw [show cubeK 6 = [0, 0, 0, 0, 0, 65535, 0, 65535, 0, 0, 65535, 65535, 65535, 0, 0, 65535, 0, 65535] from rfl, show 3 * 6 = 18 from rfl]
    simp only [k6]
    (conv => whnf)
    (try simp only [zU27_0])
    repeat ((first | refine V.s1 ?_); (try simp only [zU27_0]))
    try refine And.intro (fun _ => ⟨rfl, by simp⟩) ?_
    (conv => whnf)
    (try simp only [zU27_0])
    repeat ((first | refine V.s1 ?_); (try simp only [zU27_0]))
    exact ⟨7, by omega, by omega, V.wk⟩
  · subst e
    rw [show cubeK 7 = [0, 0, 0, 0, 0, 65535, 0, 65535, 0, 0, 65535, 65535, 65535, 0, 0, 65535, 0, 65535, 65535, 65535, 0] from rfl, show 3 * 7 = 21 from rfl]
    simp only [k7]
    (conv => whnf)
    (try simp only [zU27_0])
    repeat ((first | refine V.s1 ?_); (try simp only [zU27_0]))
    try refine And.intro (fun _ => ⟨rfl, by simp⟩) ?_
    (conv => whnf)
    (try simp only [zU27_0])
    repeat ((first | refine V.s1 ?_); (try simp only [zU27_0]))
    exact ⟨8, by omega, by omega, V.wk⟩
  subst e
  have e8 : cubeK 8 = fl7 0 := rfl
  rw [e8]
  (conv => whnf)
  (try simp only [Nat.zero_add, k8])
  repeat ((first | refine V.s1 ?_); (try simp only [Nat.zero_add, k8]))
  refine lp_any (0) (fun k => k ≤ 24) (fun k => 24 - k) (fun k => [(21, .int .i64 k)]) (fun k => [(124, .arr .i64 (fl7 k))]) ?_ ?_ ?_
  · exact V.wk
  · exact Nat.zero_le _
  intro k hk
  have hlk := hlen hk
  (conv => whnf)
  (try simp only [Nat.zero_add])
  repeat ((first | refine V.s1 ?_); (try simp only [Nat.zero_add]))
  refine Cnd.split (CondB.mk (fun hq => ?_) (fun hq => ?_))
  · have hk2 : k < 24 := by
      simp at hq
      omega
    have hs := hset hk2
    (conv => whnf)
    (try simp only [Nat.zero_add, Int.toNat_natCast, hs])
    repeat ((first | refine V.s1 ?_); (try simp only [Nat.zero_add, Int.toNat_natCast, hs]))
    exact ⟨k + 1, by omega, by omega, V.wk⟩
  have hk2 : k = 24 := by
    simp at hq
    omega
  subst hk2
  have ht1 : List.take 24 (fl7 24) = fl7 24 := List.take_of_length_le (by omega)
  have ht2 : List.take (3 * 8) (fl7 24) = fl7 24 := List.take_of_length_le (by omega)
  (conv => whnf)
  (try simp only [zU27_1, ht1, ht2])
  repeat ((first | refine V.s1 ?_ | ((try ((with_reducible refine .ext ?_); (conv => whnf); (try simp only [zU27_1, ht1, ht2]))); (with_reducible refine call_intro (r := ?_) ?_ ?_); rotate_left; (focus (first | exact (g1) | exact (g2) | exact (g3) | exact (g4))); (conv => whnf))); (try simp only [zU27_1, ht1, ht2]))
  refine ⟨(.take 0 (.take 1 (.ev (.cons 2 [1, 0] (.ev (.cons 3 [1, 0] (.ev (.cons 4 [1, 0] (.ev (.cons 5 [1, 0] (.ev (.cons 6 [] (.take 7 (.take 8 (.take 9 (.ev (.cons 10 [9, 8] (.ev (.cons 11 [9, 8] (.ev (.cons 12 [9, 8] (.ev (.cons 13 [9, 8] (.ev (.cons 14 [] (.take 15 (.take 16 (.take 17 (.take 18 (.ev (.cons 19 [18, 17] (.ev (.cons 20 [18, 17] (.ev (.cons 21 [18, 17] (.ev (.cons 22 [18, 17] (.ev (.cons 23 [] (.take 24 (.take 25 (.done))) (.nil))) (.nil))) (.nil))) (.nil))) (.nil))))))) (.nil))) (.nil))) (.nil))) (.nil))) (.nil)))))) (.nil))) (.nil))) (.nil))) (.nil))) (.nil))))), ⟨by kernel_rfl, by kernel_rfl, by kernel_rfl⟩, ?_⟩
  refine drw_meet [(15, .bool true)] [] ?_ ?_
  · (conv => whnf); (try simp only [zU27_1, ht1, ht2])
    repeat' (first | exact V.wk | ((first | refine V.s1 ?_ | ((with_reducible refine recheck_and ?_ ?_); (focus ((conv => whnf); (try simp only [zU27_1, ht1, ht2]); (repeat (refine V.s1 ?_; (try simp only [zU27_1, ht1, ht2]))); exact ⟨rfl⟩)); (conv => whnf)) | ((try ((with_reducible refine .ext ?_); (conv => whnf); (try simp only [zU27_1, ht1, ht2]))); (with_reducible refine call_intro (r := ?_) ?_ ?_); rotate_left; (focus (first | exact (o15) | exact (o25) | exact (o35) | exact (o01) | exact (o11) | exact (o1m) | exact (f1) | exact (f2) | exact (f3))); (conv => whnf))); (try simp only [zU27_1, ht1, ht2])) | (refine And.intro ?_ ?_ <;> (conv => whnf); (try simp only [zU27_1, ht1, ht2])))
  (conv => whnf)
  (try simp only [Nat.zero_add])
  repeat ((first | refine V.s1 ?_); (try simp only [Nat.zero_add]))
  exact Fin.of rfl
end Go.Proofs.YtlcaefokcnohnaaDoor
end
