/- What some functions of the program answer at values that mean given lists, texts and numbers, each proved of the program's own code: part 7 of 7. Conditions: those that each theorem names. -/
import Derived.Test.YtoiaoofgnnhocaaGreatDoorG6
set_option linter.unusedSimpArgs false
set_option linter.unusedVariables false
section
/-! law BandClamps -/
set_option linter.unusedSimpArgs false
set_option linter.unusedVariables false
set_option maxHeartbeats 8000000
set_option maxRecDepth 100000
namespace Go.Proofs.YtoiaoofgnnhocaaGreatDoor
open Go Go.V Go.Nb
/-- scaling by k / l, and back -/
theorem scale_there {p q k l : Int} (hp : -19000002000000 ≤ p ∧ p ≤ q ∧ q ≤ 19000002000000) (hk : 1 ≤ k ∧ k ≤ 50000) (hl : 1 ≤ l ∧ l ≤ 50000) :
    sclR p q k l = (flo (p * k) l, cei (q * k) l, 0) ∧ vb (flo (p * k) l) (cei (q * k) l) = true ∧ sclR (flo (p * k) l) (cei (q * k) l) l k = (flo (flo (p * k) l * l) k, cei (cei (q * k) l * l) k, 0) ∧ flo (flo (p * k) l * l) k ≤ p ∧ q ≤ cei (cei (q * k) l * l) k := by
  have e1 : p * k ≤ q * k := Int.mul_le_mul_of_nonneg_right hp.2.1 (by omega)
  have b1 : -19000002000000 * k ≤ p * k := Int.mul_le_mul_of_nonneg_right hp.1 (by omega)
  have b2 : q * k ≤ 19000002000000 * k := Int.mul_le_mul_of_nonneg_right hp.2.2 (by omega)
  have f1 := flo_bd (z := p * k) (d := l) (m := 1000000000000000000) hl.1 (by omega) (by omega)
  have f2 := cei_bd (z := q * k) (d := l) (m := 1000000000000000000) hl.1 (by omega) (by omega)
  have f3 := flo_mono (d := l) (by omega) e1
  have f4 := flo_le_cei (q * k) l (by omega)
  have m1 := flo_mul (z := p * k) (d := l) (by omega)
  have m2 := cei_mul (z := q * k) (d := l) (by omega)
  have s1 : sclR p q k l = (flo (p * k) l, cei (q * k) l, 0) := by
    rw [sclR_pos hp.2.1 (by omega) (by omega)]
    exact mk_ok (by omega)
  have hle : flo (p * k) l ≤ cei (q * k) l := by omega
  have v1 : vb (flo (p * k) l) (cei (q * k) l) = true := vb_iff.2 (by omega)
  have hc1 : flo (flo (p * k) l * l) k ≤ flo (p * k) k := flo_mono (by omega) m1.1
  have hc2 : cei (q * k) k ≤ cei (cei (q * k) l * l) k := cei_mono (by omega) m2.1
  rw [flo_self (by omega)] at hc1
  rw [cei_self (by omega)] at hc2
  refine ⟨s1, v1, ?_, hc1, hc2⟩
  rw [sclR_pos hle (by omega) (by omega)]
  have g1 := flo_bd (z := flo (p * k) l * l) (d := k) (m := 1000000000000000000) hk.1 (by omega) (by omega)
  have g2 := cei_bd (z := cei (q * k) l * l) (d := k) (m := 1000000000000000000) hk.1 (by omega) (by omega)
  exact mk_ok (by omega)
theorem scale_same {p q k : Int} (hp : -19000002000000 ≤ p ∧ p ≤ q ∧ q ≤ 19000002000000) (hk : 1 ≤ k) : sclR p q k k = (p, q, 0) := by
  rw [sclR_pos hp.2.1 (by omega) (by omega), flo_self (by omega), cei_self (by omega)]
  exact mk_ok (by omega)
theorem bandClamps_c (a w a2 w2 n d : Int) (hn : 0 ≤ n) (hd : 0 ≤ d) : Called Tryz.prog 5 [.agg [.int .i64 a, .int .u32 w], .agg [.int .i64 a2, .int .u32 w2], .int .u16 n, .int .u16 d] (.bool true) := by
  have c0 := works_c
  have c1 := smallD_c a w
  have c2 := smallD_c a2 w2
  have hp := sm_bd a w
  have hq := sm_bd a2 w2
  generalize smL a = p at *
  generalize smH a w = q at *
  generalize smL a2 = p2 at *
  generalize smH a2 w2 = q2 at *
  have hv : vb p q = true := vb_iff.2 (by omega)
  have hv2 : vb p2 q2 = true := vb_iff.2 (by omega)
  obtain ⟨k, hk⟩ : ∃ k, 1 + n % 50000 = k := ⟨_, rfl⟩
  obtain ⟨l, hl⟩ : ∃ l, 1 + d % 50000 = l := ⟨_, rfl⟩
  obtain ⟨t1, t2, t3, t4, t5⟩ := scale_there (p := p) (q := q) (k := k) (l := l) (by omega) (by omega) (by omega)
  have t6 := scale_same (p := p) (q := q) (k := k) (by omega) (by omega)
  have s1 := scale_b p q k l
  rw [if_pos hv, if_pos (by omega), t1] at s1
  have s2 := scale_b (flo (p * k) l) (cei (q * k) l) l k
  rw [if_pos t2, if_pos (by omega), t3] at s2
  have s3 := scale_b p q k k
  rw [if_pos hv, if_pos (by omega), t6] at s3
  have i2 := inside_yes t4 t5
  have hcl : min (max p p2) q2 ≤ min (max q p2) q2 := by omega
  have cl := clamp_b p q p2 q2
  rw [if_pos hv, if_pos hv2, mk_ok (by omega)] at cl
  have i1 : Called Tryz.prog 26 [bA (min (max p p2) q2) (min (max q p2) q2), bA p2 q2] (.bool true) := inside_yes (by omega) (by omega)
  have me := meet_b p q p2 q2
  rw [if_pos ⟨hv, hv2⟩] at me
  generalize flo (flo (p * k) l * l) k = r1 at *
  generalize cei (cei (q * k) l * l) k = r2 at *
  generalize flo (p * k) l = u1 at *
  generalize cei (q * k) l = u2 at *
  clear t1 t2 t3 t4 t5 t6
  by_cases hm : min q q2 < max p p2 ∧ ¬ (p = p2 ∧ q = q2)
  · rw [if_neg hm.2, if_pos hm.1] at me
    have e : min (max p p2) q2 = min (max q p2) q2 := by omega
    rw [← e] at cl i1
    generalize min (max p p2) q2 = x at *
    refine called_of_run tbOk 6 ⟨Tryz.func5, rfl, rfl, Nat.le_of_ble_eq_true rfl⟩ ?_
    (conv => whnf)
    refine V.st ?_
    repeat ((try ((with_reducible refine .ext ?_); (conv => whnf))); (with_reducible refine call_intro (r := ?_) ?_ ?_); rotate_left; (focus (first | exact (c0))); (conv => whnf); refine V.st ?_)
    refine ⟨(.take 0 (.take 2 (.ev (.cons 1 [2] (.ev (.cons 3 [] (.ev (.cons 4 [] (.ev (.cons 5 [] (.ev (.cons 6 [] (.ev (.cons 7 [] (.done) (.nil))) (.nil))) (.nil))) (.cons 5 [] (.ev (.cons 4 [] (.ev (.cons 6 [] (.ev (.cons 7 [] (.done) (.nil))) (.nil))) (.nil))) (.nil)))) (.cons 4 [2] (.ev (.cons 3 [] (.ev (.cons 5 [] (.ev (.cons 6 [] (.ev (.cons 7 [] (.done) (.nil))) (.nil))) (.nil))) (.cons 5 [2] (.ev (.cons 3 [] (.ev (.cons 6 [] (.ev (.cons 7 [] (.done) (.nil))) (.nil))) (.nil))) (.nil)))) (.cons 5 [2] (.ev (.cons 3 [] (.ev (.cons 4 [] (.ev (.cons 6 [] (.ev (.cons 7 [] (.done) (.nil))) (.nil))) (.nil))) (.cons 4 [2] (.ev (.cons 3 [] (.ev (.cons 6 [] (.ev (.cons 7 [] (.done) (.nil))) (.nil))) (.nil))) (.nil)))) (.nil))))) (.cons 4 [2, 0] (.ev (.cons 1 [2] (.ev (.cons 3 [] (.ev (.cons 5 [] (.ev (.cons 6 [] (.ev (.cons 7 [] (.done) (.nil))) (.nil))) (.nil))) (.cons 5 [2] (.ev (.cons 3 [] (.ev (.cons 6 [] (.ev (.cons 7 [] (.done) (.nil))) (.nil))) (.nil))) (.nil)))) (.cons 5 [2, 0] (.ev (.cons 1 [2] (.ev (.cons 3 [] (.ev (.cons 6 [] (.ev (.cons 7 [] (.done) (.nil))) (.nil))) (.nil))) (.nil))) (.nil)))) (.cons 5 [2, 0] (.ev (.cons 1 [2] (.ev (.cons 3 [] (.ev (.cons 4 [] (.ev (.cons 6 [] (.ev (.cons 7 [] (.done) (.nil))) (.nil))) (.nil))) (.cons 4 [2] (.ev (.cons 3 [] (.ev (.cons 6 [] (.ev (.cons 7 [] (.done) (.nil))) (.nil))) (.nil))) (.nil)))) (.cons 4 [2, 0] (.ev (.cons 1 [2] (.ev (.cons 3 [] (.ev (.cons 6 [] (.ev (.cons 7 [] (.done) (.nil))) (.nil))) (.nil))) (.nil))) (.nil)))) (.nil))))))), ⟨by kernel_rfl, by kernel_rfl, by kernel_rfl⟩, ?_⟩
    refine drw_meet [(9, .box 9 0), (10, .box 10 0)] [(9, .box [.int .i64 p, .int .i64 q]), (10, .box [.int .i64 p2, .int .i64 q2])] ?_ ?_
    · (conv => whnf); (try simp only [Nat.zero_add])
      repeat' (first | exact V.wk | (refine V.s1 ?_; (try simp only [Nat.zero_add])) | ((with_reducible refine recheck_and ?_ ?_); (focus ((conv => whnf); (try simp only [Nat.zero_add]); (repeat (refine V.s1 ?_; (try simp only [Nat.zero_add]))); exact ⟨rfl⟩)); (conv => whnf); (try simp only [Nat.zero_add])) | ((try ((with_reducible refine .ext ?_); (conv => whnf); (try simp only [Nat.zero_add]))); (with_reducible refine call_intro (r := ?_) ?_ ?_); rotate_left; (focus (first | exact (c1) | exact (c2))); (conv => whnf); (try simp only [Nat.zero_add])) | (refine And.intro ?_ ?_ <;> (conv => whnf); (try simp only [Nat.zero_add])))
    (conv => whnf)
    refine V.st ?_
    repeat ((try ((with_reducible refine .ext ?_); (conv => whnf))); (with_reducible refine call_intro (r := ?_) ?_ ?_); rotate_left; (focus (first | exact (cl) | exact (me) | exact (i1))); (conv => whnf); refine V.st ?_)
    refine Cnd.split (CondB.mk (fun g1 => ?_) (fun g1 => ?_))
    · simp at g1
    · (conv => whnf)
      (try simp only [hk, hl])
      repeat (first | (refine V.s1 ?_; (try simp only [hk, hl])) | ((with_reducible refine recheck_and ?_ ?_); (focus ((conv => whnf); (try simp only [hk, hl]); (repeat (refine V.s1 ?_; (try simp only [hk, hl]))); exact ⟨rfl⟩)); (conv => whnf); (try simp only [hk, hl])) | ((try ((with_reducible refine .ext ?_); (conv => whnf); (try simp only [hk, hl]))); (with_reducible refine call_intro (r := ?_) ?_ ?_); rotate_left; (focus (first | exact (s1) | exact (s2) | exact (s3) | exact (i2))); (conv => whnf); (try simp only [hk, hl])))
      exact Fin.of (by simp)
  · have me : Called Tryz.prog 16 [bA p q, bA p2 q2] (bD (min (max p p2) q2, min (max q p2) q2, 0)) := by
      by_cases he : p = p2 ∧ q = q2
      · rw [if_pos he] at me
        rw [show min (max p p2) q2 = p by omega, show min (max q p2) q2 = q by omega]
        exact me
      · rw [if_neg he, if_neg (fun h => hm ⟨h, he⟩)] at me
        rw [show min (max p p2) q2 = max p p2 by omega, show min (max q p2) q2 = min q q2 by omega]
        exact me
    generalize min (max p p2) q2 = x at *
    generalize min (max q p2) q2 = y at *
    refine called_of_run tbOk 6 ⟨Tryz.func5, rfl, rfl, Nat.le_of_ble_eq_true rfl⟩ ?_
    (conv => whnf)
    refine V.st ?_
    repeat ((try ((with_reducible refine .ext ?_); (conv => whnf))); (with_reducible refine call_intro (r := ?_) ?_ ?_); rotate_left; (focus (first | exact (c0))); (conv => whnf); refine V.st ?_)
    refine ⟨(.take 0 (.take 2 (.ev (.cons 1 [2] (.ev (.cons 3 [] (.ev (.cons 4 [] (.ev (.cons 5 [] (.ev (.cons 6 [] (.ev (.cons 7 [] (.done) (.nil))) (.nil))) (.nil))) (.cons 5 [] (.ev (.cons 4 [] (.ev (.cons 6 [] (.ev (.cons 7 [] (.done) (.nil))) (.nil))) (.nil))) (.nil)))) (.cons 4 [2] (.ev (.cons 3 [] (.ev (.cons 5 [] (.ev (.cons 6 [] (.ev (.cons 7 [] (.done) (.nil))) (.nil))) (.nil))) (.cons 5 [2] (.ev (.cons 3 [] (.ev (.cons 6 [] (.ev (.cons 7 [] (.done) (.nil))) (.nil))) (.nil))) (.nil)))) (.cons 5 [2] (.ev (.cons 3 [] (.ev (.cons 4 [] (.ev (.cons 6 [] (.ev (.cons 7 [] (.done) (.nil))) (.nil))) (.nil))) (.cons 4 [2] (.ev (.cons 3 [] (.ev (.cons 6 [] (.ev (.cons 7 [] (.done) (.nil))) (.nil))) (.nil))) (.nil)))) (.nil))))) (.cons 4 [2, 0] (.ev (.cons 1 [2] (.ev (.cons 3 [] (.ev (.cons 5 [] (.ev (.cons 6 [] (.ev (.cons 7 [] (.done) (.nil))) (.nil))) (.nil))) (.cons 5 [2] (.ev (.cons 3 [] (.ev (.cons 6 [] (.ev (.cons 7 [] (.done) (.nil))) (.nil))) (.nil))) (.nil)))) (.cons 5 [2, 0] (.ev (.cons 1 [2] (.ev (.cons 3 [] (.ev (.cons 6 [] (.ev (.cons 7 [] (.done) (.nil))) (.nil))) (.nil))) (.nil))) (.nil)))) (.cons 5 [2, 0] (.ev (.cons 1 [2] (.ev (.cons 3 [] (.ev (.cons 4 [] (.ev (.cons 6 [] (.ev (.cons 7 [] (.done) (.nil))) (.nil))) (.nil))) (.cons 4 [2] (.ev (.cons 3 [] (.ev (.cons 6 [] (.ev (.cons 7 [] (.done) (.nil))) (.nil))) (.nil))) (.nil)))) (.cons 4 [2, 0] (.ev (.cons 1 [2] (.ev (.cons 3 [] (.ev (.cons 6 [] (.ev (.cons 7 [] (.done) (.nil))) (.nil))) (.nil))) (.nil))) (.nil)))) (.nil))))))), ⟨by kernel_rfl, by kernel_rfl, by kernel_rfl⟩, ?_⟩
    refine drw_meet [(9, .box 9 0), (10, .box 10 0)] [(9, .box [.int .i64 p, .int .i64 q]), (10, .box [.int .i64 p2, .int .i64 q2])] ?_ ?_
    · (conv => whnf); (try simp only [Nat.zero_add])
      repeat' (first | exact V.wk | (refine V.s1 ?_; (try simp only [Nat.zero_add])) | ((with_reducible refine recheck_and ?_ ?_); (focus ((conv => whnf); (try simp only [Nat.zero_add]); (repeat (refine V.s1 ?_; (try simp only [Nat.zero_add]))); exact ⟨rfl⟩)); (conv => whnf); (try simp only [Nat.zero_add])) | ((try ((with_reducible refine .ext ?_); (conv => whnf); (try simp only [Nat.zero_add]))); (with_reducible refine call_intro (r := ?_) ?_ ?_); rotate_left; (focus (first | exact (c1) | exact (c2))); (conv => whnf); (try simp only [Nat.zero_add])) | (refine And.intro ?_ ?_ <;> (conv => whnf); (try simp only [Nat.zero_add])))
    (conv => whnf)
    refine V.st ?_
    repeat ((try ((with_reducible refine .ext ?_); (conv => whnf))); (with_reducible refine call_intro (r := ?_) ?_ ?_); rotate_left; (focus (first | exact (cl) | exact (me) | exact (i1))); (conv => whnf); refine V.st ?_)
    refine Cnd.split (CondB.mk (fun g1 => ?_) (fun g1 => ?_))
    · simp at g1
    · (conv => whnf)
      (try simp only [hk, hl])
      repeat (first | (refine V.s1 ?_; (try simp only [hk, hl])) | ((with_reducible refine recheck_and ?_ ?_); (focus ((conv => whnf); (try simp only [hk, hl]); (repeat (refine V.s1 ?_; (try simp only [hk, hl]))); exact ⟨rfl⟩)); (conv => whnf); (try simp only [hk, hl])) | ((try ((with_reducible refine .ext ?_); (conv => whnf); (try simp only [hk, hl]))); (with_reducible refine call_intro (r := ?_) ?_ ?_); rotate_left; (focus (first | exact (s1) | exact (s2) | exact (s3) | exact (i2))); (conv => whnf); (try simp only [hk, hl])))
      exact Fin.of (by simp)
end Go.Proofs.YtoiaoofgnnhocaaGreatDoor
end
