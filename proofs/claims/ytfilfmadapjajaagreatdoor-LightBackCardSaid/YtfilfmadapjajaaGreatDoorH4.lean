/- What some functions of the program answer at values that mean given lists, texts and numbers, each proved of the program's own code: part 4. Conditions: those that each theorem names. -/
import Derived.Test.YtfilfmadapjajaaGreatDoorH3
import Derived.Test.YtfilfmadapjajaaGreatDoorH2
import Derived.Test.YtfilfmadapjajaaGreatDoorH1
import Derived.WalkKit
import Derived.BigCall
import Derived.Defers
import Derived.Recover
import Derived.Laws.Pointers
set_option linter.unusedSimpArgs false
set_option linter.unusedVariables false
set_option maxHeartbeats 8000000
set_option maxRecDepth 100000
section
namespace Go.Proofs.YtfilfmadapjajaaGreatDoor
open Go Go.V Go.Nb
theorem off {p : Go.Program} {f : Nat} {ys : List D} {c : Bool} (hc : c = false) : c = true → Called p f ys (.int .i64 0) := fun h => by rw [hc] at h; cases h
def okP (s t : List UInt8) : Bool := okW s && okW t && decide (0 < wval t) && decide (Nat.gcd (wval s).natAbs (wval t).natAbs = 1)
def qv (s t : List UInt8) : Rat := Rat.divInt (wval s) (wval t)
theorem okP_of {s t : List UInt8} (h : okP s t = true) : okW s = true ∧ okW t = true ∧ 0 < wval t ∧ Nat.gcd (wval s).natAbs (wval t).natAbs = 1 := by
  unfold okP at h
  simp only [Bool.and_eq_true, decide_eq_true_eq] at h
  exact ⟨h.1.1.1, h.1.1.2, h.1.2, h.2⟩
theorem qv_parts {s t : List UInt8} (h : okP s t = true) : (qv s t).num = wval s ∧ (qv s t).den = (wval t).natAbs := by
  obtain ⟨h1, h2, h3, h4⟩ := okP_of h
  have e : qv s t = Rat.divInt (wval s) ((wval t).natAbs : Nat) := by unfold qv; congr 1; omega
  rw [e]
  exact divInt_cop _ _ (by omega) h4
theorem qv_size {s t : List UInt8} (h : okP s t = true) : Q9 67 (qv s t) := by
  obtain ⟨h1, h2, h3, h4⟩ := okP_of h
  obtain ⟨p1, p2⟩ := qv_parts h
  exact ⟨by rw [p1]; exact len9 (okW_len h1).2, by rw [p2]; exact len9 (okW_len h2).2⟩
theorem rtD_qv {s t : List UInt8} (h : okP s t = true) : rtD (qv s t) = .agg [.ints .u32 (mg 1000000000 (wval s).natAbs), .bool (decide (wval s < 0)), .ints .u32 (mg 1000000000 (wval t).natAbs)] := by
  obtain ⟨p1, p2⟩ := qv_parts h
  unfold rtD
  rw [p1, p2]
theorem read_ok (s t : List UInt8) (h : okP s t = true) : Called Tryz.prog 83 [.agg [.str s, .str t]] (.tup [rtD (qv s t), .bool true]) := by
  obtain ⟨h1, h2, h3, h4⟩ := okP_of h
  have l1 := okW_len h1
  have l2 := okW_len h2
  have k1 := len9 l1.2
  have k2 := len9 l2.2
  have c1 := wcheck_c s (by omega)
  have c2 := wcheck_c t (by omega)
  rw [h1, if_pos rfl] at c1
  rw [h2, if_pos rfl] at c2
  have n1 := number_c s h1
  have n2 := number_c t h2
  have s1 := sign_c (wval t)
  rw [Int.sign_eq_one_of_pos h3] at s1
  have g1 := gcd_c (wval s).natAbs (wval t).natAbs (by omega) (by omega)
  rw [h4] at g1
  have o1 := compare_c 1 1 (by decide) (by decide)
  rw [rtD_qv h]
  refine called_of_run tbOk 6 ⟨Tryz.func83, rfl, rfl, Nat.le_of_ble_eq_true rfl⟩ ?_
  (conv => whnf)
  refine V.st ?_
  repeat ((try ((with_reducible refine .ext ?_); (conv => whnf))); (with_reducible refine call_intro (r := ?_) ?_ ?_); rotate_left; (focus (first | exact (c1) | exact (c2))); (conv => whnf); refine V.st ?_)
  refine ⟨(.take 0 (.take 1 (.take 3 (.take 4 (.ev (.cons 2 [4, 3] (.ev (.cons 5 [] (.ev (.cons 6 [] (.ev (.cons 7 [] (.ev (.cons 8 [] (.ev (.cons 9 [] (.done) (.nil))) (.nil))) (.nil))) (.cons 7 [] (.ev (.cons 6 [] (.ev (.cons 8 [] (.ev (.cons 9 [] (.done) (.nil))) (.nil))) (.nil))) (.nil)))) (.cons 6 [4, 3] (.ev (.cons 5 [] (.ev (.cons 7 [] (.ev (.cons 8 [] (.ev (.cons 9 [] (.done) (.nil))) (.nil))) (.nil))) (.cons 7 [4, 3] (.ev (.cons 5 [] (.ev (.cons 8 [] (.ev (.cons 9 [] (.done) (.nil))) (.nil))) (.nil))) (.nil)))) (.cons 7 [4, 3] (.ev (.cons 5 [] (.ev (.cons 6 [] (.ev (.cons 8 [] (.ev (.cons 9 [] (.done) (.nil))) (.nil))) (.nil))) (.cons 6 [4, 3] (.ev (.cons 5 [] (.ev (.cons 8 [] (.ev (.cons 9 [] (.done) (.nil))) (.nil))) (.nil))) (.nil)))) (.nil))))) (.cons 6 [4, 3, 1, 0] (.ev (.cons 2 [4, 3] (.ev (.cons 5 [] (.ev (.cons 7 [] (.ev (.cons 8 [] (.ev (.cons 9 [] (.done) (.nil))) (.nil))) (.nil))) (.cons 7 [4, 3] (.ev (.cons 5 [] (.ev (.cons 8 [] (.ev (.cons 9 [] (.done) (.nil))) (.nil))) (.nil))) (.nil)))) (.cons 7 [4, 3, 1, 0] (.ev (.cons 2 [4, 3] (.ev (.cons 5 [] (.ev (.cons 8 [] (.ev (.cons 9 [] (.done) (.nil))) (.nil))) (.nil))) (.nil))) (.nil)))) (.cons 7 [4, 3, 1, 0] (.ev (.cons 2 [4, 3] (.ev (.cons 5 [] (.ev (.cons 6 [] (.ev (.cons 8 [] (.ev (.cons 9 [] (.done) (.nil))) (.nil))) (.nil))) (.cons 6 [4, 3] (.ev (.cons 5 [] (.ev (.cons 8 [] (.ev (.cons 9 [] (.done) (.nil))) (.nil))) (.nil))) (.nil)))) (.cons 6 [4, 3, 1, 0] (.ev (.cons 2 [4, 3] (.ev (.cons 5 [] (.ev (.cons 8 [] (.ev (.cons 9 [] (.done) (.nil))) (.nil))) (.nil))) (.nil))) (.nil)))) (.nil))))))))), [], ⟨by kernel_rfl, by kernel_rfl, by kernel_rfl, by kernel_rfl⟩, ?_⟩
  refine drw_meet [(4, .box 4 0), (5, .box 5 0)] [(4, .box [.ints .u32 (mg 1000000000 (wval s).natAbs), .bool (decide (wval s < 0))]), (5, .box [.ints .u32 (mg 1000000000 (wval t).natAbs), .bool (decide (wval t < 0))])] ?_ ?_
  · (conv => whnf); (try simp only [Nat.zero_add])
    repeat' (first | exact V.wk | ((first | refine V.s1 ?_ | ((with_reducible refine recheck_and ?_ ?_); (focus ((conv => whnf); (try simp only [Nat.zero_add]); (repeat (refine V.s1 ?_; (try simp only [Nat.zero_add]))); exact ⟨rfl⟩)); (conv => whnf)) | ((try ((with_reducible refine .ext ?_); (conv => whnf); (try simp only [Nat.zero_add]))); (with_reducible refine call_intro (r := ?_) ?_ ?_); rotate_left; (focus (first | exact (n1) | exact (n2))); (conv => whnf))); (try simp only [Nat.zero_add])) | (refine And.intro ?_ ?_ <;> (conv => whnf); (try simp only [Nat.zero_add])))
  (conv => whnf)
  refine V.st ?_
  repeat ((try ((with_reducible refine .ext ?_); (conv => whnf))); (with_reducible refine call_intro (r := ?_) ?_ ?_); rotate_left; (focus (first | exact (s1) | exact (g1) | exact (o1))); (conv => whnf); refine V.st ?_)
  exact Fin.of rfl
theorem read_no (s t : List UInt8) (h : okP s t = false) (hs : s.length ≤ 281474976710656) (ht : t.length ≤ 281474976710656) : Called Tryz.prog 83 [.agg [.str s, .str t]] (.tup [.agg [.any, .any, .any], .bool false]) := by
  have c1 := wcheck_c s hs
  have c2 := wcheck_c t ht
  by_cases h1 : okW s = true
  · rw [h1, if_pos rfl] at c1
    by_cases h2 : okW t = true
    · rw [h2, if_pos rfl] at c2
      have l1 := okW_len h1
      have l2 := okW_len h2
      have k1 := len9 l1.2
      have k2 := len9 l2.2
      have n1 := number_c s h1
      have n2 := number_c t h2
      have s1 := sign_c (wval t)
      have g1 := gcd_c (wval s).natAbs (wval t).natAbs (by omega) (by omega)
      have gl : (mg 1000000000 (Nat.gcd (wval s).natAbs (wval t).natAbs)).length ≤ 67 := by
        rcases Nat.eq_zero_or_pos (wval t).natAbs with e | e
        · rw [e, Nat.gcd_zero_right]; exact k1
        · exact Nat.le_trans (mg_len_mono (by omega) (Nat.gcd_le_right _ e)) k2
      have o1 := compare_c (Nat.gcd (wval s).natAbs (wval t).natAbs) 1 (by omega) (by decide)
      unfold okP at h
      rw [h1, h2, Bool.true_and, Bool.true_and] at h
      by_cases hp : 0 < wval t
      · rw [decide_eq_true hp, Bool.true_and, decide_eq_false_iff_not] at h
        rw [Int.sign_eq_one_of_pos hp] at s1
        refine called_of_run tbOk 6 ⟨Tryz.func83, rfl, rfl, Nat.le_of_ble_eq_true rfl⟩ ?_
        (conv => whnf)
        refine V.st ?_
        repeat ((try ((with_reducible refine .ext ?_); (conv => whnf))); (with_reducible refine call_intro (r := ?_) ?_ ?_); rotate_left; (focus (first | exact (c1) | exact (c2))); (conv => whnf); refine V.st ?_)
        refine ⟨(.take 0 (.take 1 (.take 3 (.take 4 (.ev (.cons 2 [4, 3] (.ev (.cons 5 [] (.ev (.cons 6 [] (.ev (.cons 7 [] (.ev (.cons 8 [] (.ev (.cons 9 [] (.done) (.nil))) (.nil))) (.nil))) (.cons 7 [] (.ev (.cons 6 [] (.ev (.cons 8 [] (.ev (.cons 9 [] (.done) (.nil))) (.nil))) (.nil))) (.nil)))) (.cons 6 [4, 3] (.ev (.cons 5 [] (.ev (.cons 7 [] (.ev (.cons 8 [] (.ev (.cons 9 [] (.done) (.nil))) (.nil))) (.nil))) (.cons 7 [4, 3] (.ev (.cons 5 [] (.ev (.cons 8 [] (.ev (.cons 9 [] (.done) (.nil))) (.nil))) (.nil))) (.nil)))) (.cons 7 [4, 3] (.ev (.cons 5 [] (.ev (.cons 6 [] (.ev (.cons 8 [] (.ev (.cons 9 [] (.done) (.nil))) (.nil))) (.nil))) (.cons 6 [4, 3] (.ev (.cons 5 [] (.ev (.cons 8 [] (.ev (.cons 9 [] (.done) (.nil))) (.nil))) (.nil))) (.nil)))) (.nil))))) (.cons 6 [4, 3, 1, 0] (.ev (.cons 2 [4, 3] (.ev (.cons 5 [] (.ev (.cons 7 [] (.ev (.cons 8 [] (.ev (.cons 9 [] (.done) (.nil))) (.nil))) (.nil))) (.cons 7 [4, 3] (.ev (.cons 5 [] (.ev (.cons 8 [] (.ev (.cons 9 [] (.done) (.nil))) (.nil))) (.nil))) (.nil)))) (.cons 7 [4, 3, 1, 0] (.ev (.cons 2 [4, 3] (.ev (.cons 5 [] (.ev (.cons 8 [] (.ev (.cons 9 [] (.done) (.nil))) (.nil))) (.nil))) (.nil))) (.nil)))) (.cons 7 [4, 3, 1, 0] (.ev (.cons 2 [4, 3] (.ev (.cons 5 [] (.ev (.cons 6 [] (.ev (.cons 8 [] (.ev (.cons 9 [] (.done) (.nil))) (.nil))) (.nil))) (.cons 6 [4, 3] (.ev (.cons 5 [] (.ev (.cons 8 [] (.ev (.cons 9 [] (.done) (.nil))) (.nil))) (.nil))) (.nil)))) (.cons 6 [4, 3, 1, 0] (.ev (.cons 2 [4, 3] (.ev (.cons 5 [] (.ev (.cons 8 [] (.ev (.cons 9 [] (.done) (.nil))) (.nil))) (.nil))) (.nil))) (.nil)))) (.nil))))))))), [], ⟨by kernel_rfl, by kernel_rfl, by kernel_rfl, by kernel_rfl⟩, ?_⟩
        refine drw_meet [(4, .box 4 0), (5, .box 5 0)] [(4, .box [.ints .u32 (mg 1000000000 (wval s).natAbs), .bool (decide (wval s < 0))]), (5, .box [.ints .u32 (mg 1000000000 (wval t).natAbs), .bool (decide (wval t < 0))])] ?_ ?_
        · (conv => whnf); (try simp only [Nat.zero_add])
          repeat' (first | exact V.wk | ((first | refine V.s1 ?_ | ((with_reducible refine recheck_and ?_ ?_); (focus ((conv => whnf); (try simp only [Nat.zero_add]); (repeat (refine V.s1 ?_; (try simp only [Nat.zero_add]))); exact ⟨rfl⟩)); (conv => whnf)) | ((try ((with_reducible refine .ext ?_); (conv => whnf); (try simp only [Nat.zero_add]))); (with_reducible refine call_intro (r := ?_) ?_ ?_); rotate_left; (focus (first | exact (n1) | exact (n2))); (conv => whnf))); (try simp only [Nat.zero_add])) | (refine And.intro ?_ ?_ <;> (conv => whnf); (try simp only [Nat.zero_add])))
        (conv => whnf)
        refine V.st ?_
        repeat ((try ((with_reducible refine .ext ?_); (conv => whnf))); (with_reducible refine call_intro (r := ?_) ?_ ?_); rotate_left; (focus (first | exact (s1) | exact (g1) | exact (o1))); (conv => whnf); refine V.st ?_)
        refine Cnd.split (CondB.mk (fun hq => ?_) (fun hq => ?_))
        · (conv => whnf)
          refine V.st ?_
          exact Fin.tup ⟨Fin.agg ⟨Fin.any' _, Fin.any' _, Fin.any' _, trivial⟩, Fin.of rfl, trivial⟩
        · exfalso
          simp only [Bool.or_eq_false_iff, decide_eq_false_iff_not, Decidable.not_not] at hq
          apply h
          have h9 := Int.sign_eq_zero_iff_zero.1 hq.2
          omega
      · have hs1 : (wval t).sign = 0 ∨ (wval t).sign = -1 := by
          rcases (by omega : wval t = 0 ∨ wval t < 0) with e | e
          · rw [e]; exact .inl rfl
          · exact .inr (Int.sign_eq_neg_one_of_neg e)
        rcases hs1 with e | e
        all_goals
          rw [e] at s1
          refine called_of_run tbOk 6 ⟨Tryz.func83, rfl, rfl, Nat.le_of_ble_eq_true rfl⟩ ?_
          (conv => whnf)
          refine V.st ?_
          repeat ((try ((with_reducible refine .ext ?_); (conv => whnf))); (with_reducible refine call_intro (r := ?_) ?_ ?_); rotate_left; (focus (first | exact (c1) | exact (c2))); (conv => whnf); refine V.st ?_)
          refine ⟨(.take 0 (.take 1 (.take 3 (.take 4 (.ev (.cons 2 [4, 3] (.ev (.cons 5 [] (.ev (.cons 6 [] (.ev (.cons 7 [] (.ev (.cons 8 [] (.ev (.cons 9 [] (.done) (.nil))) (.nil))) (.nil))) (.cons 7 [] (.ev (.cons 6 [] (.ev (.cons 8 [] (.ev (.cons 9 [] (.done) (.nil))) (.nil))) (.nil))) (.nil)))) (.cons 6 [4, 3] (.ev (.cons 5 [] (.ev (.cons 7 [] (.ev (.cons 8 [] (.ev (.cons 9 [] (.done) (.nil))) (.nil))) (.nil))) (.cons 7 [4, 3] (.ev (.cons 5 [] (.ev (.cons 8 [] (.ev (.cons 9 [] (.done) (.nil))) (.nil))) (.nil))) (.nil)))) (.cons 7 [4, 3] (.ev (.cons 5 [] (.ev (.cons 6 [] (.ev (.cons 8 [] (.ev (.cons 9 [] (.done) (.nil))) (.nil))) (.nil))) (.cons 6 [4, 3] (.ev (.cons 5 [] (.ev (.cons 8 [] (.ev (.cons 9 [] (.done) (.nil))) (.nil))) (.nil))) (.nil)))) (.nil))))) (.cons 6 [4, 3, 1, 0] (.ev (.cons 2 [4, 3] (.ev (.cons 5 [] (.ev (.cons 7 [] (.ev (.cons 8 [] (.ev (.cons 9 [] (.done) (.nil))) (.nil))) (.nil))) (.cons 7 [4, 3] (.ev (.cons 5 [] (.ev (.cons 8 [] (.ev (.cons 9 [] (.done) (.nil))) (.nil))) (.nil))) (.nil)))) (.cons 7 [4, 3, 1, 0] (.ev (.cons 2 [4, 3] (.ev (.cons 5 [] (.ev (.cons 8 [] (.ev (.cons 9 [] (.done) (.nil))) (.nil))) (.nil))) (.nil))) (.nil)))) (.cons 7 [4, 3, 1, 0] (.ev (.cons 2 [4, 3] (.ev (.cons 5 [] (.ev (.cons 6 [] (.ev (.cons 8 [] (.ev (.cons 9 [] (.done) (.nil))) (.nil))) (.nil))) (.cons 6 [4, 3] (.ev (.cons 5 [] (.ev (.cons 8 [] (.ev (.cons 9 [] (.done) (.nil))) (.nil))) (.nil))) (.nil)))) (.cons 6 [4, 3, 1, 0] (.ev (.cons 2 [4, 3] (.ev (.cons 5 [] (.ev (.cons 8 [] (.ev (.cons 9 [] (.done) (.nil))) (.nil))) (.nil))) (.nil))) (.nil)))) (.nil))))))))), [], ⟨by kernel_rfl, by kernel_rfl, by kernel_rfl, by kernel_rfl⟩, ?_⟩
          refine drw_meet [(4, .box 4 0), (5, .box 5 0)] [(4, .box [.ints .u32 (mg 1000000000 (wval s).natAbs), .bool (decide (wval s < 0))]), (5, .box [.ints .u32 (mg 1000000000 (wval t).natAbs), .bool (decide (wval t < 0))])] ?_ ?_
          · (conv => whnf); (try simp only [Nat.zero_add])
            repeat' (first | exact V.wk | ((first | refine V.s1 ?_ | ((with_reducible refine recheck_and ?_ ?_); (focus ((conv => whnf); (try simp only [Nat.zero_add]); (repeat (refine V.s1 ?_; (try simp only [Nat.zero_add]))); exact ⟨rfl⟩)); (conv => whnf)) | ((try ((with_reducible refine .ext ?_); (conv => whnf); (try simp only [Nat.zero_add]))); (with_reducible refine call_intro (r := ?_) ?_ ?_); rotate_left; (focus (first | exact (n1) | exact (n2))); (conv => whnf))); (try simp only [Nat.zero_add])) | (refine And.intro ?_ ?_ <;> (conv => whnf); (try simp only [Nat.zero_add])))
          (conv => whnf)
          refine V.st ?_
          repeat ((try ((with_reducible refine .ext ?_); (conv => whnf))); (with_reducible refine call_intro (r := ?_) ?_ ?_); rotate_left; (focus (first | exact (s1) | exact (g1) | exact (o1))); (conv => whnf); refine V.st ?_)
          refine ⟨.int .i64 0, off rfl, ?_⟩
          (conv => whnf)
          refine V.st ?_
          exact Fin.tup ⟨Fin.agg ⟨Fin.any' _, Fin.any' _, Fin.any' _, trivial⟩, Fin.of rfl, trivial⟩
    · rw [if_neg h2] at c2
      refine called_of_run tbOk 6 ⟨Tryz.func83, rfl, rfl, Nat.le_of_ble_eq_true rfl⟩ ?_
      (conv => whnf)
      refine V.st ?_
      repeat ((try ((with_reducible refine .ext ?_); (conv => whnf))); (with_reducible refine call_intro (r := ?_) ?_ ?_); rotate_left; (focus (first | exact (c1) | exact (c2))); (conv => whnf); refine V.st ?_)
      exact Fin.tup ⟨Fin.agg ⟨Fin.any' _, Fin.any' _, Fin.any' _, trivial⟩, Fin.of rfl, trivial⟩
  · rw [if_neg h1] at c1
    refine called_of_run tbOk 6 ⟨Tryz.func83, rfl, rfl, Nat.le_of_ble_eq_true rfl⟩ ?_
    (conv => whnf)
    refine V.st ?_
    repeat ((try ((with_reducible refine .ext ?_); (conv => whnf))); (with_reducible refine call_intro (r := ?_) ?_ ?_); rotate_left; (focus (first | exact (c1) | exact (c2))); (conv => whnf); refine V.st ?_)
    refine Cnd.split (CondB.mk (fun hq => ?_) (fun hq => ?_))
    · (conv => whnf)
      refine V.st ?_
      exact Fin.tup ⟨Fin.agg ⟨Fin.any' _, Fin.any' _, Fin.any' _, trivial⟩, Fin.of rfl, trivial⟩
    · simp at hq
theorem fcheck_c (s t : List UInt8) (hs : s.length ≤ 281474976710656) (ht : t.length ≤ 281474976710656) : Called Tryz.prog 81 [.agg [.str s, .str t]] (.int .i64 (if okP s t then 0 else 20)) := by
  by_cases h : okP s t = true
  · have r1 := read_ok s t h
    rw [h, if_pos rfl]
    refine called_of_run tbOk 6 ⟨Tryz.func81, rfl, rfl, Nat.le_of_ble_eq_true rfl⟩ ?_
    (conv => whnf)
    refine V.st ?_
    repeat ((try ((with_reducible refine .ext ?_); (conv => whnf))); (with_reducible refine call_intro (r := ?_) ?_ ?_); rotate_left; (focus (first | exact (r1))); (conv => whnf); refine V.st ?_)
    exact Fin.of rfl
  · have r1 := read_no s t (by simpa using h) hs ht
    rw [if_neg h]
    refine called_of_run tbOk 6 ⟨Tryz.func81, rfl, rfl, Nat.le_of_ble_eq_true rfl⟩ ?_
    (conv => whnf)
    refine V.st ?_
    repeat ((try ((with_reducible refine .ext ?_); (conv => whnf))); (with_reducible refine call_intro (r := ?_) ?_ ?_); rotate_left; (focus (first | exact (r1))); (conv => whnf); refine V.st ?_)
    exact Fin.of rfl
theorem qsize {s t : List UInt8} (h : okP s t = true) : Q9 20000000 (qv s t) := (qv_size h).mono (by omega)
theorem qordS {s t : List UInt8} (h : okP s t = true) : S9 40000000 (qv s t).num ∧ (mg 1000000000 (qv s t).den).length ≤ 40000000 := ⟨(qv_size h).1.mono (by omega), Nat.le_trans (qv_size h).2 (by omega)⟩
theorem fcmp_ok (s t u v : List UInt8) (h : okP s t = true) (g : okP u v = true) : Called Tryz.prog 38 [.agg [.str s, .str t], .agg [.str u, .str v]] (.tup [.int .i64 (ordQ (qv s t) (qv u v)), .int .i64 0]) := by
  have r1 := read_ok s t h
  have r2 := read_ok u v g
  have o := order_r (qv s t) (qv u v) (qordS h).1 (qordS g).1 (qordS h).2 (qordS g).2
  have ap : Called Tryz.prog 76 [.agg [.str s, .str t], .agg [.str u, .str v], .fn 77 [] []] (.tup [.int .i64 (ordQ (qv s t) (qv u v)), .int .i64 0]) := by
    refine called_of_run tbOk 6 ⟨Tryz.func76, rfl, rfl, Nat.le_of_ble_eq_true rfl⟩ ?_
    (conv => whnf)
    refine V.st ?_
    repeat ((try ((with_reducible refine .ext ?_); (conv => whnf))); (with_reducible refine call_intro (r := ?_) ?_ ?_); rotate_left; (focus (first | exact (r1) | exact (r2) | exact (o))); (conv => whnf); refine V.st ?_)
    exact Fin.of rfl
  refine called_of_run tbOk 6 ⟨Tryz.func38, rfl, rfl, Nat.le_of_ble_eq_true rfl⟩ ?_
  (conv => whnf)
  refine V.st ?_
  repeat ((try ((with_reducible refine .ext ?_); (conv => whnf))); (with_reducible refine call_intro (r := ?_) ?_ ?_); rotate_left; (focus (first | exact (ap))); (conv => whnf); refine V.st ?_)
  exact Fin.of rfl
end Go.Proofs.YtfilfmadapjajaaGreatDoor
end
section
namespace Go.Proofs.YtfilfmadapjajaaGreatDoor
open Go Go.V Go.Nb
def Fq (n : Nat) (q : Rat) : Prop := q.num.natAbs < 10 ^ n ∧ q.den < 10 ^ n
theorem Fq.mono {m n : Nat} {q : Rat} (h : Fq m q) (hl : m ≤ n) : Fq n q :=
  ⟨Nat.lt_of_lt_of_le h.1 (Nat.pow_le_pow_right (by decide) hl), Nat.lt_of_lt_of_le h.2 (Nat.pow_le_pow_right (by decide) hl)⟩
theorem Fq.ok {n : Nat} {q : Rat} (h : Fq n q) (h0 : 0 < n) (h6 : n ≤ 600) : okF q = true := by
  unfold okF
  simp only [Bool.and_eq_true, decide_eq_true_eq]
  exact ⟨Nat.le_trans (pad_dec n _ h0 h.1).1 h6, Nat.le_trans (pad_dec n _ h0 h.2).1 h6⟩
theorem zdivInt_le (n : Int) (d : Nat) (hd : 0 < d) : (Rat.divInt n d).num.natAbs ≤ n.natAbs ∧ (Rat.divInt n d).den ≤ d := by
  rw [Rat.num_divInt, Rat.den_divInt, if_neg (by omega), Int.sign_eq_one_of_pos (by omega), Int.one_mul]
  refine ⟨?_, ?_⟩
  · rw [Int.natAbs_ediv_of_dvd (by exact Int.gcd_dvd_right ..)]
    exact Nat.div_le_self _ _
  · rw [Int.natAbs_natCast]
    exact Nat.div_le_self _ _
theorem fq_divInt {n : Nat} {x : Int} {d : Nat} (hd : 0 < d) (h1 : x.natAbs < 10 ^ n) (h2 : d < 10 ^ n) : Fq n (Rat.divInt x d) :=
  ⟨Nat.lt_of_le_of_lt (zdivInt_le x d hd).1 h1, Nat.lt_of_le_of_lt (zdivInt_le x d hd).2 h2⟩
theorem zlt_mul {a b x y : Nat} (h1 : x < 10 ^ a) (h2 : y < 10 ^ b) : x * y < 10 ^ (a + b) := by
  rw [Nat.pow_add]
  rcases Nat.eq_zero_or_pos y with e | e
  · rw [e, Nat.mul_zero]
    exact Nat.mul_pos (Nat.pow_pos (by decide)) (Nat.pow_pos (by decide))
  · exact Nat.lt_of_lt_of_le (Nat.mul_lt_mul_of_pos_right h1 e) (Nat.mul_le_mul_left _ (Nat.le_of_lt h2))
theorem Fq.add {a b : Nat} {p q : Rat} (h : Fq a p) (g : Fq b q) : Fq (a + b + 1) (p + q) := by
  have hp := p.den_pos
  have hq := q.den_pos
  have e : p + q = Rat.divInt (p.num * q.den + q.num * p.den) ((p.den * q.den : Nat) : Int) := by
    conv => lhs; rw [← Rat.num_divInt_den p, ← Rat.num_divInt_den q]
    rw [Rat.divInt_add_divInt _ _ (by omega) (by omega), Int.natCast_mul]
  rw [e]
  have m1 := zlt_mul h.1 g.2
  have m2 := zlt_mul g.1 h.2
  have m3 := zlt_mul h.2 g.2
  rw [Nat.add_comm b a] at m2
  have e10 : 10 ^ (a + b + 1) = 10 * 10 ^ (a + b) := by rw [Nat.pow_succ, Nat.mul_comm]
  refine fq_divInt (Nat.mul_pos hp hq) ?_ ?_
  · have t := Int.natAbs_add_le (p.num * q.den) (q.num * p.den)
    rw [Int.natAbs_mul, Int.natAbs_mul, Int.natAbs_natCast, Int.natAbs_natCast] at t
    omega
  · omega
theorem Fq.neg {a : Nat} {p : Rat} (h : Fq a p) : Fq a (-p) := ⟨by rw [Rat.neg_num, Int.natAbs_neg]; exact h.1, by rw [Rat.neg_den]; exact h.2⟩
theorem Fq.sub {a b : Nat} {p q : Rat} (h : Fq a p) (g : Fq b q) : Fq (a + b + 1) (p - q) := by
  rw [Rat.sub_eq_add_neg]
  exact h.add g.neg
theorem Fq.mul {a b : Nat} {p q : Rat} (h : Fq a p) (g : Fq b q) : Fq (a + b) (p * q) := by
  have e : p * q = Rat.divInt (p.num * q.num) ((p.den * q.den : Nat) : Int) := by
    conv => lhs; rw [← Rat.num_divInt_den p, ← Rat.num_divInt_den q]
    rw [Rat.divInt_mul_divInt, Int.natCast_mul]
  rw [e]
  refine fq_divInt (Nat.mul_pos p.den_pos q.den_pos) ?_ (zlt_mul h.2 g.2)
  rw [Int.natAbs_mul]
  exact zlt_mul h.1 g.1
theorem Fq.inv {a : Nat} {p : Rat} (h : Fq a p) (h0 : p.num ≠ 0) : Fq a p⁻¹ := by
  rw [Rat.inv_def]
  rcases Int.lt_or_gt_of_ne h0 with hn | hn
  · have e : Rat.divInt (p.den : Int) p.num = Rat.divInt (-(p.den : Int)) ((p.num.natAbs : Nat) : Int) := by
      rw [Rat.divInt_eq_divInt_iff h0 (by omega)]
      have : ((p.num.natAbs : Nat) : Int) = -p.num := by omega
      rw [this]
      grind
    rw [e]
    exact fq_divInt (by omega) (by rw [Int.natAbs_neg, Int.natAbs_natCast]; exact h.2) h.1
  · have e : p.num = ((p.num.natAbs : Nat) : Int) := by omega
    rw [e]
    exact fq_divInt (by omega) (by rw [Int.natAbs_natCast]; exact h.2) h.1
theorem Fq.div {a b : Nat} {p q : Rat} (h : Fq a p) (g : Fq b q) (h0 : q.num ≠ 0) : Fq (a + b) (p / q) := by
  rw [Rat.div_def]
  exact h.mul (g.inv h0)
theorem dec_rdv : ∀ (n : Nat) (d : List UInt8), d.length = n → d ≠ [] → (∀ c ∈ d, isDig c = true) → (d.getD 0 0 ≠ 48 ∨ d.length = 1) → dec (rdv d) = d
  | 0, d, h, h0, _, _ => absurd (List.length_eq_zero_iff.1 h) h0
  | n + 1, d, h, h0, hd, hz => by
    obtain ⟨e, c, rfl⟩ : ∃ e c, d = e ++ [c] := ⟨d.dropLast, d.getLast h0, (List.dropLast_concat_getLast h0).symm⟩
    have hc := hd c (by simp)
    simp only [isDig, decide_eq_true_eq] at hc
    have hu : UInt8.ofNat (48 + (c.toNat - 48)) = c := by
      have : 48 + (c.toNat - 48) = c.toNat := by omega
      rw [this]
      exact UInt8.ofNat_toNat
    rw [rdv_append, rdv_one, List.length_singleton, Nat.pow_one]
    by_cases he : e = []
    · subst he
      rw [List.nil_append, show rdv [] = 0 from rfl, Nat.zero_mul, Nat.zero_add, dec_small (by omega), hu]
    · have hl : e.length = n := by simpa using h
      have hpos : 0 < e.length := List.length_pos_iff.2 he
      have hg : (e ++ [c]).getD 0 0 = e.getD 0 0 := by
        rw [List.getD_eq_getElem?_getD, List.getD_eq_getElem?_getD, List.getElem?_append_left hpos]
      have hz' : e.getD 0 0 ≠ 48 := by
        rcases hz with hz | hz
        · rwa [hg] at hz
        · simp at hz
          exact absurd hz he
      have ih := dec_rdv n e hl he (fun x hx => hd x (by simp [hx])) (.inl hz')
      have hr : 0 < rdv e := by
        rcases Nat.eq_zero_or_pos (rdv e) with h1 | h1
        · rw [h1, dec_small (by omega)] at ih
          rw [← ih] at hz'
          exact absurd rfl hz'
        · exact h1
      have e1 : (rdv e * 10 + (c.toNat - 48)) / 10 = rdv e := by omega
      have e2 : (rdv e * 10 + (c.toNat - 48)) % 10 = c.toNat - 48 := by omega
      rw [dec_big (by omega), e1, e2, ih, hu]
theorem decZ_wval {s : List UInt8} (h : okW s = true) : decZ (wval s) = s := by
  have key : ∀ (d : List UInt8) (neg : Bool), okD d neg = true → dec (rdv d) = d ∧ (neg = true → 0 < rdv d) := by
    intro d neg h
    have h' := h
    unfold okD at h
    simp only [Bool.and_eq_true, Bool.not_eq_true', Bool.or_eq_false_iff, decide_eq_false_iff_not, List.all_eq_true, Bool.and_eq_false_iff] at h
    refine ⟨dec_rdv _ d rfl (fun e => h.1.1.1 (by rw [e]; rfl)) h.1.2 ?_, fun e => okD_nz (by rw [e] at h'; exact h')⟩
    rcases h.2 with h2 | h2
    · exact .inl h2
    · refine .inr ?_
      have h3 := h.1.1.1
      have h4 := h2.2
      omega
  unfold okW at h
  obtain ⟨k1, k2⟩ := key _ _ h
  unfold wval
  cases hn : Go.Lib.hasPrefix s [45] with
  | true =>
    have hs : s = 45 :: Go.Lib.trimPrefix s [45] := by
      unfold Go.Lib.trimPrefix
      rw [if_pos hn]
      match s, hn with
      | c :: r, hn =>
        unfold Go.Lib.hasPrefix at hn
        simp at hn
        simp [hn]
    have h0 := k2 hn
    simp only [if_true]
    unfold decZ
    rw [if_pos (by omega)]
    rw [show (-((rdv (Go.Lib.trimPrefix s [45]) : Nat) : Int)).natAbs = rdv (Go.Lib.trimPrefix s [45]) by omega, k1]
    exact hs.symm
  | false =>
    have hs : Go.Lib.trimPrefix s [45] = s := by
      unfold Go.Lib.trimPrefix
      rw [hn]
      rfl
    simp only [Bool.false_eq_true, if_false]
    rw [hs] at k1 ⊢
    unfold decZ
    rw [if_neg (by omega), Int.natAbs_natCast, k1]
end Go.Proofs.YtfilfmadapjajaaGreatDoor
end
section
namespace Go.Proofs.YtfilfmadapjajaaGreatDoor
open Go Go.V Go.Nb
theorem fadd_ok (s t u v : List UInt8) (h : okP s t = true) (g : okP u v = true) (hn : (mg 1000000000 (qv s t + qv u v).num.natAbs).length ≤ 90000000) (hd : (mg 1000000000 (qv s t + qv u v).den).length ≤ 90000000) : Called Tryz.prog 90 [.agg [.str s, .str t], .agg [.str u, .str v]] (frR (qv s t + qv u v)) := by
  have r1 := read_ok s t h
  have r2 := read_ok u v g
  have o := add_c (qv s t) (qv u v) (qsize h) (qsize g)
  have w := write_c (qv s t + qv u v) hn hd
  generalize qv s t + qv u v = q at *
  have ap : Called Tryz.prog 103 [.agg [.str s, .str t], .agg [.str u, .str v], .fn 119 [] []] (.tup [rtD q, .int .i64 0]) := by
    refine called_of_run tbOk 6 ⟨Tryz.func103, rfl, rfl, Nat.le_of_ble_eq_true rfl⟩ ?_
    (conv => whnf)
    refine V.st ?_
    repeat ((try ((with_reducible refine .ext ?_); (conv => whnf))); (with_reducible refine call_intro (r := ?_) ?_ ?_); rotate_left; (focus (first | exact (r1) | exact (r2) | exact (o))); (conv => whnf); refine V.st ?_)
    exact Fin.of rfl
  have rs : Called Tryz.prog 102 [rtD q, .int .i64 0] (frR q) := by
    refine called_of_run tbOk 6 ⟨Tryz.func102, rfl, rfl, Nat.le_of_ble_eq_true rfl⟩ ?_
    (conv => whnf)
    refine V.st ?_
    repeat ((try ((with_reducible refine .ext ?_); (conv => whnf))); (with_reducible refine call_intro (r := ?_) ?_ ?_); rotate_left; (focus (first | exact (w))); (conv => whnf); refine V.st ?_)
    exact Fin.of rfl
  refine called_of_run tbOk 6 ⟨Tryz.func90, rfl, rfl, Nat.le_of_ble_eq_true rfl⟩ ?_
  (conv => whnf)
  refine V.st ?_
  repeat ((try ((with_reducible refine .ext ?_); (conv => whnf))); (with_reducible refine call_intro (r := ?_) ?_ ?_); rotate_left; (focus (first | exact (ap) | exact (rs))); (conv => whnf); refine V.st ?_)
  exact Fin.of rfl
theorem fsub_ok (s t u v : List UInt8) (h : okP s t = true) (g : okP u v = true) (hn : (mg 1000000000 (qv s t - qv u v).num.natAbs).length ≤ 90000000) (hd : (mg 1000000000 (qv s t - qv u v).den).length ≤ 90000000) : Called Tryz.prog 75 [.agg [.str s, .str t], .agg [.str u, .str v]] (frR (qv s t - qv u v)) := by
  have r1 := read_ok s t h
  have r2 := read_ok u v g
  have o := sub_c (qv s t) (qv u v) (qsize h) (qsize g)
  have w := write_c (qv s t - qv u v) hn hd
  generalize qv s t - qv u v = q at *
  have ap : Called Tryz.prog 103 [.agg [.str s, .str t], .agg [.str u, .str v], .fn 105 [] []] (.tup [rtD q, .int .i64 0]) := by
    refine called_of_run tbOk 6 ⟨Tryz.func103, rfl, rfl, Nat.le_of_ble_eq_true rfl⟩ ?_
    (conv => whnf)
    refine V.st ?_
    repeat ((try ((with_reducible refine .ext ?_); (conv => whnf))); (with_reducible refine call_intro (r := ?_) ?_ ?_); rotate_left; (focus (first | exact (r1) | exact (r2) | exact (o))); (conv => whnf); refine V.st ?_)
    exact Fin.of rfl
  have rs : Called Tryz.prog 102 [rtD q, .int .i64 0] (frR q) := by
    refine called_of_run tbOk 6 ⟨Tryz.func102, rfl, rfl, Nat.le_of_ble_eq_true rfl⟩ ?_
    (conv => whnf)
    refine V.st ?_
    repeat ((try ((with_reducible refine .ext ?_); (conv => whnf))); (with_reducible refine call_intro (r := ?_) ?_ ?_); rotate_left; (focus (first | exact (w))); (conv => whnf); refine V.st ?_)
    exact Fin.of rfl
  refine called_of_run tbOk 6 ⟨Tryz.func75, rfl, rfl, Nat.le_of_ble_eq_true rfl⟩ ?_
  (conv => whnf)
  refine V.st ?_
  repeat ((try ((with_reducible refine .ext ?_); (conv => whnf))); (with_reducible refine call_intro (r := ?_) ?_ ?_); rotate_left; (focus (first | exact (ap) | exact (rs))); (conv => whnf); refine V.st ?_)
  exact Fin.of rfl
theorem fmul_ok (s t u v : List UInt8) (h : okP s t = true) (g : okP u v = true) (hn : (mg 1000000000 (qv s t * qv u v).num.natAbs).length ≤ 90000000) (hd : (mg 1000000000 (qv s t * qv u v).den).length ≤ 90000000) : Called Tryz.prog 74 [.agg [.str s, .str t], .agg [.str u, .str v]] (frR (qv s t * qv u v)) := by
  have r1 := read_ok s t h
  have r2 := read_ok u v g
  have o := mul_c (qv s t) (qv u v) (qsize h) (qsize g)
  have w := write_c (qv s t * qv u v) hn hd
  generalize qv s t * qv u v = q at *
  have ap : Called Tryz.prog 103 [.agg [.str s, .str t], .agg [.str u, .str v], .fn 104 [] []] (.tup [rtD q, .int .i64 0]) := by
    refine called_of_run tbOk 6 ⟨Tryz.func103, rfl, rfl, Nat.le_of_ble_eq_true rfl⟩ ?_
    (conv => whnf)
    refine V.st ?_
    repeat ((try ((with_reducible refine .ext ?_); (conv => whnf))); (with_reducible refine call_intro (r := ?_) ?_ ?_); rotate_left; (focus (first | exact (r1) | exact (r2) | exact (o))); (conv => whnf); refine V.st ?_)
    exact Fin.of rfl
  have rs : Called Tryz.prog 102 [rtD q, .int .i64 0] (frR q) := by
    refine called_of_run tbOk 6 ⟨Tryz.func102, rfl, rfl, Nat.le_of_ble_eq_true rfl⟩ ?_
    (conv => whnf)
    refine V.st ?_
    repeat ((try ((with_reducible refine .ext ?_); (conv => whnf))); (with_reducible refine call_intro (r := ?_) ?_ ?_); rotate_left; (focus (first | exact (w))); (conv => whnf); refine V.st ?_)
    exact Fin.of rfl
  refine called_of_run tbOk 6 ⟨Tryz.func74, rfl, rfl, Nat.le_of_ble_eq_true rfl⟩ ?_
  (conv => whnf)
  refine V.st ?_
  repeat ((try ((with_reducible refine .ext ?_); (conv => whnf))); (with_reducible refine call_intro (r := ?_) ?_ ?_); rotate_left; (focus (first | exact (ap) | exact (rs))); (conv => whnf); refine V.st ?_)
  exact Fin.of rfl
theorem Q9.inv {k : Nat} {q : Rat} (h : Q9 k q) (h0 : q.num ≠ 0) : Q9 k q⁻¹ := by
  obtain ⟨p1, p2⟩ := inv_parts q h0
  constructor
  · rw [p1]
    unfold S9
    have e : (if decide (q.num < 0) = true then -(q.den : Int) else (q.den : Int)).natAbs = q.den := by
      split <;> simp
    rw [e]
    exact h.2
  · rw [p2]; exact h.1
theorem fdiv_ok (s t u v : List UInt8) (h : okP s t = true) (g : okP u v = true) (h0 : (qv u v).num ≠ 0) (hn : (mg 1000000000 (qv s t / qv u v).num.natAbs).length ≤ 90000000) (hd : (mg 1000000000 (qv s t / qv u v).den).length ≤ 90000000) : Called Tryz.prog 96 [.agg [.str s, .str t], .agg [.str u, .str v]] (frR (qv s t / qv u v)) := by
  have r1 := read_ok s t h
  have r2 := read_ok u v g
  have z1 := zero_c (qv u v).num.natAbs
  rw [decide_eq_false (show ¬ (qv u v).num.natAbs = 0 by omega)] at z1
  have i1 := inverse_c (qv u v) h0
  have o := mul_c (qv s t) (qv u v)⁻¹ (qsize h) ((qsize g).inv h0)
  have w := write_c (qv s t / qv u v) hn hd
  rw [Rat.div_def] at w ⊢
  unfold frR at *
  generalize qv s t * (qv u v)⁻¹ = q at *
  generalize (qv u v)⁻¹ = y at *
  refine called_of_run tbOk 6 ⟨Tryz.func96, rfl, rfl, Nat.le_of_ble_eq_true rfl⟩ ?_
  (conv => whnf)
  refine V.st ?_
  repeat ((try ((with_reducible refine .ext ?_); (conv => whnf))); (with_reducible refine call_intro (r := ?_) ?_ ?_); rotate_left; (focus (first | exact (r1) | exact (r2) | exact (z1))); (conv => whnf); refine V.st ?_)
  refine ⟨(.take 0 (.take 1 (.ev (.cons 2 [0] (.ev (.cons 3 [] (.ev (.cons 4 [] (.take 5 (.take 6 (.ev (.cons 7 [] (.take 8 (.done)) (.nil))))) (.nil))) (.nil))) (.nil))))), [], ⟨by kernel_rfl, by kernel_rfl, by kernel_rfl, by kernel_rfl⟩, .go (drawD_one ?_)⟩
  (conv => whnf)
  refine V.st ?_
  repeat ((try ((with_reducible refine .ext ?_); (conv => whnf))); (with_reducible refine call_intro (r := ?_) ?_ ?_); rotate_left; (focus (first | exact (i1) | exact (o) | exact (w))); (conv => whnf); refine V.st ?_)
  exact Fin.of rfl
def frT (x : Rat) : D := .agg [.str (decZ x.num), .str (dec x.den)]
theorem okP_dec {q : Rat} (h : okF q = true) : okP (decZ q.num) (dec q.den) = true ∧ qv (decZ q.num) (dec q.den) = q := by
  unfold okF at h
  simp only [Bool.and_eq_true, decide_eq_true_eq] at h
  have hdz : dec q.den = decZ (q.den : Int) := by unfold decZ; rw [if_neg (by omega), Int.natAbs_natCast]
  have w1 : wval (decZ q.num) = q.num := wval_decZ _
  have w2 : wval (dec q.den) = (q.den : Int) := by rw [hdz]; exact wval_decZ _
  have o1 := okW_decZ q.num h.1
  have o2 : okW (dec q.den) = true := by rw [hdz]; exact okW_decZ _ (by rw [Int.natAbs_natCast]; exact h.2)
  have hp := q.den_pos
  constructor
  · unfold okP
    rw [o1, o2, w1, w2]
    simp only [Bool.and_eq_true, decide_eq_true_eq, Bool.true_and, Int.natAbs_natCast]
    exact ⟨by omega, q.reduced⟩
  · unfold qv
    rw [w1, w2]
    exact Rat.num_divInt_den q
theorem frR_ok {q : Rat} (h : okF q = true) : frR q = .tup [frT q, .int .i64 0] := by
  unfold frR
  rw [h]
  rfl
theorem okP_text {s t : List UInt8} (h : okP s t = true) : decZ (qv s t).num = s ∧ dec (qv s t).den = t := by
  obtain ⟨h1, h2, h3, h4⟩ := okP_of h
  obtain ⟨p1, p2⟩ := qv_parts h
  have e2 := decZ_wval h2
  unfold decZ at e2
  rw [if_neg (by omega)] at e2
  rw [p1, p2]
  exact ⟨decZ_wval h1, e2⟩
theorem frT_text {s t : List UInt8} (h : okP s t = true) : frT (qv s t) = .agg [.str s, .str t] := by
  unfold frT
  rw [(okP_text h).1, (okP_text h).2]
theorem mg_fq {n : Nat} {q : Rat} (h : Fq n q) (h6 : n ≤ 600) : (mg 1000000000 q.num.natAbs).length ≤ 90000000 ∧ (mg 1000000000 q.den).length ≤ 90000000 :=
  ⟨Nat.le_trans (len9 (h.mono h6).1) (by omega), Nat.le_trans (len9 (h.mono h6).2) (by omega)⟩
theorem rdv_20 {d : List UInt8} (hd : ∀ c ∈ d, isDig c = true) (hl : d.length ≤ 20) : rdv d < 10 ^ 20 :=
  Nat.lt_of_lt_of_le (rdv_lt hd) (Nat.pow_le_pow_right (by decide) hl)
theorem wval_20 {s : List UInt8} (h : okW s = true) (hs : s.length ≤ 20) : (wval s).natAbs < 10 ^ 20 := by
  unfold okW okD at h
  simp only [Bool.and_eq_true, Bool.not_eq_true', Bool.or_eq_false_iff, decide_eq_false_iff_not, List.all_eq_true] at h
  have hl : (Go.Lib.trimPrefix s [45]).length ≤ 20 := by
    unfold Go.Lib.trimPrefix
    split
    · rw [List.length_drop]
      omega
    · exact hs
  have hr := rdv_20 h.1.2 hl
  unfold wval
  split <;> omega
theorem fq_text {s t : List UInt8} (h : okP s t = true) (hs : s.length ≤ 20) (ht : t.length ≤ 20) : Fq 20 (qv s t) := by
  obtain ⟨h1, h2, h3, h4⟩ := okP_of h
  obtain ⟨p1, p2⟩ := qv_parts h
  exact ⟨by rw [p1]; exact wval_20 h1 hs, by rw [p2]; exact wval_20 h2 ht⟩
theorem zadd {a b : Nat} {p q : Rat} (h : Fq a p) (g : Fq b q) (ha : 0 < a) (hb : 0 < b) (hab : a + b + 1 ≤ 600) : Called Tryz.prog 90 [frT p, frT q] (.tup [frT (p + q), .int .i64 0]) := by
  obtain ⟨o1, e1⟩ := okP_dec (h.ok ha (by omega))
  obtain ⟨o2, e2⟩ := okP_dec (g.ok hb (by omega))
  have hs := h.add g
  have hm := mg_fq hs (by omega)
  have c := fadd_ok _ _ _ _ o1 o2 (by rw [e1, e2]; exact hm.1) (by rw [e1, e2]; exact hm.2)
  rw [e1, e2, frR_ok (hs.ok (by omega) (by omega))] at c
  exact c
theorem zsub {a b : Nat} {p q : Rat} (h : Fq a p) (g : Fq b q) (ha : 0 < a) (hb : 0 < b) (hab : a + b + 1 ≤ 600) : Called Tryz.prog 75 [frT p, frT q] (.tup [frT (p - q), .int .i64 0]) := by
  obtain ⟨o1, e1⟩ := okP_dec (h.ok ha (by omega))
  obtain ⟨o2, e2⟩ := okP_dec (g.ok hb (by omega))
  have hs := h.sub g
  have hm := mg_fq hs (by omega)
  have c := fsub_ok _ _ _ _ o1 o2 (by rw [e1, e2]; exact hm.1) (by rw [e1, e2]; exact hm.2)
  rw [e1, e2, frR_ok (hs.ok (by omega) (by omega))] at c
  exact c
theorem zmul {a b : Nat} {p q : Rat} (h : Fq a p) (g : Fq b q) (ha : 0 < a) (hb : 0 < b) (hab : a + b + 1 ≤ 600) : Called Tryz.prog 74 [frT p, frT q] (.tup [frT (p * q), .int .i64 0]) := by
  obtain ⟨o1, e1⟩ := okP_dec (h.ok ha (by omega))
  obtain ⟨o2, e2⟩ := okP_dec (g.ok hb (by omega))
  have hs := h.mul g
  have hm := mg_fq hs (by omega)
  have c := fmul_ok _ _ _ _ o1 o2 (by rw [e1, e2]; exact hm.1) (by rw [e1, e2]; exact hm.2)
  rw [e1, e2, frR_ok (hs.ok (by omega) (by omega))] at c
  exact c
theorem zdiv {a b : Nat} {p q : Rat} (h : Fq a p) (g : Fq b q) (h0 : q.num ≠ 0) (ha : 0 < a) (hb : 0 < b) (hab : a + b + 1 ≤ 600) : Called Tryz.prog 96 [frT p, frT q] (.tup [frT (p / q), .int .i64 0]) := by
  obtain ⟨o1, e1⟩ := okP_dec (h.ok ha (by omega))
  obtain ⟨o2, e2⟩ := okP_dec (g.ok hb (by omega))
  have hs := h.div g h0
  have hm := mg_fq hs (by omega)
  have c := fdiv_ok _ _ _ _ o1 o2 (by rw [e2]; exact h0) (by rw [e1, e2]; exact hm.1) (by rw [e1, e2]; exact hm.2)
  rw [e1, e2, frR_ok (hs.ok (by omega) (by omega))] at c
  exact c
theorem zcmp {a b : Nat} {p q : Rat} (h : Fq a p) (g : Fq b q) (ha : 0 < a ∧ a ≤ 600) (hb : 0 < b ∧ b ≤ 600) : Called Tryz.prog 38 [frT p, frT q] (.tup [.int .i64 (ordQ p q), .int .i64 0]) := by
  obtain ⟨o1, e1⟩ := okP_dec (h.ok ha.1 ha.2)
  obtain ⟨o2, e2⟩ := okP_dec (g.ok hb.1 hb.2)
  have c := fcmp_ok _ _ _ _ o1 o2
  rw [e1, e2] at c
  exact c
end Go.Proofs.YtfilfmadapjajaaGreatDoor
end
section
namespace Go.Proofs.YtfilfmadapjajaaGreatDoor
open Go Go.V Go.Nb
theorem right01_c (s : List UInt8) (hs : s.length ≤ 281474976710656) : Called Tryz.prog 145 [.str s] (.bool (okW s)) := by
  obtain ⟨d, j, neg, S, e1, _⟩ := sg_of s
  rw [e1]
  exact right01_g s d j neg S hs
theorem in01_c (s : List UInt8) (h : okW s = true) : Called Tryz.prog 146 [.str s] (plD (wval s)) := by
  obtain ⟨d, j, neg, S, e1, e2⟩ := sg_of s
  rw [e2]
  rw [e1] at h
  unfold okD at h
  simp only [Bool.and_eq_true, Bool.not_eq_true', Bool.or_eq_false_iff, decide_eq_false_iff_not, List.all_eq_true] at h
  exact in01_g s d j neg S h.1.2 (by omega) (by have := S.hl; omega)
theorem sm_wval {s : List UInt8} (h : okW s = true) : Sm 151 (wval s) := by
  obtain ⟨d, j, neg, S, e1, e2⟩ := sg_of s
  rw [e1] at h
  unfold okD at h
  simp only [Bool.and_eq_true, Bool.not_eq_true', Bool.or_eq_false_iff, decide_eq_false_iff_not, List.all_eq_true] at h
  have hlt := rdv_lt (s := d) h.1.2
  have h2 : ∀ k, d.length ≤ 4 * k → rdv d < 10000 ^ k := fun k hk => by
    refine Nat.lt_of_lt_of_le hlt ?_
    rw [show (10000 : Nat) = 10 ^ 4 from rfl, ← Nat.pow_mul]
    exact Nat.pow_le_pow_right (by omega) hk
  have e : (wval s).natAbs = rdv d := by
    rw [e2]; split <;> omega
  unfold Sm
  rw [e]
  exact mg_len_le (by omega) (h2 151 (by omega))
theorem right02_c (s t : List UInt8) (hs : s.length ≤ 281474976710656) (ht : t.length ≤ 281474976710656) : Called Tryz.prog 116 [.agg [.str s, .str t]] (.bool (okP s t)) := by
  have r1 := right01_c s hs
  have r2 := right01_c t ht
  by_cases h1 : okW s = true
  · rw [h1] at r1
    by_cases h2 : okW t = true
    · rw [h2] at r2
      have i1 := in01_c s h1
      have i2 := in01_c t h2
      have g1 := divisor_c (wval s) (wval t) ((sm_wval h1).mono (by omega)) ((sm_wval h2).mono (by omega))
      have hz := mg_nil (B := 10000) (n := (wval t).natAbs) (by omega)
      have gl : Sm 151 (Int.gcd (wval s) (wval t) : Int) := by
        by_cases h0 : wval t = 0
        · rw [h0, Int.gcd_zero_right]
          exact (sm_wval h1).le (by omega)
        · exact (sm_wval h2).le (by
            rw [Int.natAbs_natCast]
            exact Nat.le_of_dvd (by omega) (Int.ofNat_dvd_left.1 (Int.gcd_dvd_right _ _)))
      have x1 := text_c _ (gl.mono (by omega))
      have hp : okP s t = (decide (0 < wval t) && decide (decZ (Int.gcd (wval s) (wval t) : Int) = [49])) := by
        unfold okP
        rw [h1, h2, Bool.true_and, Bool.true_and]
        congr 1
        refine decide_eq_decide.2 ⟨fun h => ?_, fun h => ?_⟩
        · rw [show Int.gcd (wval s) (wval t) = 1 from h]; decide
        · have := wval_decZ (Int.gcd (wval s) (wval t) : Int)
          rw [h] at this
          have e49 : wval [49] = 1 := by decide
          rw [e49] at this
          show Int.gcd (wval s) (wval t) = 1
          omega
      rw [hp]
      clear hp gl
      generalize wval s = x at *
      generalize wval t = y at *
      generalize (Int.gcd x y : Int) = g at *
      generalize decZ g = gt at *
      have hy : (decide (y < 0) || decide ((((mg 10000 y.natAbs).length : Nat) : Int) = 0)) = !decide (0 < y) := by
        rw [Bool.eq_iff_iff]
        simp only [Bool.or_eq_true, decide_eq_true_eq, Bool.not_eq_true', decide_eq_false_iff_not]
        constructor
        · rintro (h | h)
          · omega
          · have : mg 10000 y.natAbs = [] := List.length_eq_zero_iff.1 (by omega)
            have := hz.1 this
            omega
        · intro h
          by_cases h0 : y < 0
          · exact .inl h0
          · right
            have : mg 10000 y.natAbs = [] := hz.2 (by omega)
            rw [this]; rfl
      unfold plD at *
      refine called_of_run tbOk 6 ⟨Tryz.func116, rfl, rfl, Nat.le_of_ble_eq_true rfl⟩ ?_
      (conv => whnf)
      refine V.st ?_
      repeat ((try ((with_reducible refine .ext ?_); (conv => whnf))); (with_reducible refine call_intro (r := ?_) ?_ ?_); rotate_left; (focus (first | exact (r1) | exact (r2))); (conv => whnf); refine V.st ?_)
      refine ⟨(.take 0 (.take 1 (.take 3 (.take 4 (.ev (.cons 2 [4, 3] (.ev (.cons 5 [] (.ev (.cons 6 [] (.ev (.cons 7 [] (.ev (.cons 8 [] (.ev (.cons 9 [] (.done) (.nil))) (.nil))) (.nil))) (.cons 7 [] (.ev (.cons 6 [] (.ev (.cons 8 [] (.ev (.cons 9 [] (.done) (.nil))) (.nil))) (.nil))) (.nil)))) (.cons 6 [4, 3] (.ev (.cons 5 [] (.ev (.cons 7 [] (.ev (.cons 8 [] (.ev (.cons 9 [] (.done) (.nil))) (.nil))) (.nil))) (.cons 7 [4, 3] (.ev (.cons 5 [] (.ev (.cons 8 [] (.ev (.cons 9 [] (.done) (.nil))) (.nil))) (.nil))) (.nil)))) (.cons 7 [4, 3] (.ev (.cons 5 [] (.ev (.cons 6 [] (.ev (.cons 8 [] (.ev (.cons 9 [] (.done) (.nil))) (.nil))) (.nil))) (.cons 6 [4, 3] (.ev (.cons 5 [] (.ev (.cons 8 [] (.ev (.cons 9 [] (.done) (.nil))) (.nil))) (.nil))) (.nil)))) (.nil))))) (.cons 6 [4, 3, 1, 0] (.ev (.cons 2 [4, 3] (.ev (.cons 5 [] (.ev (.cons 7 [] (.ev (.cons 8 [] (.ev (.cons 9 [] (.done) (.nil))) (.nil))) (.nil))) (.cons 7 [4, 3] (.ev (.cons 5 [] (.ev (.cons 8 [] (.ev (.cons 9 [] (.done) (.nil))) (.nil))) (.nil))) (.nil)))) (.cons 7 [4, 3, 1, 0] (.ev (.cons 2 [4, 3] (.ev (.cons 5 [] (.ev (.cons 8 [] (.ev (.cons 9 [] (.done) (.nil))) (.nil))) (.nil))) (.nil))) (.nil)))) (.cons 7 [4, 3, 1, 0] (.ev (.cons 2 [4, 3] (.ev (.cons 5 [] (.ev (.cons 6 [] (.ev (.cons 8 [] (.ev (.cons 9 [] (.done) (.nil))) (.nil))) (.nil))) (.cons 6 [4, 3] (.ev (.cons 5 [] (.ev (.cons 8 [] (.ev (.cons 9 [] (.done) (.nil))) (.nil))) (.nil))) (.nil)))) (.cons 6 [4, 3, 1, 0] (.ev (.cons 2 [4, 3] (.ev (.cons 5 [] (.ev (.cons 8 [] (.ev (.cons 9 [] (.done) (.nil))) (.nil))) (.nil))) (.nil))) (.nil)))) (.nil))))))))), [], ⟨by kernel_rfl, by kernel_rfl, by kernel_rfl, by kernel_rfl⟩, ?_⟩
      refine drw_meet [(3, .box 3 0), (4, .box 4 0)] [(3, .box [.bool (decide (x < 0)), .ints .i64 (mg 10000 x.natAbs)]), (4, .box [.bool (decide (y < 0)), .ints .i64 (mg 10000 y.natAbs)])] ?_ ?_
      · (conv => whnf); (try simp only [Nat.zero_add])
        repeat' (first | exact V.wk | ((first | refine V.s1 ?_ | ((with_reducible refine recheck_and ?_ ?_); (focus ((conv => whnf); (try simp only [Nat.zero_add]); (repeat (refine V.s1 ?_; (try simp only [Nat.zero_add]))); exact ⟨rfl⟩)); (conv => whnf)) | ((try ((with_reducible refine .ext ?_); (conv => whnf); (try simp only [Nat.zero_add]))); (with_reducible refine call_intro (r := ?_) ?_ ?_); rotate_left; (focus (first | exact (i1) | exact (i2))); (conv => whnf))); (try simp only [Nat.zero_add])) | (refine And.intro ?_ ?_ <;> (conv => whnf); (try simp only [Nat.zero_add])))
      (conv => whnf)
      (conv => whnf)
      (try simp only [hy])
      repeat ((first | refine V.s1 ?_); (try simp only [hy]))
      refine Cnd.split (CondB.mk (fun hq => ?_) (fun hq => ?_))
      · simp only [Bool.not_eq_true', decide_eq_false_iff_not] at hq
        rw [decide_eq_false hq, Bool.false_and]
        (conv => whnf)
        refine V.st ?_
        exact Fin.of rfl
      · simp only [Bool.not_eq_false', decide_eq_true_eq] at hq
        rw [decide_eq_true hq, Bool.true_and]
        (conv => whnf)
        refine V.st ?_
        repeat ((try ((with_reducible refine .ext ?_); (conv => whnf))); (with_reducible refine call_intro (r := ?_) ?_ ?_); rotate_left; (focus (first | exact (g1) | exact (x1))); (conv => whnf); refine V.st ?_)
        exact Fin.of rfl
    · rw [Bool.eq_false_iff.2 h2] at r2
      have hp : okP s t = false := by unfold okP; rw [Bool.eq_false_iff.2 h2, Bool.and_false, Bool.false_and, Bool.false_and]
      rw [hp]
      refine called_of_run tbOk 6 ⟨Tryz.func116, rfl, rfl, Nat.le_of_ble_eq_true rfl⟩ ?_
      (conv => whnf)
      refine V.st ?_
      repeat ((try ((with_reducible refine .ext ?_); (conv => whnf))); (with_reducible refine call_intro (r := ?_) ?_ ?_); rotate_left; (focus (first | exact (r1) | exact (r2))); (conv => whnf); refine V.st ?_)
      exact Fin.of rfl
  · rw [Bool.eq_false_iff.2 h1] at r1
    have hp : okP s t = false := by unfold okP; rw [Bool.eq_false_iff.2 h1, Bool.false_and, Bool.false_and, Bool.false_and]
    rw [hp]
    refine called_of_run tbOk 6 ⟨Tryz.func116, rfl, rfl, Nat.le_of_ble_eq_true rfl⟩ ?_
    (conv => whnf)
    refine V.st ?_
    repeat ((try ((with_reducible refine .ext ?_); (conv => whnf))); (with_reducible refine call_intro (r := ?_) ?_ ?_); rotate_left; (focus (first | exact (r1) | exact (r2))); (conv => whnf); refine V.st ?_)
    refine Cnd.split (CondB.mk (fun hq => ?_) (fun hq => ?_))
    · (conv => whnf)
      refine V.st ?_
      exact Fin.of rfl
    · simp at hq
theorem q4_qv {s t : List UInt8} (h : okP s t = true) : Q4 151 (qv s t) := by
  obtain ⟨h1, h2, h3, h4⟩ := okP_of h
  obtain ⟨p1, p2⟩ := qv_parts h
  exact ⟨by rw [p1]; exact sm_wval h1, by rw [p2]; exact (sm_wval h2).le (by omega)⟩
theorem in02_c (s t : List UInt8) (h : okP s t = true) : Called Tryz.prog 118 [.agg [.str s, .str t]] (raD (qv s t)) := by
  obtain ⟨h1, h2, h3, h4⟩ := okP_of h
  obtain ⟨p1, p2⟩ := qv_parts h
  have i1 := in01_c s h1
  have i2 := in01_c t h2
  unfold raD
  rw [p1, p2]
  unfold plD at i1 i2
  rw [decide_eq_false (show ¬ wval t < 0 by omega)] at i2
  refine called_of_run tbOk 6 ⟨Tryz.func118, rfl, rfl, Nat.le_of_ble_eq_true rfl⟩ ?_
  (conv => whnf)
  refine V.st ?_
  refine ⟨(.take 0 (.take 1 (.take 3 (.take 4 (.ev (.cons 2 [4, 3] (.ev (.cons 5 [] (.take 6 (.ev (.cons 7 [] (.done) (.nil)))) (.nil))) (.nil))))))), [], ⟨by kernel_rfl, by kernel_rfl, by kernel_rfl, by kernel_rfl⟩, .go (drawD_one ?_)⟩
  (conv => whnf)
  refine V.st ?_
  repeat ((try ((with_reducible refine .ext ?_); (conv => whnf))); (with_reducible refine call_intro (r := ?_) ?_ ?_); rotate_left; (focus (first | exact (i1) | exact (i2))); (conv => whnf); refine V.st ?_)
  exact Fin.of rfl
theorem rcheck_c (s t : List UInt8) (hs : s.length ≤ 281474976710656) (ht : t.length ≤ 281474976710656) : Called Tryz.prog 85 [.agg [.str s, .str t]] (.int .i64 (if okP s t then 0 else 20)) := by
  have r1 := right02_c s t hs ht
  by_cases h : okP s t = true
  · rw [h] at r1 ⊢
    rw [if_pos rfl]
    refine called_of_run tbOk 6 ⟨Tryz.func85, rfl, rfl, Nat.le_of_ble_eq_true rfl⟩ ?_
    (conv => whnf)
    refine V.st ?_
    repeat ((try ((with_reducible refine .ext ?_); (conv => whnf))); (with_reducible refine call_intro (r := ?_) ?_ ?_); rotate_left; (focus (first | exact (r1))); (conv => whnf); refine V.st ?_)
    exact Fin.of rfl
  · rw [if_neg h]
    rw [Bool.eq_false_iff.2 h] at r1
    refine called_of_run tbOk 6 ⟨Tryz.func85, rfl, rfl, Nat.le_of_ble_eq_true rfl⟩ ?_
    (conv => whnf)
    refine V.st ?_
    repeat ((try ((with_reducible refine .ext ?_); (conv => whnf))); (with_reducible refine call_intro (r := ?_) ?_ ?_); rotate_left; (focus (first | exact (r1))); (conv => whnf); refine V.st ?_)
    exact Fin.of rfl
theorem okP_len {s t : List UInt8} (h : okP s t = true) : s.length ≤ 281474976710656 ∧ t.length ≤ 281474976710656 := by
  obtain ⟨h1, h2, _, _⟩ := okP_of h
  have l1 := (okW_len h1).1
  have l2 := (okW_len h2).1
  omega
end Go.Proofs.YtfilfmadapjajaaGreatDoor
end
section
namespace Go.Proofs.YtfilfmadapjajaaGreatDoor
open Go Go.V Go.Nb
theorem wread_v (s : List UInt8) (h : okW s = true) : Called Tryz.prog 138 [.str s] (.tup [itD (wval s), .bool true]) := by
  have hcp := cutPrefix_c s [45]
  unfold wval itD
  unfold okW at h
  have hl : ((Go.Lib.trimPrefix s [45]).length ≠ 0 ∧ (Go.Lib.trimPrefix s [45]).length ≤ 600) ∧ (∀ c ∈ Go.Lib.trimPrefix s [45], isDig c = true) ∧ (decide ((Go.Lib.trimPrefix s [45]).getD 0 0 = 48) && (Go.Lib.hasPrefix s [45] || decide (1 < (Go.Lib.trimPrefix s [45]).length))) = false := by
    unfold okD at h
    simp only [Bool.and_eq_true, Bool.not_eq_true', Bool.or_eq_false_iff, decide_eq_false_iff_not, List.all_eq_true] at h
    exact ⟨by omega, h.1.2, h.2⟩
  have hg := wgather_c _ hl.2.1 (by omega)
  generalize Go.Lib.trimPrefix s [45] = d at *
  have e : (if Go.Lib.hasPrefix s [45] = true then -((rdv d : Nat) : Int) else ((rdv d : Nat) : Int)).natAbs = rdv d ∧ decide ((if Go.Lib.hasPrefix s [45] = true then -((rdv d : Nat) : Int) else ((rdv d : Nat) : Int)) < 0) = Go.Lib.hasPrefix s [45] := by
    cases hn : Go.Lib.hasPrefix s [45] with
    | true =>
      rw [hn] at h
      have := okD_nz h
      exact ⟨by simp, by simp; omega⟩
    | false => exact ⟨by simp, by simp⟩
  rw [e.1, e.2]
  generalize Go.Lib.hasPrefix s [45] = neg at *
  obtain ⟨⟨h0, h6⟩, hall, h4⟩ := hl
  clear h e
  refine called_of_run tbOk 6 ⟨Tryz.func138, rfl, rfl, Nat.le_of_ble_eq_true rfl⟩ ?_
  (conv => whnf)
  refine V.st ?_
  repeat ((try ((with_reducible refine .ext ?_); (conv => whnf))); (with_reducible refine call_intro (r := ?_) ?_ ?_); rotate_left; (focus (first | exact (hcp))); (conv => whnf); refine V.st ?_)
  refine Cnd.split (CondB.mk (fun hq => ?_) (fun hq => ?_))
  · exfalso
    simp only [Bool.or_eq_true, decide_eq_true_eq] at hq
    omega
  · (conv => whnf)
    refine V.st ?_
    refine lp_any (0 : Nat) (fun k => k ≤ d.length) (fun k => d.length - k) (fun k => [(23, .int .i64 k)]) (fun _ => []) ?_ ?_ ?_
    · exact V.wk
    · exact Nat.zero_le _
    intro k hk
    have hkc : ((k : Int) + 1) = ((k + 1 : Nat) : Int) := by omega
    (conv => whnf)
    refine V.st ?_
    refine Cnd.split (CondB.mk (fun hq2 => ?_) (fun hq2 => ?_))
    · rw [decide_eq_true_eq] at hq2
      have hdl := dig_lo (d.getD k 0)
      have hdg : isDig (d.getD k 0) = true := by
        refine hall _ ?_
        rw [List.getD_eq_getElem?_getD, List.getElem?_eq_getElem (by omega)]
        exact List.getElem_mem _
      generalize hc : d.getD k 0 = c at *
      (conv => whnf)
      (try simp only [Int.toNat_natCast, hc, hkc])
      repeat ((first | refine V.s1 ?_); (try simp only [Int.toNat_natCast, hc, hkc]))
      refine Cnd.split (CondB.mk (fun hq3 => ?_) (fun hq3 => ?_))
      · exfalso
        rw [Bool.or_eq_true, decide_eq_true_eq, decide_eq_true_eq] at hq3
        have := hdl.1 hdg
        omega
      · (conv => whnf)
        (try simp only [hkc])
        repeat ((first | refine V.s1 ?_); (try simp only [hkc]))
        exact ⟨k + 1, by omega, by omega, V.wk⟩
    · rw [decide_eq_false_iff_not] at hq2
      obtain rfl : k = d.length := by omega
      have hu : decide ((((d.getD 0 0).toNat : Nat) : Int) = 48) = decide (d.getD 0 0 = 48) := decide_eq_decide.2 ⟨fun h => UInt8.toNat_inj.1 (by have e : (48 : UInt8).toNat = 48 := rfl; rw [e]; omega), fun h => by rw [h]; rfl⟩
      have hl : decide ((d.length : Int) > 1) = decide (1 < d.length) := decide_eq_decide.2 (by omega)
      have e0 : (0 : Int).toNat = 0 := rfl
      (conv => whnf)
      (try simp only [e0, hu, hl])
      repeat ((first | refine V.s1 ?_); (try simp only [e0, hu, hl]))
      refine And.intro (fun h1 h2 => by rw [h1, h2]; rfl) ?_
      (conv => whnf)
      (try simp only [e0, hu, hl])
      repeat ((first | refine V.s1 ?_); (try simp only [e0, hu, hl]))
      refine Cnd.split (CondB.mk (fun hq4 => ?_) (fun hq4 => ?_))
      · exfalso
        rw [h4] at hq4
        cases hq4
      · (conv => whnf)
        refine V.st ?_
        repeat ((try ((with_reducible refine .ext ?_); (conv => whnf))); (with_reducible refine call_intro (r := ?_) ?_ ?_); rotate_left; (focus (first | exact (hg))); (conv => whnf); refine V.st ?_)
        exact Fin.of rfl
theorem wwrite_c (z : Int) (hl : (dec z.natAbs).length ≤ 600) : Called Tryz.prog 156 [itD z] (.tup [.str (decZ z), .int .i64 0]) := by
  have hz : (mg 1000000000 z.natAbs).length ≤ 67 := by
    have := okW_len (okW_decZ z hl)
    rw [wval_decZ] at this
    exact len9 this.2
  have hd := wdigits_c z.natAbs (by omega)
  have h1 := wlength_c z.natAbs (by omega)
  unfold itD
  refine called_of_run tbOk 6 ⟨Tryz.func156, rfl, rfl, Nat.le_of_ble_eq_true rfl⟩ ?_
  (conv => whnf)
  refine V.st ?_
  repeat ((try ((with_reducible refine .ext ?_); (conv => whnf))); (with_reducible refine call_intro (r := ?_) ?_ ?_); rotate_left; (focus (first | exact (h1))); (conv => whnf); refine V.st ?_)
  refine Cnd.split (CondB.mk (fun hq => ?_) (fun hq => ?_))
  · exfalso
    rw [decide_eq_true_eq] at hq
    omega
  (conv => whnf)
  refine V.st ?_
  refine Cnd.split (CondB.mk (fun hq2 => ?_) (fun hq2 => ?_))
  · rw [decide_eq_true_eq] at hq2
    (conv => whnf)
    refine V.st ?_
    repeat ((try ((with_reducible refine .ext ?_); (conv => whnf))); (with_reducible refine call_intro (r := ?_) ?_ ?_); rotate_left; (focus (first | exact (hd))); (conv => whnf); refine V.st ?_)
    exact Fin.of (by unfold decZ; rw [if_pos hq2]; rfl)
  · rw [decide_eq_false_iff_not] at hq2
    (conv => whnf)
    refine V.st ?_
    repeat ((try ((with_reducible refine .ext ?_); (conv => whnf))); (with_reducible refine call_intro (r := ?_) ?_ ?_); rotate_left; (focus (first | exact (hd))); (conv => whnf); refine V.st ?_)
    exact Fin.of (by unfold decZ; rw [if_neg hq2])
theorem mg_one : mg 1000000000 1 = [1] := by decide +kernel
theorem wpower_c (a n : Nat) (ha : (mg 1000000000 a).length ≤ 100000000) (h : ∀ k, k ≤ n → (mg 1000000000 (a ^ k)).length ≤ 100000000) (hn : n ≤ 40) : Called Tryz.prog 158 [.ints .u32 (mg 1000000000 a), .int .i64 n] (.ints .u32 (mg 1000000000 (a ^ n))) := by
  have ht : ∀ k, k ≤ n → Called Tryz.prog 184 [.ints .u32 (mg 1000000000 a), .ints .u32 (mg 1000000000 (a ^ k))] (.ints .u32 (mg 1000000000 (a ^ (k + 1)))) := fun k hk => by
    have := wtimes_c a (a ^ k) ha (h k hk)
    rw [show a * a ^ k = a ^ (k + 1) by rw [Nat.pow_succ, Nat.mul_comm]] at this
    exact this
  have h0 : mg 1000000000 (a ^ 0) = [1] := by rw [Nat.pow_zero]; exact mg_one
  clear h ha
  obtain ⟨G, hG⟩ : ∃ G : Nat → List Int, ∀ k, mg 1000000000 (a ^ k) = G k := ⟨fun k => mg 1000000000 (a ^ k), fun _ => rfl⟩
  simp only [hG] at ht h0 ⊢
  clear hG
  generalize mg 1000000000 a = xs at *
  refine called_of_run tbOk 6 ⟨Tryz.func158, rfl, rfl, Nat.le_of_ble_eq_true rfl⟩ ?_
  (conv => whnf)
  refine V.st ?_
  refine Lp.pub 7 ?_
  (conv => whnf)
  refine lp_any (0) (fun k => k ≤ n) (fun k => n - k) (fun k => [(11, .int .i64 k), (5, .ints .u32 (G k))]) (fun k => [(7, .gone)]) ?_ ?_ ?_
  · rw [h0]
    exact V.wk
  · exact Nat.zero_le _
  intro k hk
  have hkc : ((k : Int) + 1) = ((k + 1 : Nat) : Int) := by omega
  (conv => whnf)
  refine V.st ?_
  refine Cnd.split (CondB.mk (fun hq => ?_) (fun hq => ?_))
  · have c := ht k hk
    rw [decide_eq_true_eq] at hq
    (conv => whnf)
    (try simp only [hkc])
    repeat ((first | refine V.s1 ?_ | ((try ((with_reducible refine .ext ?_); (conv => whnf); (try simp only [hkc]))); (with_reducible refine call_intro (r := ?_) ?_ ?_); rotate_left; (focus (first | exact (c))); (conv => whnf))); (try simp only [hkc]))
    exact ⟨k + 1, by omega, by omega, V.wk⟩
  · rw [decide_eq_false_iff_not] at hq
    obtain rfl : k = n := by omega
    (conv => whnf)
    refine V.st ?_
    exact Fin.of rfl
theorem ztext_len {z : Int} {n : Nat} (h : z.natAbs < 10 ^ n) (h0 : 0 < n) : (dec z.natAbs).length ≤ n := dec_len _ _ h h0
theorem pow_sgn (z : Int) (n : Nat) (hn : n ≤ 3) : (if (decide (z < 0) && decide ((n : Int) % 2 = 1)) = true then -((z.natAbs ^ n : Nat) : Int) else ((z.natAbs ^ n : Nat) : Int)) = z ^ n := by
  have h4 : n = 0 ∨ n = 1 ∨ n = 2 ∨ n = 3 := by omega
  by_cases hz : z < 0
  · obtain ⟨m, rfl⟩ : ∃ m : Nat, z = -(m : Int) := ⟨z.natAbs, by omega⟩
    rw [decide_eq_true hz]
    rcases h4 with rfl | rfl | rfl | rfl
    · simp
    · simp [Int.pow_succ]
    · simp [Int.pow_succ, Nat.pow_succ, Int.neg_mul, Int.mul_neg]
    · simp [Int.pow_succ, Nat.pow_succ, Int.neg_mul, Int.mul_neg]
  · obtain ⟨m, rfl⟩ : ∃ m : Nat, z = (m : Int) := ⟨z.natAbs, by omega⟩
    rw [decide_eq_false hz]
    simp
theorem len9N {n N : Nat} (hN : N ≤ 600) (h : n < 10 ^ N) : (mg 1000000000 n).length ≤ 67 := by
  refine mg_len_le (by omega) (Nat.lt_of_lt_of_le h ?_)
  have h1 : ∀ k, (1000000000 : Nat) ^ k = 10 ^ (9 * k) := fun k => by rw [Nat.pow_mul]
  obtain ⟨m, hm⟩ : ∃ m, m = 9 * 67 := ⟨_, rfl⟩
  rw [h1 67, ← hm]
  exact Nat.pow_le_pow_right (by omega) (by omega)
theorem one_lt_ten (n : Nat) (h : 0 < n) : 1 < 10 ^ n := Nat.one_lt_pow (by omega) (by omega)
theorem wpow_c (z : Int) (n m : Nat) (hm : m ≤ 3) (hz : z.natAbs < 10 ^ n) (h0 : 0 < n) (h6 : n * m ≤ 600) (h7 : n ≤ 600) : Called Tryz.prog 126 [.str (decZ z), .int .i64 m] (.tup [.str (decZ (z ^ m)), .int .i64 0]) := by
  have hl := ztext_len hz h0
  have r1 := wread_v (decZ z) (okW_decZ z (by omega))
  rw [wval_decZ] at r1
  have hb' : ∀ N, 0 < N → n * m ≤ N → ∀ k, k ≤ m → z.natAbs ^ k < 10 ^ N := fun N hN h6 k hk => by
    rcases Nat.eq_zero_or_pos k with e | e
    · rw [e, Nat.pow_zero]; exact one_lt_ten _ hN
    · refine Nat.lt_of_lt_of_le (Nat.pow_lt_pow_left hz (by omega)) ?_
      rw [← Nat.pow_mul]
      exact Nat.pow_le_pow_right (by omega) (Nat.le_trans (Nat.mul_le_mul_left n hk) h6)
  obtain ⟨N, hN⟩ : ∃ N, N = 600 := ⟨_, rfl⟩
  have hb := hb' N (by omega) (by omega)
  clear hb'
  have p1 := wpower_c z.natAbs m (by have := len9N h7 hz; omega) (fun k hk => by have := len9N (by omega) (hb k hk); omega) (by omega)
  have s1 := wsigned_c (z.natAbs ^ m) (decide (z < 0) && decide ((m : Int) % 2 = 1))
  rw [pow_sgn z m hm] at s1
  have w1 := wwrite_c (z ^ m) (by
    rw [Int.natAbs_pow]
    have := dec_len _ _ (hb m (Nat.le_refl m)) (by omega)
    omega)
  generalize decZ (z ^ m) = o at *
  generalize z ^ m = zm at *
  generalize mg 1000000000 (z.natAbs ^ m) = xm at *
  unfold itD at *
  generalize mg 1000000000 zm.natAbs = ym at *
  generalize decide (zm < 0) = nm at *
  generalize decZ z = s at *
  generalize decide (z < 0) = neg at *
  generalize mg 1000000000 z.natAbs = xs at *
  clear hb hz hl
  refine called_of_run tbOk 6 ⟨Tryz.func126, rfl, rfl, Nat.le_of_ble_eq_true rfl⟩ ?_
  (conv => whnf)
  refine V.st ?_
  repeat ((try ((with_reducible refine .ext ?_); (conv => whnf))); (with_reducible refine call_intro (r := ?_) ?_ ?_); rotate_left; (focus (first | exact (r1))); (conv => whnf); refine V.st ?_)
  (conv => whnf)
  refine V.st ?_
  refine Cnd.split (CondB.mk (fun hq => ?_) (fun hq => ?_))
  · exfalso
    simp at hq
    omega
  refine ⟨(.take 0 (.take 1 (.take 2 (.take 4 (.take 5 (.ev (.cons 3 [5, 4] (.take 6 (.take 7 (.take 8 (.take 9 (.take 10 (.ev (.cons 11 [] (.ev (.cons 12 [] (.take 13 (.take 14 (.take 15 (.take 16 (.done))))) (.nil))) (.nil)))))))) (.nil)))))))), [], ⟨by kernel_rfl, by kernel_rfl, by kernel_rfl, by kernel_rfl⟩, ?_⟩
  refine drw_meet [(4, .str o), (5, .int .i64 0)] [] ?_ ?_
  · (conv => whnf); (try simp only [Nat.zero_add])
    repeat' (first | exact V.wk | ((first | refine V.s1 ?_ | ((with_reducible refine recheck_and ?_ ?_); (focus ((conv => whnf); (try simp only [Nat.zero_add]); (repeat (refine V.s1 ?_; (try simp only [Nat.zero_add]))); exact ⟨rfl⟩)); (conv => whnf)) | ((try ((with_reducible refine .ext ?_); (conv => whnf); (try simp only [Nat.zero_add]))); (with_reducible refine call_intro (r := ?_) ?_ ?_); rotate_left; (focus (first | exact (p1) | exact (s1) | exact (w1))); (conv => whnf))); (try simp only [Nat.zero_add])) | (refine And.intro ?_ ?_ <;> (conv => whnf); (try simp only [Nat.zero_add])))
  (conv => whnf)
  refine V.st ?_
  exact Fin.of rfl
theorem zpow {n m : Nat} {q : Rat} (h : Fq n q) (hm : m ≤ 3) (h0 : 0 < n) (h6 : n * m ≤ 600) (h7 : n ≤ 600) : Called Tryz.prog 98 [frT q, .int .i64 m] (.tup [frT (q ^ m), .int .i64 0]) := by
  have hq := h.ok h0 h7
  obtain ⟨h1, e1⟩ := okP_dec hq
  have hl := okP_len h1
  have ck := fcheck_c (decZ q.num) (dec q.den) hl.1 hl.2
  rw [h1] at ck
  have p1 := wpow_c q.num n m hm h.1 h0 h6 h7
  have p2 := wpow_c q.den n m hm h.2 h0 h6 h7
  have ed : ∀ d : Nat, decZ (d : Int) = dec d := fun d => by unfold decZ; rw [if_neg (by omega), Int.natAbs_natCast]
  rw [← Int.natCast_pow, ed, ed, ← Rat.den_pow] at p2
  rw [← Rat.num_pow] at p1
  unfold frT
  generalize decZ (q ^ m).num = a at *
  generalize dec (q ^ m).den = b at *
  generalize decZ q.num = c at *
  generalize dec q.den = d at *
  refine called_of_run tbOk 6 ⟨Tryz.func98, rfl, rfl, Nat.le_of_ble_eq_true rfl⟩ ?_
  (conv => whnf)
  refine V.st ?_
  repeat ((try ((with_reducible refine .ext ?_); (conv => whnf))); (with_reducible refine call_intro (r := ?_) ?_ ?_); rotate_left; (focus (first | exact (ck) | exact (p1) | exact (p2))); (conv => whnf); refine V.st ?_)
  exact Fin.of rfl
end Go.Proofs.YtfilfmadapjajaaGreatDoor
end
section
namespace Go.Proofs.YtfilfmadapjajaaGreatDoor
open Go Go.V Go.Nb
abbrev Tx := List UInt8 × List UInt8
def okX (x : Tx) : Bool := okP x.1 x.2
def qX (x : Tx) : Rat := qv x.1 x.2
def xT (q : Rat) : Tx := (decZ q.num, dec q.den)
def noX : Tx := ([], [])
def txD (x : Tx) : D := .agg [.str x.1, .str x.2]
def triD (x y z : Tx) : D := .agg [.str x.1, .str x.2, .str y.1, .str y.2, .str z.1, .str z.2]
def BdX (n : Nat) (x : Tx) : Prop := (x.1.length ≤ 281474976710656 ∧ x.2.length ≤ 281474976710656) ∧ (okX x = true → Fq n (qX x))
theorem xT_ok {n : Nat} {q : Rat} (h : Fq n q) (h0 : 0 < n ∧ n ≤ 600) : okX (xT q) = true ∧ qX (xT q) = q := okP_dec (h.ok h0.1 h0.2)
theorem qX_text {x : Tx} (h : okX x = true) : xT (qX x) = x := by
  obtain ⟨h1, h2⟩ := okP_text (s := x.1) (t := x.2) h
  exact Prod.ext h1 h2
theorem txD_q {x : Tx} (h : okX x = true) : txD x = frT (qX x) := (frT_text (s := x.1) (t := x.2) h).symm
theorem xT_bd {n : Nat} {q : Rat} (h : Fq n q) (h0 : 0 < n ∧ n ≤ 600) : BdX n (xT q) := by
  obtain ⟨h1, h2⟩ := xT_ok h h0
  have hl := okW_len (okP_of h1).1
  have hl2 := okW_len (okP_of h1).2.1
  exact ⟨⟨by have := hl.1; omega, by have := hl2.1; omega⟩, fun _ => by rw [h2]; exact h⟩
theorem odd_bd {s t : List UInt8} (hs : s.length ≤ 20) (ht : t.length ≤ 20) : BdX 20 (s, t) :=
  ⟨⟨by dsimp only; omega, by dsimp only; omega⟩, fun h => fq_text h hs ht⟩
theorem BdX.mono {m n : Nat} {x : Tx} (h : BdX m x) (hl : m ≤ n) : BdX n x := ⟨h.1, fun g => (h.2 g).mono hl⟩
def fr3 (x y z : Tx) : Int := if okX x && okX y && okX z then 0 else 20
def chk3 (x y z : Tx) : Int := if okX x && okX y && okX z then (if (qX x).num < 0 ∨ (qX y).num < 0 ∨ (qX z).num < 0 then 2 else 0) else 20
def snd3 (x y z : Tx) : Int := if chk3 x y z = 0 then (if (qX x).num = 0 ∨ (qX y).num = 0 ∨ (qX z).num = 0 then 2 else 0) else chk3 x y z
def triE (t : Tx × Tx × Tx) (e : Int) : D := .tup [triD t.1 t.2.1 t.2.2, .int .i64 e]
def colX (x y l : Rat) : Tx × Tx × Tx := (xT (x * l / y), xT l, xT ((1 - x - y) * l / y))
def no3 : Tx × Tx × Tx := (noX, noX, noX)
def fromX (x y l : Tx) : D :=
  if okX x && okX y && okX l then
    (if (qX x).num < 0 ∨ (qX y).num < 0 ∨ (qX l).num < 0 ∨ 1 < qX x + qX y then triE no3 2 else if (qX y).num = 0 then triE no3 7 else triE (colX (qX x) (qX y) (qX l)) 0)
  else triE no3 20
def x3E (x y z : Tx) (e : Int) : D := .tup [txD x, txD y, txD z, .int .i64 e]
def toX (x y z : Tx) : D :=
  if chk3 x y z = 0 then
    (if (qX x + qX y + qX z).num = 0 then x3E noX noX noX 7 else x3E (xT (qX x / (qX x + qX y + qX z))) (xT (qX y / (qX x + qX y + qX z))) y 0)
  else x3E noX noX noX (chk3 x y z)
def mixQ (t a b : Rat) : Rat := (1 - t) * a + t * b
def mixX (a b : Tx × Tx × Tx) (t : Tx) : D :=
  if chk3 a.1 a.2.1 a.2.2 = 0 then
    (if chk3 b.1 b.2.1 b.2.2 = 0 then
      (if okX t then
        (if (qX t).num < 0 ∨ 1 < qX t then triE no3 2
         else triE (xT (mixQ (qX t) (qX a.1) (qX b.1)), xT (mixQ (qX t) (qX a.2.1) (qX b.2.1)), xT (mixQ (qX t) (qX a.2.2) (qX b.2.2))) 0)
       else triE no3 20)
     else triE no3 (chk3 b.1 b.2.1 b.2.2))
  else triE no3 (chk3 a.1 a.2.1 a.2.2)
end Go.Proofs.YtfilfmadapjajaaGreatDoor
end
section
namespace Go.Proofs.YtfilfmadapjajaaGreatDoor
open Go Go.V Go.Nb
theorem pow_4 (k : Nat) : (10000 : Nat) ^ k = 10 ^ (4 * k) := by rw [show (10000 : Nat) = 10 ^ 4 from rfl, ← Nat.pow_mul]
theorem sm_nat {x : Nat} {k : Nat} (hk : k ≤ 90000000) (h : x < 10 ^ (4 * k)) : (mg 10000 x).length ≤ 90000000 :=
  Nat.le_trans (mg_len_le (k := k) (by omega) (by rw [pow_4]; exact h)) hk
theorem sm_fq {n : Nat} {q : Rat} (h : Fq n q) (h6 : n ≤ 600) : Sm 90000000 q.num ∧ Sm 90000000 (q.den : Int) := by
  have h2 := h.mono (n := 4 * 150) (by omega)
  obtain ⟨k, hk⟩ : ∃ k, 150 = k := ⟨_, rfl⟩
  rw [hk] at h2
  exact ⟨sm_nat (by omega) h2.1, by unfold Sm; rw [Int.natAbs_natCast]; exact sm_nat (by omega) h2.2⟩
theorem radd (s t u v : List UInt8) (h : okP s t = true) (g : okP u v = true) (hn : Sm 90000000 (qv s t + qv u v).num) (hd : Sm 90000000 ((qv s t + qv u v).den : Int)) : Called Tryz.prog 93 [.agg [.str s, .str t], .agg [.str u, .str v]] (frR (qv s t + qv u v)) := by
  have r1 := right02_c s t (okP_len h).1 (okP_len h).2
  have r2 := right02_c u v (okP_len g).1 (okP_len g).2
  rw [h] at r1
  rw [g] at r2
  have i1 := in02_c s t h
  have i2 := in02_c u v g
  have o := plus02_c (qv s t) (qv u v) ((q4_qv h).mono (by omega)) ((q4_qv g).mono (by omega))
  have w := out02_c (qv s t + qv u v) hn hd
  generalize qv s t + qv u v = q at *
  generalize qv s t = q1 at *
  generalize qv u v = q2 at *
  unfold frR at w ⊢
  refine called_of_run tbOk 6 ⟨Tryz.func93, rfl, rfl, Nat.le_of_ble_eq_true rfl⟩ ?_
  (conv => whnf)
  refine V.st ?_
  repeat ((try ((with_reducible refine .ext ?_); (conv => whnf))); (with_reducible refine call_intro (r := ?_) ?_ ?_); rotate_left; (focus (first | exact (r1) | exact (r2))); (conv => whnf); refine V.st ?_)
  refine ⟨(.take 0 (.take 2 (.ev (.cons 1 [2] (.ev (.cons 3 [] (.ev (.cons 4 [] (.ev (.cons 5 [] (.take 6 (.take 7 (.ev (.cons 8 [] (.take 9 (.done)) (.nil))))) (.nil))) (.nil))) (.nil))) (.nil))))), [], ⟨by kernel_rfl, by kernel_rfl, by kernel_rfl, by kernel_rfl⟩, .go (drawD_one ?_)⟩
  (conv => whnf)
  refine V.st ?_
  repeat ((try ((with_reducible refine .ext ?_); (conv => whnf))); (with_reducible refine call_intro (r := ?_) ?_ ?_); rotate_left; (focus (first | exact (i1) | exact (i2) | exact (o) | exact (w))); (conv => whnf); refine V.st ?_)
  exact Fin.of rfl
theorem rsub (s t u v : List UInt8) (h : okP s t = true) (g : okP u v = true) (hn : Sm 90000000 (qv s t - qv u v).num) (hd : Sm 90000000 ((qv s t - qv u v).den : Int)) : Called Tryz.prog 91 [.agg [.str s, .str t], .agg [.str u, .str v]] (frR (qv s t - qv u v)) := by
  have r1 := right02_c s t (okP_len h).1 (okP_len h).2
  have r2 := right02_c u v (okP_len g).1 (okP_len g).2
  rw [h] at r1
  rw [g] at r2
  have i1 := in02_c s t h
  have i2 := in02_c u v g
  have o := minus02_c (qv s t) (qv u v) ((q4_qv h).mono (by omega)) ((q4_qv g).mono (by omega))
  have w := out02_c (qv s t - qv u v) hn hd
  generalize qv s t - qv u v = q at *
  generalize qv s t = q1 at *
  generalize qv u v = q2 at *
  unfold frR at w ⊢
  refine called_of_run tbOk 6 ⟨Tryz.func91, rfl, rfl, Nat.le_of_ble_eq_true rfl⟩ ?_
  (conv => whnf)
  refine V.st ?_
  repeat ((try ((with_reducible refine .ext ?_); (conv => whnf))); (with_reducible refine call_intro (r := ?_) ?_ ?_); rotate_left; (focus (first | exact (r1) | exact (r2))); (conv => whnf); refine V.st ?_)
  refine ⟨(.take 0 (.take 2 (.ev (.cons 1 [2] (.ev (.cons 3 [] (.ev (.cons 4 [] (.ev (.cons 5 [] (.take 6 (.take 7 (.ev (.cons 8 [] (.take 9 (.done)) (.nil))))) (.nil))) (.nil))) (.nil))) (.nil))))), [], ⟨by kernel_rfl, by kernel_rfl, by kernel_rfl, by kernel_rfl⟩, .go (drawD_one ?_)⟩
  (conv => whnf)
  refine V.st ?_
  repeat ((try ((with_reducible refine .ext ?_); (conv => whnf))); (with_reducible refine call_intro (r := ?_) ?_ ?_); rotate_left; (focus (first | exact (i1) | exact (i2) | exact (o) | exact (w))); (conv => whnf); refine V.st ?_)
  exact Fin.of rfl
theorem rmul (s t u v : List UInt8) (h : okP s t = true) (g : okP u v = true) (hn : Sm 90000000 (qv s t * qv u v).num) (hd : Sm 90000000 ((qv s t * qv u v).den : Int)) : Called Tryz.prog 95 [.agg [.str s, .str t], .agg [.str u, .str v]] (frR (qv s t * qv u v)) := by
  have r1 := right02_c s t (okP_len h).1 (okP_len h).2
  have r2 := right02_c u v (okP_len g).1 (okP_len g).2
  rw [h] at r1
  rw [g] at r2
  have i1 := in02_c s t h
  have i2 := in02_c u v g
  have o := times02_c (qv s t) (qv u v) ((q4_qv h).mono (by omega)) ((q4_qv g).mono (by omega))
  have w := out02_c (qv s t * qv u v) hn hd
  generalize qv s t * qv u v = q at *
  generalize qv s t = q1 at *
  generalize qv u v = q2 at *
  unfold frR at w ⊢
  refine called_of_run tbOk 6 ⟨Tryz.func95, rfl, rfl, Nat.le_of_ble_eq_true rfl⟩ ?_
  (conv => whnf)
  refine V.st ?_
  repeat ((try ((with_reducible refine .ext ?_); (conv => whnf))); (with_reducible refine call_intro (r := ?_) ?_ ?_); rotate_left; (focus (first | exact (r1) | exact (r2))); (conv => whnf); refine V.st ?_)
  refine ⟨(.take 0 (.take 2 (.ev (.cons 1 [2] (.ev (.cons 3 [] (.ev (.cons 4 [] (.ev (.cons 5 [] (.take 6 (.take 7 (.ev (.cons 8 [] (.take 9 (.done)) (.nil))))) (.nil))) (.nil))) (.nil))) (.nil))))), [], ⟨by kernel_rfl, by kernel_rfl, by kernel_rfl, by kernel_rfl⟩, .go (drawD_one ?_)⟩
  (conv => whnf)
  refine V.st ?_
  repeat ((try ((with_reducible refine .ext ?_); (conv => whnf))); (with_reducible refine call_intro (r := ?_) ?_ ?_); rotate_left; (focus (first | exact (i1) | exact (i2) | exact (o) | exact (w))); (conv => whnf); refine V.st ?_)
  exact Fin.of rfl
theorem zradd {a b : Nat} {p q : Rat} (h : Fq a p) (g : Fq b q) (ha : 0 < a) (hb : 0 < b) (hab : a + b + 1 ≤ 600) : Called Tryz.prog 93 [frT p, frT q] (.tup [frT (p + q), .int .i64 0]) := by
  obtain ⟨o1, e1⟩ := okP_dec (h.ok ha (by omega))
  obtain ⟨o2, e2⟩ := okP_dec (g.ok hb (by omega))
  have hs := h.add g
  have hm := sm_fq hs (by omega)
  have c := radd _ _ _ _ o1 o2 (by rw [e1, e2]; exact hm.1) (by rw [e1, e2]; exact hm.2)
  rw [e1, e2, frR_ok (hs.ok (by omega) (by omega))] at c
  exact c
theorem zrsub {a b : Nat} {p q : Rat} (h : Fq a p) (g : Fq b q) (ha : 0 < a) (hb : 0 < b) (hab : a + b + 1 ≤ 600) : Called Tryz.prog 91 [frT p, frT q] (.tup [frT (p - q), .int .i64 0]) := by
  obtain ⟨o1, e1⟩ := okP_dec (h.ok ha (by omega))
  obtain ⟨o2, e2⟩ := okP_dec (g.ok hb (by omega))
  have hs := h.sub g
  have hm := sm_fq hs (by omega)
  have c := rsub _ _ _ _ o1 o2 (by rw [e1, e2]; exact hm.1) (by rw [e1, e2]; exact hm.2)
  rw [e1, e2, frR_ok (hs.ok (by omega) (by omega))] at c
  exact c
theorem zrmul {a b : Nat} {p q : Rat} (h : Fq a p) (g : Fq b q) (ha : 0 < a) (hb : 0 < b) (hab : a + b + 1 ≤ 600) : Called Tryz.prog 95 [frT p, frT q] (.tup [frT (p * q), .int .i64 0]) := by
  obtain ⟨o1, e1⟩ := okP_dec (h.ok ha (by omega))
  obtain ⟨o2, e2⟩ := okP_dec (g.ok hb (by omega))
  have hs := h.mul g
  have hm := sm_fq hs (by omega)
  have c := rmul _ _ _ _ o1 o2 (by rw [e1, e2]; exact hm.1) (by rw [e1, e2]; exact hm.2)
  rw [e1, e2, frR_ok (hs.ok (by omega) (by omega))] at c
  exact c
theorem dec_one (n : Nat) : (dec n = [48]) ↔ n = 0 := ⟨fun h => by have := rdv_dec n; rw [h] at this; exact this.symm, fun h => by rw [h]; rfl⟩
theorem decZ_zero (z : Int) : decide (decZ z = [48]) = decide (z = 0) := by
  refine decide_eq_decide.2 ⟨fun h => ?_, fun h => by rw [h]; rfl⟩
  have := wval_decZ z
  rw [h] at this
  exact this.symm
theorem rdiv_t {p q : Rat} (hp : okF p = true) (hq : okF q = true) (h0 : q.num ≠ 0) (hn : Sm 90000000 (p / q).num) (hd : Sm 90000000 ((p / q).den : Int)) : Called Tryz.prog 94 [frT p, frT q] (frR (p / q)) := by
  obtain ⟨h, e1⟩ := okP_dec hp
  obtain ⟨g, e2⟩ := okP_dec hq
  have r1 := right02_c _ _ (okP_len h).1 (okP_len h).2
  have r2 := right02_c _ _ (okP_len g).1 (okP_len g).2
  rw [h] at r1
  rw [g] at r2
  have i1 := in02_c _ _ h
  have i2 := in02_c _ _ g
  rw [e1] at i1
  rw [e2] at i2
  have q1 := q4_qv h
  have q2 := q4_qv g
  rw [e1] at q1
  rw [e2] at q2
  have o := over02_c p q (q1.mono (by omega)) (q2.mono (by omega)) h0
  have w := out02_c (p / q) hn hd
  have hz : decide (decZ q.num = [48]) = false := by rw [decZ_zero]; exact decide_eq_false h0
  generalize p / q = r at *
  unfold frR at w ⊢
  unfold frT
  generalize decZ q.num = sq at *
  refine called_of_run tbOk 6 ⟨Tryz.func94, rfl, rfl, Nat.le_of_ble_eq_true rfl⟩ ?_
  (conv => whnf)
  refine V.st ?_
  repeat ((try ((with_reducible refine .ext ?_); (conv => whnf))); (with_reducible refine call_intro (r := ?_) ?_ ?_); rotate_left; (focus (first | exact (r1) | exact (r2))); (conv => whnf); refine V.st ?_)
  refine Cnd.split (CondB.mk (fun hq0 => ?_) (fun hq0 => ?_))
  · exfalso
    simp at hq0
    rw [hq0] at hz
    simp at hz
  (conv => whnf)
  refine V.st ?_
  refine ⟨(.take 0 (.take 2 (.ev (.cons 1 [2] (.ev (.cons 3 [] (.ev (.cons 4 [] (.ev (.cons 5 [] (.take 6 (.take 7 (.ev (.cons 8 [] (.take 9 (.done)) (.nil))))) (.nil))) (.nil))) (.nil))) (.nil))))), [], ⟨by kernel_rfl, by kernel_rfl, by kernel_rfl, by kernel_rfl⟩, .go (drawD_one ?_)⟩
  (conv => whnf)
  refine V.st ?_
  repeat ((try ((with_reducible refine .ext ?_); (conv => whnf))); (with_reducible refine call_intro (r := ?_) ?_ ?_); rotate_left; (focus (first | exact (i1) | exact (i2) | exact (o) | exact (w))); (conv => whnf); refine V.st ?_)
  exact Fin.of rfl
theorem zrdiv {a b : Nat} {p q : Rat} (h : Fq a p) (g : Fq b q) (h0 : q.num ≠ 0) (ha : 0 < a) (hb : 0 < b) (hab : a + b + 1 ≤ 600) : Called Tryz.prog 94 [frT p, frT q] (.tup [frT (p / q), .int .i64 0]) := by
  have hs := h.div g h0
  have hm := sm_fq hs (by omega)
  have c := rdiv_t (h.ok ha (by omega)) (g.ok hb (by omega)) h0 hm.1 hm.2
  rw [frR_ok (hs.ok (by omega) (by omega))] at c
  exact c
end Go.Proofs.YtfilfmadapjajaaGreatDoor
end
section
namespace Go.Proofs.YtfilfmadapjajaaGreatDoor
open Go Go.V Go.Nb Go.RowKit Go.Proofs
set_option maxHeartbeats 4000000
set_option maxRecDepth 1000000
theorem hta_errno (y : Int) (w : World) : (Instr.typeAssert (.iface 38 (.int .i64 y)) 20 38 true).run Tryz.prog w = .ok (.tuple #[.int .i64 y, .bool true]) w := by
  simp [Instr.typeAssert, run_underlying Tryz.underlying38, go_sem, Result.andThen]
theorem heap_setc {W : World} {B j : Nat} {cs : Array Value} {T : TypeId} {fr : Nat × Nat} (v : Value) (h : W.heap[B]? = some (.cells cs T fr)) : (W.setCell ⟨B, j, none⟩ v).heap[B]? = some (.cells (cs.setIfInBounds j v) T fr) := by
  obtain ⟨hlt, hk⟩ := Array.getElem?_eq_some_iff.1 h
  show (W.heap.modify B _)[B]? = _
  rw [Array.getElem?_eq_getElem (by rw [Array.size_modify]; exact hlt), Array.getElem_modify_self, hk]
  rfl
theorem heap_seto {W : World} {B B' j : Nat} {o : Option Obj} (v : Value) (hn : B ≠ B') (h : W.heap[B]? = o) : (W.setCell ⟨B', j, none⟩ v).heap[B]? = o := (Below.heap_setCell W ⟨B', j, none⟩ v B hn).trans h
theorem idle_tri (p q : Addr) (w : World) :
    CallsD Tryz.prog 87 #[.pointer (some p), .pointer (some q)] .returning w fun e u' w' => e = .returned (.tuple #[]) ∧ u' = .returning ∧ w' = w := by
  refine callsD_of_wpS Tryz.func87 rfl fun c₀ cs hu => ?_
  apply wpS_seq
  apply wpS_region
  simp [wpOpsS, go_sem, recoverD, hu, Tryz.ntmps87, Exit.thenS]
  apply wpS_seq
  apply wpS_region
  simp [wpOpsS, go_sem, Exit.thenS]
  refine wpS_cond (t := false) (by simp [Act.eval, Array.replicate]) ?_
  simp only [Bool.false_eq_true, if_false]
  refine wpS_of_wp (wp_skip ?_)
  cases c₀
  simp_all [bodyPostS, results, Tryz.results87]
theorem guard_tri_ok {f : Nat} {es ds : List D} {a0 a1 a2 a3 a4 a5 : List UInt8} (c : Called Tryz.prog f (es ++ ds) (.agg [.str a0, .str a1, .str a2, .str a3, .str a4, .str a5])) :
    Called Tryz.prog 48 [.fn f es ds] (.tup [.agg [.str a0, .str a1, .str a2, .str a3, .str a4, .str a5], .int .i64 0]) := by
  refine ⟨enters_of Tryz.func48 rfl rfl, fun h w vs ha hd => ?_⟩
  simp only [DenL, Den] at hd
  obtain ⟨v, _, rfl, ⟨us, cs, rfl, hu, hc⟩, rfl⟩ := hd
  have hmf : ∀ (fn : Fn) (first cap : Array Value) (w : World), (Instr.makeFunc fn first cap).run Tryz.prog w = .ok (.func fn first cap) w := fun _ _ _ _ => rfl
  go_enter_defers Tryz.func48, Tryz.ntmps48
  go_wp2
  rw [c.ent]
  simp only [Oper.upon]
  have a2 : ∀ (o1 o2 : Obj), Agree h ((w.alloc o1).alloc o2) := fun o1 o2 => ha.of_blocks fun b ⟨o, v, hv⟩ => by
    have hlt := ha.lt hv
    rw [Lib.alloc_old (w.alloc o1) o2 b (by simp; omega), Lib.alloc_old w o1 b hlt]
  refine (c.call h _ _ (a2 _ _) (hu.append hc)).mono ?_
  rintro e w' ⟨v, h', rfl, hd, ha', hle, hb, hold⟩
  have hd0 := hd
  simp only [Den, DenL] at hd
  obtain ⟨vs, rfl, ⟨v0, _, rfl, ⟨rfl, l0⟩, v1, _, rfl, ⟨rfl, l1⟩, v2, _, rfl, ⟨rfl, l2⟩, v3, _, rfl, ⟨rfl, l3⟩, v4, _, rfl, ⟨rfl, l4⟩, v5, _, rfl, ⟨rfl, l5⟩, rfl⟩, hone⟩ := hd
  obtain ⟨T, k0⟩ : ∃ T, w'.heap[w.heap.size]? = some (.cells #[.string ⟨#[]⟩, .string ⟨#[]⟩, .string ⟨#[]⟩, .string ⟨#[]⟩, .string ⟨#[]⟩, .string ⟨#[]⟩] T (0, 0)) := ⟨_, by
    rw [hb.block w.heap.size (by simp; omega)]
    exact heap_alloc2_old _ _ _⟩
  obtain ⟨T1, k1⟩ : ∃ T, w'.heap[w.heap.size + 1]? = some (.cells #[.int .i64 0] T (0, 0)) := ⟨_, by
    rw [hb.block (w.heap.size + 1) (by simp)]
    exact heap_alloc2_new _ _ _⟩
  have fz : ∀ j, w'.frozen? ⟨w.heap.size, j, none⟩ = false := fun j => Lib.frozen_of_heap k0 j
  have fz1 : ∀ j, w'.frozen? ⟨w.heap.size + 1, j, none⟩ = false := fun j => Lib.frozen_of_heap k1 j
  have c0 : w'.cell? ⟨w.heap.size, 0, none⟩ = some (.string ⟨#[]⟩) := by rw [Lib.cell_of_heap k0]; rfl
  have c1 : w'.cell? ⟨w.heap.size, 1, none⟩ = some (.string ⟨#[]⟩) := by rw [Lib.cell_of_heap k0]; rfl
  have c2 : w'.cell? ⟨w.heap.size, 2, none⟩ = some (.string ⟨#[]⟩) := by rw [Lib.cell_of_heap k0]; rfl
  have c3 : w'.cell? ⟨w.heap.size, 3, none⟩ = some (.string ⟨#[]⟩) := by rw [Lib.cell_of_heap k0]; rfl
  have c4 : w'.cell? ⟨w.heap.size, 4, none⟩ = some (.string ⟨#[]⟩) := by rw [Lib.cell_of_heap k0]; rfl
  have c5 : w'.cell? ⟨w.heap.size, 5, none⟩ = some (.string ⟨#[]⟩) := by rw [Lib.cell_of_heap k0]; rfl
  have ce : w'.cell? ⟨w.heap.size + 1, 0, none⟩ = some (.int .i64 0) := by rw [Lib.cell_of_heap k1]; rfl
  clear a2 hu hc hone
  have hbw : Below w.heap.size w w' := (((Below.refl w.heap.size w).alloc (Nat.le_refl _) _).alloc (by simp) _).trans (hb.mono (by simp; omega))
  have hno : ∀ b, (∃ o v, h' b o = some v) → b < w.heap.size + 2 → b < w.heap.size := fun b ⟨o, v, hv⟩ hl => by
    rw [hold b (by simp; omega) o] at hv
    exact ha.lt hv
  have ho2 : ∀ b, b < w.heap.size → ∀ o, h' b o = h b o := fun b hb2 o => hold b (by simp; omega) o
  clear hb hold
  go_wp2
  refine leaves_cons (f := 87) (args := #[.pointer (some ⟨w.heap.size, 0, none⟩), .pointer (some ⟨w.heap.size + 1, 0, none⟩)]) (by simp) (by simp [go_sem]) ?_
  refine (idle_tri _ _ _).mono ?_
  rintro e u' w'' ⟨rfl, rfl, rfl⟩
  simp [Leaves, settle, results, Tryz.results48, go_sem, c0, c1, c2, c3, c4, c5, ce]
  refine ⟨h', ?_, ?_, hle, ?_, ho2⟩
  · simp only [Den, DenL] at hd0 ⊢
    exact ⟨_, rfl, _, _, rfl, hd0, _, _, rfl, ⟨rfl, by simp [InR, V.lo, V.hi]⟩, rfl⟩
  · refine ha'.of_blocks fun b hx => ?_
    have n0 : b ≠ w.heap.size := fun e => by have := hno b hx (by omega); omega
    have n1 : b ≠ w.heap.size + 1 := fun e => by have := hno b hx (by omega); omega
    rw [Below.heap_setCell _ _ _ _ n1, Below.heap_setCell _ _ _ _ n0, Below.heap_setCell _ _ _ _ n0, Below.heap_setCell _ _ _ _ n0, Below.heap_setCell _ _ _ _ n0, Below.heap_setCell _ _ _ _ n0, Below.heap_setCell _ _ _ _ n0]
  · exact ((((((hbw.setCell (Nat.le_refl _) _).setCell (Nat.le_refl _) _).setCell (Nat.le_refl _) _).setCell (Nat.le_refl _) _).setCell (Nat.le_refl _) _).setCell (Nat.le_refl _) _).setCell (Nat.le_succ _) _
theorem catch_tri (b : Nat) (x : Int) (older : List PanicEntry) (T T1 : TypeId) (w : World) (hb : w.heap[b]? = some (.cells #[.string ⟨#[]⟩, .string ⟨#[]⟩, .string ⟨#[]⟩, .string ⟨#[]⟩, .string ⟨#[]⟩, .string ⟨#[]⟩] T (0, 0))) (hq : w.heap[b + 1]? = some (.cells #[.int .i64 0] T1 (0, 0))) :
    CallsD Tryz.prog 87 #[.pointer (some ⟨b, 0, none⟩), .pointer (some ⟨b + 1, 0, none⟩)] (.panicking ({ v := .iface 38 (.int .i64 x), recovered := false } :: older)) w fun e u' w' =>
      e = .returned (.tuple #[]) ∧ u' = .panicking ({ v := .iface 38 (.int .i64 x), recovered := true } :: older) ∧ Below b w w' ∧ w'.heap[b]? = some (.cells #[.string ⟨#[]⟩, .string ⟨#[]⟩, .string ⟨#[]⟩, .string ⟨#[]⟩, .string ⟨#[]⟩, .string ⟨#[]⟩] T (0, 0)) ∧ w'.heap[b + 1]? = some (.cells #[.int .i64 x] T1 (0, 0)) := by
  refine callsD_of_wpS Tryz.func87 rfl fun c₀ cs hu => ?_
  apply wpS_seq
  apply wpS_region
  simp [wpOpsS, go_sem, recoverD, hu, Tryz.ntmps87, Exit.thenS]
  apply wpS_seq
  apply wpS_region
  simp [wpOpsS, go_sem, Exit.thenS]
  refine wpS_cond (t := true) (by simp [Act.eval, Array.replicate]) ?_
  simp only [if_true]
  refine wpS_of_wp ?_
  change Code.wp Tryz.prog _ _ { tmps := #[.pointer (some ⟨b, 0, none⟩), .pointer (some ⟨b + 1, 0, none⟩), .iface 38 (.int .i64 x), Go.undef, Go.undef, Go.undef, .iface 38 (.int .i64 x), .iface 38 (.int .i64 x), .bool true, Go.undef, Go.undef, Go.undef, Go.undef, Go.undef, Go.undef, Go.undef, Go.undef], defers := [] } _
  have hlt : b + 1 < w.heap.size := by
    rcases Nat.lt_or_ge (b + 1) w.heap.size with e | e
    · exact e
    · rw [Array.getElem?_eq_none e] at hq
      cases hq
  have kb : ∀ o, (w.alloc o).heap[b]? = w.heap[b]? := fun o => Below.heap_alloc w o b (by omega)
  have kq : ∀ o, (w.alloc o).heap[b + 1]? = w.heap[b + 1]? := fun o => Below.heap_alloc w o (b + 1) hlt
  have fz : ∀ o j, (w.alloc o).frozen? ⟨b, j, none⟩ = false := fun o j => Lib.frozen_of_heap ((kb o).trans hb) j
  have fz1 : ∀ o j, (w.alloc o).frozen? ⟨b + 1, j, none⟩ = false := fun o j => Lib.frozen_of_heap ((kq o).trans hq) j
  have c0 : ∀ o, (w.alloc o).cell? ⟨b, 0, none⟩ = some (.string ⟨#[]⟩) := fun o => by rw [Lib.cell_of_heap ((kb o).trans hb)]; rfl
  have c1 : ∀ o, (w.alloc o).cell? ⟨b, 1, none⟩ = some (.string ⟨#[]⟩) := fun o => by rw [Lib.cell_of_heap ((kb o).trans hb)]; rfl
  have c2 : ∀ o, (w.alloc o).cell? ⟨b, 2, none⟩ = some (.string ⟨#[]⟩) := fun o => by rw [Lib.cell_of_heap ((kb o).trans hb)]; rfl
  have c3 : ∀ o, (w.alloc o).cell? ⟨b, 3, none⟩ = some (.string ⟨#[]⟩) := fun o => by rw [Lib.cell_of_heap ((kb o).trans hb)]; rfl
  have c4 : ∀ o, (w.alloc o).cell? ⟨b, 4, none⟩ = some (.string ⟨#[]⟩) := fun o => by rw [Lib.cell_of_heap ((kb o).trans hb)]; rfl
  have c5 : ∀ o, (w.alloc o).cell? ⟨b, 5, none⟩ = some (.string ⟨#[]⟩) := fun o => by rw [Lib.cell_of_heap ((kb o).trans hb)]; rfl
  have ce : ∀ o, (w.alloc o).cell? ⟨b + 1, 0, none⟩ = some (.int .i64 0) := fun o => by rw [Lib.cell_of_heap ((kq o).trans hq)]; rfl
  go_wp2
  rw [hta_errno]
  generalize hw1 : World.setCell (World.setCell (World.setCell (World.setCell (World.setCell (World.setCell (World.setCell (World.alloc w _) _ _) _ _) _ _) _ _) _ _) _ _) _ _ = w1
  have q1 : w1.heap[b + 1]? = some (.cells #[.int .i64 9] T1 (0, 0)) := by
    rw [← hw1]
    exact heap_setc _ (heap_seto _ (by omega) (heap_seto _ (by omega) (heap_seto _ (by omega) (heap_seto _ (by omega) (heap_seto _ (by omega) (heap_seto _ (by omega) ((kq _).trans hq)))))))
  have q0 : w1.heap[b]? = some (.cells #[.string ⟨#[]⟩, .string ⟨#[]⟩, .string ⟨#[]⟩, .string ⟨#[]⟩, .string ⟨#[]⟩, .string ⟨#[]⟩] T (0, 0)) := by
    rw [← hw1]
    exact heap_seto _ (by omega) (heap_setc _ (heap_setc _ (heap_setc _ (heap_setc _ (heap_setc _ (heap_setc _ ((kb _).trans hb)))))))
  have qb : Below b w w1 := by
    rw [← hw1]
    exact ((((((((Below.refl b w).alloc (by omega) _).setCell (Nat.le_refl _) _).setCell (Nat.le_refl _) _).setCell (Nat.le_refl _) _).setCell (Nat.le_refl _) _).setCell (Nat.le_refl _) _).setCell (Nat.le_refl _) _).setCell (Nat.le_succ _) _
  clear hw1 c0 c1 c2 c3 c4 c5 ce fz fz1 kb kq hb hq
  have d0 : w1.cell? ⟨b + 1, 0, none⟩ = some (.int .i64 9) := by rw [Lib.cell_of_heap q1]; rfl
  have dz : w1.frozen? ⟨b + 1, 0, none⟩ = false := Lib.frozen_of_heap q1 0
  simp only [Result.andThen]
  rw [Oper.upon_value]
  go_wp2
  simp [bodyPostS, results, Tryz.results87]
  exact ⟨qb.setCell (Nat.le_succ _) _, heap_seto _ (by omega) q0, heap_setc _ q1⟩
theorem guard_tri_pan {f : Nat} {es ds : List D} {x : Int} (hx : InR .i64 x) (c : Panics Tryz.prog f (es ++ ds) (.iface 38 (.int .i64 x))) :
    Called Tryz.prog 48 [.fn f es ds] (.tup [.agg [.str [], .str [], .str [], .str [], .str [], .str []], .int .i64 x]) := by
  refine ⟨enters_of Tryz.func48 rfl rfl, fun h w vs ha hd => ?_⟩
  simp only [DenL, Den] at hd
  obtain ⟨v, _, rfl, ⟨us, cs, rfl, hu, hc⟩, rfl⟩ := hd
  have hmf : ∀ (fn : Fn) (first cap : Array Value) (w : World), (Instr.makeFunc fn first cap).run Tryz.prog w = .ok (.func fn first cap) w := fun _ _ _ _ => rfl
  go_enter_defers Tryz.func48, Tryz.ntmps48
  go_wp2
  rw [c.ent]
  simp only [Oper.upon]
  have a2 : ∀ (o1 o2 : Obj), Agree h ((w.alloc o1).alloc o2) := fun o1 o2 => ha.of_blocks fun b ⟨o, v, hv⟩ => by
    have hlt := ha.lt hv
    rw [Lib.alloc_old (w.alloc o1) o2 b (by simp; omega), Lib.alloc_old w o1 b hlt]
  refine (c.call h _ _ (a2 _ _) (hu.append hc)).mono ?_
  rintro e w' ⟨h', rfl, ha', hle, hb, hold⟩
  obtain ⟨T, k0⟩ : ∃ T, w'.heap[w.heap.size]? = some (.cells #[.string ⟨#[]⟩, .string ⟨#[]⟩, .string ⟨#[]⟩, .string ⟨#[]⟩, .string ⟨#[]⟩, .string ⟨#[]⟩] T (0, 0)) := ⟨_, by
    rw [hb.block w.heap.size (by simp; omega)]
    exact heap_alloc2_old _ _ _⟩
  obtain ⟨T1, k1⟩ : ∃ T, w'.heap[w.heap.size + 1]? = some (.cells #[.int .i64 0] T (0, 0)) := ⟨_, by
    rw [hb.block (w.heap.size + 1) (by simp)]
    exact heap_alloc2_new _ _ _⟩
  have hbw : Below w.heap.size w w' := (((Below.refl w.heap.size w).alloc (Nat.le_refl _) _).alloc (by simp) _).trans (hb.mono (by simp; omega))
  simp only
  change bodyPostD Tryz.prog Tryz.f48 _ (Exit.panic _) _ _
  refine leaves_cons (f := 87) (args := #[.pointer (some ⟨w.heap.size, 0, none⟩), .pointer (some ⟨w.heap.size + 1, 0, none⟩)]) (by simp) (by simp [go_sem]) ?_
  refine (catch_tri w.heap.size x [] T T1 _ k0 k1).mono ?_
  rintro e u' w'' ⟨rfl, rfl, b1, q0, q1⟩
  have c0 : w''.cell? ⟨w.heap.size, 0, none⟩ = some (.string ⟨#[]⟩) := by rw [Lib.cell_of_heap q0]; rfl
  have c1 : w''.cell? ⟨w.heap.size, 1, none⟩ = some (.string ⟨#[]⟩) := by rw [Lib.cell_of_heap q0]; rfl
  have c2 : w''.cell? ⟨w.heap.size, 2, none⟩ = some (.string ⟨#[]⟩) := by rw [Lib.cell_of_heap q0]; rfl
  have c3 : w''.cell? ⟨w.heap.size, 3, none⟩ = some (.string ⟨#[]⟩) := by rw [Lib.cell_of_heap q0]; rfl
  have c4 : w''.cell? ⟨w.heap.size, 4, none⟩ = some (.string ⟨#[]⟩) := by rw [Lib.cell_of_heap q0]; rfl
  have c5 : w''.cell? ⟨w.heap.size, 5, none⟩ = some (.string ⟨#[]⟩) := by rw [Lib.cell_of_heap q0]; rfl
  have ce : w''.cell? ⟨w.heap.size + 1, 0, none⟩ = some (.int .i64 x) := by rw [Lib.cell_of_heap q1]; rfl
  simp [Leaves, settle, results, Tryz.results48, go_sem, c0, c1, c2, c3, c4, c5, ce]
  have hfin := hbw.trans b1
  refine ⟨h, ?_, ha.of_blocks fun b ⟨o, v, hv⟩ => hfin.block b (ha.lt hv), Pub.Le.refl _, hfin, fun _ _ _ => rfl⟩
  simp only [Den, DenL]
  refine ⟨_, rfl, _, _, rfl, ⟨_, rfl, ⟨_, _, rfl, ⟨rfl, by simp⟩, _, _, rfl, ⟨rfl, by simp⟩, _, _, rfl, ⟨rfl, by simp⟩, _, _, rfl, ⟨rfl, by simp⟩, _, _, rfl, ⟨rfl, by simp⟩, _, _, rfl, ⟨rfl, by simp⟩, rfl⟩, ?_⟩, _, _, rfl, ⟨rfl, hx⟩, rfl⟩
  intro v hv
  simp at hv
  subst hv
  rfl
theorem idle_two (p q : Addr) (w : World) :
    CallsD Tryz.prog 97 #[.pointer (some p), .pointer (some q)] .returning w fun e u' w' => e = .returned (.tuple #[]) ∧ u' = .returning ∧ w' = w := by
  refine callsD_of_wpS Tryz.func97 rfl fun c₀ cs hu => ?_
  apply wpS_seq
  apply wpS_region
  simp [wpOpsS, go_sem, recoverD, hu, Tryz.ntmps97, Exit.thenS]
  apply wpS_seq
  apply wpS_region
  simp [wpOpsS, go_sem, Exit.thenS]
  refine wpS_cond (t := false) (by simp [Act.eval, Array.replicate]) ?_
  simp only [Bool.false_eq_true, if_false]
  refine wpS_of_wp (wp_skip ?_)
  cases c₀
  simp_all [bodyPostS, results, Tryz.results97]
theorem guard_two_ok {f : Nat} {es ds : List D} {a0 a1 a2 a3 : List UInt8} (c : Called Tryz.prog f (es ++ ds) (.agg [.str a0, .str a1, .str a2, .str a3])) :
    Called Tryz.prog 63 [.fn f es ds] (.tup [.agg [.str a0, .str a1, .str a2, .str a3], .int .i64 0]) := by
  refine ⟨enters_of Tryz.func63 rfl rfl, fun h w vs ha hd => ?_⟩
  simp only [DenL, Den] at hd
  obtain ⟨v, _, rfl, ⟨us, cs, rfl, hu, hc⟩, rfl⟩ := hd
  have hmf : ∀ (fn : Fn) (first cap : Array Value) (w : World), (Instr.makeFunc fn first cap).run Tryz.prog w = .ok (.func fn first cap) w := fun _ _ _ _ => rfl
  go_enter_defers Tryz.func63, Tryz.ntmps63
  go_wp2
  rw [c.ent]
  simp only [Oper.upon]
  have a2 : ∀ (o1 o2 : Obj), Agree h ((w.alloc o1).alloc o2) := fun o1 o2 => ha.of_blocks fun b ⟨o, v, hv⟩ => by
    have hlt := ha.lt hv
    rw [Lib.alloc_old (w.alloc o1) o2 b (by simp; omega), Lib.alloc_old w o1 b hlt]
  refine (c.call h _ _ (a2 _ _) (hu.append hc)).mono ?_
  rintro e w' ⟨v, h', rfl, hd, ha', hle, hb, hold⟩
  have hd0 := hd
  simp only [Den, DenL] at hd
  obtain ⟨vs, rfl, ⟨v0, _, rfl, ⟨rfl, l0⟩, v1, _, rfl, ⟨rfl, l1⟩, v2, _, rfl, ⟨rfl, l2⟩, v3, _, rfl, ⟨rfl, l3⟩, rfl⟩, hone⟩ := hd
  obtain ⟨T, k0⟩ : ∃ T, w'.heap[w.heap.size]? = some (.cells #[.string ⟨#[]⟩, .string ⟨#[]⟩, .string ⟨#[]⟩, .string ⟨#[]⟩] T (0, 0)) := ⟨_, by
    rw [hb.block w.heap.size (by simp; omega)]
    exact heap_alloc2_old _ _ _⟩
  obtain ⟨T1, k1⟩ : ∃ T, w'.heap[w.heap.size + 1]? = some (.cells #[.int .i64 0] T (0, 0)) := ⟨_, by
    rw [hb.block (w.heap.size + 1) (by simp)]
    exact heap_alloc2_new _ _ _⟩
  have fz : ∀ j, w'.frozen? ⟨w.heap.size, j, none⟩ = false := fun j => Lib.frozen_of_heap k0 j
  have fz1 : ∀ j, w'.frozen? ⟨w.heap.size + 1, j, none⟩ = false := fun j => Lib.frozen_of_heap k1 j
  have c0 : w'.cell? ⟨w.heap.size, 0, none⟩ = some (.string ⟨#[]⟩) := by rw [Lib.cell_of_heap k0]; rfl
  have c1 : w'.cell? ⟨w.heap.size, 1, none⟩ = some (.string ⟨#[]⟩) := by rw [Lib.cell_of_heap k0]; rfl
  have c2 : w'.cell? ⟨w.heap.size, 2, none⟩ = some (.string ⟨#[]⟩) := by rw [Lib.cell_of_heap k0]; rfl
  have c3 : w'.cell? ⟨w.heap.size, 3, none⟩ = some (.string ⟨#[]⟩) := by rw [Lib.cell_of_heap k0]; rfl
  have ce : w'.cell? ⟨w.heap.size + 1, 0, none⟩ = some (.int .i64 0) := by rw [Lib.cell_of_heap k1]; rfl
  clear a2 hu hc hone
  have hbw : Below w.heap.size w w' := (((Below.refl w.heap.size w).alloc (Nat.le_refl _) _).alloc (by simp) _).trans (hb.mono (by simp; omega))
  have hno : ∀ b, (∃ o v, h' b o = some v) → b < w.heap.size + 2 → b < w.heap.size := fun b ⟨o, v, hv⟩ hl => by
    rw [hold b (by simp; omega) o] at hv
    exact ha.lt hv
  have ho2 : ∀ b, b < w.heap.size → ∀ o, h' b o = h b o := fun b hb2 o => hold b (by simp; omega) o
  clear hb hold
  go_wp2
  refine leaves_cons (f := 97) (args := #[.pointer (some ⟨w.heap.size, 0, none⟩), .pointer (some ⟨w.heap.size + 1, 0, none⟩)]) (by simp) (by simp [go_sem]) ?_
  refine (idle_two _ _ _).mono ?_
  rintro e u' w'' ⟨rfl, rfl, rfl⟩
  simp [Leaves, settle, results, Tryz.results63, go_sem, c0, c1, c2, c3, ce]
  refine ⟨h', ?_, ?_, hle, ?_, ho2⟩
  · simp only [Den, DenL] at hd0 ⊢
    exact ⟨_, rfl, _, _, rfl, hd0, _, _, rfl, ⟨rfl, by simp [InR, V.lo, V.hi]⟩, rfl⟩
  · refine ha'.of_blocks fun b hx => ?_
    have n0 : b ≠ w.heap.size := fun e => by have := hno b hx (by omega); omega
    have n1 : b ≠ w.heap.size + 1 := fun e => by have := hno b hx (by omega); omega
    rw [Below.heap_setCell _ _ _ _ n1, Below.heap_setCell _ _ _ _ n0, Below.heap_setCell _ _ _ _ n0, Below.heap_setCell _ _ _ _ n0, Below.heap_setCell _ _ _ _ n0]
  · exact ((((hbw.setCell (Nat.le_refl _) _).setCell (Nat.le_refl _) _).setCell (Nat.le_refl _) _).setCell (Nat.le_refl _) _).setCell (Nat.le_succ _) _
theorem catch_two (b : Nat) (x : Int) (older : List PanicEntry) (T T1 : TypeId) (w : World) (hb : w.heap[b]? = some (.cells #[.string ⟨#[]⟩, .string ⟨#[]⟩, .string ⟨#[]⟩, .string ⟨#[]⟩] T (0, 0))) (hq : w.heap[b + 1]? = some (.cells #[.int .i64 0] T1 (0, 0))) :
    CallsD Tryz.prog 97 #[.pointer (some ⟨b, 0, none⟩), .pointer (some ⟨b + 1, 0, none⟩)] (.panicking ({ v := .iface 38 (.int .i64 x), recovered := false } :: older)) w fun e u' w' =>
      e = .returned (.tuple #[]) ∧ u' = .panicking ({ v := .iface 38 (.int .i64 x), recovered := true } :: older) ∧ Below b w w' ∧ w'.heap[b]? = some (.cells #[.string ⟨#[]⟩, .string ⟨#[]⟩, .string ⟨#[]⟩, .string ⟨#[]⟩] T (0, 0)) ∧ w'.heap[b + 1]? = some (.cells #[.int .i64 x] T1 (0, 0)) := by
  refine callsD_of_wpS Tryz.func97 rfl fun c₀ cs hu => ?_
  apply wpS_seq
  apply wpS_region
  simp [wpOpsS, go_sem, recoverD, hu, Tryz.ntmps97, Exit.thenS]
  apply wpS_seq
  apply wpS_region
  simp [wpOpsS, go_sem, Exit.thenS]
  refine wpS_cond (t := true) (by simp [Act.eval, Array.replicate]) ?_
  simp only [if_true]
  refine wpS_of_wp ?_
  change Code.wp Tryz.prog _ _ { tmps := #[.pointer (some ⟨b, 0, none⟩), .pointer (some ⟨b + 1, 0, none⟩), .iface 38 (.int .i64 x), Go.undef, Go.undef, Go.undef, .iface 38 (.int .i64 x), .iface 38 (.int .i64 x), .bool true, Go.undef, Go.undef, Go.undef, Go.undef, Go.undef, Go.undef, Go.undef, Go.undef], defers := [] } _
  have hlt : b + 1 < w.heap.size := by
    rcases Nat.lt_or_ge (b + 1) w.heap.size with e | e
    · exact e
    · rw [Array.getElem?_eq_none e] at hq
      cases hq
  have kb : ∀ o, (w.alloc o).heap[b]? = w.heap[b]? := fun o => Below.heap_alloc w o b (by omega)
  have kq : ∀ o, (w.alloc o).heap[b + 1]? = w.heap[b + 1]? := fun o => Below.heap_alloc w o (b + 1) hlt
  have fz : ∀ o j, (w.alloc o).frozen? ⟨b, j, none⟩ = false := fun o j => Lib.frozen_of_heap ((kb o).trans hb) j
  have fz1 : ∀ o j, (w.alloc o).frozen? ⟨b + 1, j, none⟩ = false := fun o j => Lib.frozen_of_heap ((kq o).trans hq) j
  have c0 : ∀ o, (w.alloc o).cell? ⟨b, 0, none⟩ = some (.string ⟨#[]⟩) := fun o => by rw [Lib.cell_of_heap ((kb o).trans hb)]; rfl
  have c1 : ∀ o, (w.alloc o).cell? ⟨b, 1, none⟩ = some (.string ⟨#[]⟩) := fun o => by rw [Lib.cell_of_heap ((kb o).trans hb)]; rfl
  have c2 : ∀ o, (w.alloc o).cell? ⟨b, 2, none⟩ = some (.string ⟨#[]⟩) := fun o => by rw [Lib.cell_of_heap ((kb o).trans hb)]; rfl
  have c3 : ∀ o, (w.alloc o).cell? ⟨b, 3, none⟩ = some (.string ⟨#[]⟩) := fun o => by rw [Lib.cell_of_heap ((kb o).trans hb)]; rfl
  have ce : ∀ o, (w.alloc o).cell? ⟨b + 1, 0, none⟩ = some (.int .i64 0) := fun o => by rw [Lib.cell_of_heap ((kq o).trans hq)]; rfl
  go_wp2
  rw [hta_errno]
  generalize hw1 : World.setCell (World.setCell (World.setCell (World.setCell (World.setCell (World.alloc w _) _ _) _ _) _ _) _ _) _ _ = w1
  have q1 : w1.heap[b + 1]? = some (.cells #[.int .i64 9] T1 (0, 0)) := by
    rw [← hw1]
    exact heap_setc _ (heap_seto _ (by omega) (heap_seto _ (by omega) (heap_seto _ (by omega) (heap_seto _ (by omega) ((kq _).trans hq)))))
  have q0 : w1.heap[b]? = some (.cells #[.string ⟨#[]⟩, .string ⟨#[]⟩, .string ⟨#[]⟩, .string ⟨#[]⟩] T (0, 0)) := by
    rw [← hw1]
    exact heap_seto _ (by omega) (heap_setc _ (heap_setc _ (heap_setc _ (heap_setc _ ((kb _).trans hb)))))
  have qb : Below b w w1 := by
    rw [← hw1]
    exact ((((((Below.refl b w).alloc (by omega) _).setCell (Nat.le_refl _) _).setCell (Nat.le_refl _) _).setCell (Nat.le_refl _) _).setCell (Nat.le_refl _) _).setCell (Nat.le_succ _) _
  clear hw1 c0 c1 c2 c3 ce fz fz1 kb kq hb hq
  have d0 : w1.cell? ⟨b + 1, 0, none⟩ = some (.int .i64 9) := by rw [Lib.cell_of_heap q1]; rfl
  have dz : w1.frozen? ⟨b + 1, 0, none⟩ = false := Lib.frozen_of_heap q1 0
  simp only [Result.andThen]
  rw [Oper.upon_value]
  go_wp2
  simp [bodyPostS, results, Tryz.results97]
  exact ⟨qb.setCell (Nat.le_succ _) _, heap_seto _ (by omega) q0, heap_setc _ q1⟩
theorem guard_two_pan {f : Nat} {es ds : List D} {x : Int} (hx : InR .i64 x) (c : Panics Tryz.prog f (es ++ ds) (.iface 38 (.int .i64 x))) :
    Called Tryz.prog 63 [.fn f es ds] (.tup [.agg [.str [], .str [], .str [], .str []], .int .i64 x]) := by
  refine ⟨enters_of Tryz.func63 rfl rfl, fun h w vs ha hd => ?_⟩
  simp only [DenL, Den] at hd
  obtain ⟨v, _, rfl, ⟨us, cs, rfl, hu, hc⟩, rfl⟩ := hd
  have hmf : ∀ (fn : Fn) (first cap : Array Value) (w : World), (Instr.makeFunc fn first cap).run Tryz.prog w = .ok (.func fn first cap) w := fun _ _ _ _ => rfl
  go_enter_defers Tryz.func63, Tryz.ntmps63
  go_wp2
  rw [c.ent]
  simp only [Oper.upon]
  have a2 : ∀ (o1 o2 : Obj), Agree h ((w.alloc o1).alloc o2) := fun o1 o2 => ha.of_blocks fun b ⟨o, v, hv⟩ => by
    have hlt := ha.lt hv
    rw [Lib.alloc_old (w.alloc o1) o2 b (by simp; omega), Lib.alloc_old w o1 b hlt]
  refine (c.call h _ _ (a2 _ _) (hu.append hc)).mono ?_
  rintro e w' ⟨h', rfl, ha', hle, hb, hold⟩
  obtain ⟨T, k0⟩ : ∃ T, w'.heap[w.heap.size]? = some (.cells #[.string ⟨#[]⟩, .string ⟨#[]⟩, .string ⟨#[]⟩, .string ⟨#[]⟩] T (0, 0)) := ⟨_, by
    rw [hb.block w.heap.size (by simp; omega)]
    exact heap_alloc2_old _ _ _⟩
  obtain ⟨T1, k1⟩ : ∃ T, w'.heap[w.heap.size + 1]? = some (.cells #[.int .i64 0] T (0, 0)) := ⟨_, by
    rw [hb.block (w.heap.size + 1) (by simp)]
    exact heap_alloc2_new _ _ _⟩
  have hbw : Below w.heap.size w w' := (((Below.refl w.heap.size w).alloc (Nat.le_refl _) _).alloc (by simp) _).trans (hb.mono (by simp; omega))
  simp only
  change bodyPostD Tryz.prog Tryz.f63 _ (Exit.panic _) _ _
  refine leaves_cons (f := 97) (args := #[.pointer (some ⟨w.heap.size, 0, none⟩), .pointer (some ⟨w.heap.size + 1, 0, none⟩)]) (by simp) (by simp [go_sem]) ?_
  refine (catch_two w.heap.size x [] T T1 _ k0 k1).mono ?_
  rintro e u' w'' ⟨rfl, rfl, b1, q0, q1⟩
  have c0 : w''.cell? ⟨w.heap.size, 0, none⟩ = some (.string ⟨#[]⟩) := by rw [Lib.cell_of_heap q0]; rfl
  have c1 : w''.cell? ⟨w.heap.size, 1, none⟩ = some (.string ⟨#[]⟩) := by rw [Lib.cell_of_heap q0]; rfl
  have c2 : w''.cell? ⟨w.heap.size, 2, none⟩ = some (.string ⟨#[]⟩) := by rw [Lib.cell_of_heap q0]; rfl
  have c3 : w''.cell? ⟨w.heap.size, 3, none⟩ = some (.string ⟨#[]⟩) := by rw [Lib.cell_of_heap q0]; rfl
  have ce : w''.cell? ⟨w.heap.size + 1, 0, none⟩ = some (.int .i64 x) := by rw [Lib.cell_of_heap q1]; rfl
  simp [Leaves, settle, results, Tryz.results63, go_sem, c0, c1, c2, c3, ce]
  have hfin := hbw.trans b1
  refine ⟨h, ?_, ha.of_blocks fun b ⟨o, v, hv⟩ => hfin.block b (ha.lt hv), Pub.Le.refl _, hfin, fun _ _ _ => rfl⟩
  simp only [Den, DenL]
  refine ⟨_, rfl, _, _, rfl, ⟨_, rfl, ⟨_, _, rfl, ⟨rfl, by simp⟩, _, _, rfl, ⟨rfl, by simp⟩, _, _, rfl, ⟨rfl, by simp⟩, _, _, rfl, ⟨rfl, by simp⟩, rfl⟩, ?_⟩, _, _, rfl, ⟨rfl, hx⟩, rfl⟩
  intro v hv
  simp at hv
  subst hv
  rfl
theorem idle_one (p q : Addr) (w : World) :
    CallsD Tryz.prog 99 #[.pointer (some p), .pointer (some q)] .returning w fun e u' w' => e = .returned (.tuple #[]) ∧ u' = .returning ∧ w' = w := by
  refine callsD_of_wpS Tryz.func99 rfl fun c₀ cs hu => ?_
  apply wpS_seq
  apply wpS_region
  simp [wpOpsS, go_sem, recoverD, hu, Tryz.ntmps99, Exit.thenS]
  apply wpS_seq
  apply wpS_region
  simp [wpOpsS, go_sem, Exit.thenS]
  refine wpS_cond (t := false) (by simp [Act.eval, Array.replicate]) ?_
  simp only [Bool.false_eq_true, if_false]
  refine wpS_of_wp (wp_skip ?_)
  cases c₀
  simp_all [bodyPostS, results, Tryz.results99]
theorem guard_one_ok {f : Nat} {es ds : List D} {a0 a1 : List UInt8} (c : Called Tryz.prog f (es ++ ds) (.agg [.str a0, .str a1])) :
    Called Tryz.prog 66 [.fn f es ds] (.tup [.agg [.str a0, .str a1], .int .i64 0]) := by
  refine ⟨enters_of Tryz.func66 rfl rfl, fun h w vs ha hd => ?_⟩
  simp only [DenL, Den] at hd
  obtain ⟨v, _, rfl, ⟨us, cs, rfl, hu, hc⟩, rfl⟩ := hd
  have hmf : ∀ (fn : Fn) (first cap : Array Value) (w : World), (Instr.makeFunc fn first cap).run Tryz.prog w = .ok (.func fn first cap) w := fun _ _ _ _ => rfl
  go_enter_defers Tryz.func66, Tryz.ntmps66
  go_wp2
  rw [c.ent]
  simp only [Oper.upon]
  have a2 : ∀ (o1 o2 : Obj), Agree h ((w.alloc o1).alloc o2) := fun o1 o2 => ha.of_blocks fun b ⟨o, v, hv⟩ => by
    have hlt := ha.lt hv
    rw [Lib.alloc_old (w.alloc o1) o2 b (by simp; omega), Lib.alloc_old w o1 b hlt]
  refine (c.call h _ _ (a2 _ _) (hu.append hc)).mono ?_
  rintro e w' ⟨v, h', rfl, hd, ha', hle, hb, hold⟩
  have hd0 := hd
  simp only [Den, DenL] at hd
  obtain ⟨vs, rfl, ⟨v0, _, rfl, ⟨rfl, l0⟩, v1, _, rfl, ⟨rfl, l1⟩, rfl⟩, hone⟩ := hd
  obtain ⟨T, k0⟩ : ∃ T, w'.heap[w.heap.size]? = some (.cells #[.string ⟨#[]⟩, .string ⟨#[]⟩] T (0, 0)) := ⟨_, by
    rw [hb.block w.heap.size (by simp; omega)]
    exact heap_alloc2_old _ _ _⟩
  obtain ⟨T1, k1⟩ : ∃ T, w'.heap[w.heap.size + 1]? = some (.cells #[.int .i64 0] T (0, 0)) := ⟨_, by
    rw [hb.block (w.heap.size + 1) (by simp)]
    exact heap_alloc2_new _ _ _⟩
  have fz : ∀ j, w'.frozen? ⟨w.heap.size, j, none⟩ = false := fun j => Lib.frozen_of_heap k0 j
  have fz1 : ∀ j, w'.frozen? ⟨w.heap.size + 1, j, none⟩ = false := fun j => Lib.frozen_of_heap k1 j
  have c0 : w'.cell? ⟨w.heap.size, 0, none⟩ = some (.string ⟨#[]⟩) := by rw [Lib.cell_of_heap k0]; rfl
  have c1 : w'.cell? ⟨w.heap.size, 1, none⟩ = some (.string ⟨#[]⟩) := by rw [Lib.cell_of_heap k0]; rfl
  have ce : w'.cell? ⟨w.heap.size + 1, 0, none⟩ = some (.int .i64 0) := by rw [Lib.cell_of_heap k1]; rfl
  clear a2 hu hc hone
  have hbw : Below w.heap.size w w' := (((Below.refl w.heap.size w).alloc (Nat.le_refl _) _).alloc (by simp) _).trans (hb.mono (by simp; omega))
  have hno : ∀ b, (∃ o v, h' b o = some v) → b < w.heap.size + 2 → b < w.heap.size := fun b ⟨o, v, hv⟩ hl => by
    rw [hold b (by simp; omega) o] at hv
    exact ha.lt hv
  have ho2 : ∀ b, b < w.heap.size → ∀ o, h' b o = h b o := fun b hb2 o => hold b (by simp; omega) o
  clear hb hold
  go_wp2
  refine leaves_cons (f := 99) (args := #[.pointer (some ⟨w.heap.size, 0, none⟩), .pointer (some ⟨w.heap.size + 1, 0, none⟩)]) (by simp) (by simp [go_sem]) ?_
  refine (idle_one _ _ _).mono ?_
  rintro e u' w'' ⟨rfl, rfl, rfl⟩
  simp [Leaves, settle, results, Tryz.results66, go_sem, c0, c1, ce]
  refine ⟨h', ?_, ?_, hle, ?_, ho2⟩
  · simp only [Den, DenL] at hd0 ⊢
    exact ⟨_, rfl, _, _, rfl, hd0, _, _, rfl, ⟨rfl, by simp [InR, V.lo, V.hi]⟩, rfl⟩
  · refine ha'.of_blocks fun b hx => ?_
    have n0 : b ≠ w.heap.size := fun e => by have := hno b hx (by omega); omega
    have n1 : b ≠ w.heap.size + 1 := fun e => by have := hno b hx (by omega); omega
    rw [Below.heap_setCell _ _ _ _ n1, Below.heap_setCell _ _ _ _ n0, Below.heap_setCell _ _ _ _ n0]
  · exact ((hbw.setCell (Nat.le_refl _) _).setCell (Nat.le_refl _) _).setCell (Nat.le_succ _) _
theorem catch_one (b : Nat) (x : Int) (older : List PanicEntry) (T T1 : TypeId) (w : World) (hb : w.heap[b]? = some (.cells #[.string ⟨#[]⟩, .string ⟨#[]⟩] T (0, 0))) (hq : w.heap[b + 1]? = some (.cells #[.int .i64 0] T1 (0, 0))) :
    CallsD Tryz.prog 99 #[.pointer (some ⟨b, 0, none⟩), .pointer (some ⟨b + 1, 0, none⟩)] (.panicking ({ v := .iface 38 (.int .i64 x), recovered := false } :: older)) w fun e u' w' =>
      e = .returned (.tuple #[]) ∧ u' = .panicking ({ v := .iface 38 (.int .i64 x), recovered := true } :: older) ∧ Below b w w' ∧ w'.heap[b]? = some (.cells #[.string ⟨#[]⟩, .string ⟨#[]⟩] T (0, 0)) ∧ w'.heap[b + 1]? = some (.cells #[.int .i64 x] T1 (0, 0)) := by
  refine callsD_of_wpS Tryz.func99 rfl fun c₀ cs hu => ?_
  apply wpS_seq
  apply wpS_region
  simp [wpOpsS, go_sem, recoverD, hu, Tryz.ntmps99, Exit.thenS]
  apply wpS_seq
  apply wpS_region
  simp [wpOpsS, go_sem, Exit.thenS]
  refine wpS_cond (t := true) (by simp [Act.eval, Array.replicate]) ?_
  simp only [if_true]
  refine wpS_of_wp ?_
  change Code.wp Tryz.prog _ _ { tmps := #[.pointer (some ⟨b, 0, none⟩), .pointer (some ⟨b + 1, 0, none⟩), .iface 38 (.int .i64 x), Go.undef, Go.undef, Go.undef, .iface 38 (.int .i64 x), .iface 38 (.int .i64 x), .bool true, Go.undef, Go.undef, Go.undef, Go.undef, Go.undef, Go.undef, Go.undef, Go.undef], defers := [] } _
  have hlt : b + 1 < w.heap.size := by
    rcases Nat.lt_or_ge (b + 1) w.heap.size with e | e
    · exact e
    · rw [Array.getElem?_eq_none e] at hq
      cases hq
  have kb : ∀ o, (w.alloc o).heap[b]? = w.heap[b]? := fun o => Below.heap_alloc w o b (by omega)
  have kq : ∀ o, (w.alloc o).heap[b + 1]? = w.heap[b + 1]? := fun o => Below.heap_alloc w o (b + 1) hlt
  have fz : ∀ o j, (w.alloc o).frozen? ⟨b, j, none⟩ = false := fun o j => Lib.frozen_of_heap ((kb o).trans hb) j
  have fz1 : ∀ o j, (w.alloc o).frozen? ⟨b + 1, j, none⟩ = false := fun o j => Lib.frozen_of_heap ((kq o).trans hq) j
  have c0 : ∀ o, (w.alloc o).cell? ⟨b, 0, none⟩ = some (.string ⟨#[]⟩) := fun o => by rw [Lib.cell_of_heap ((kb o).trans hb)]; rfl
  have c1 : ∀ o, (w.alloc o).cell? ⟨b, 1, none⟩ = some (.string ⟨#[]⟩) := fun o => by rw [Lib.cell_of_heap ((kb o).trans hb)]; rfl
  have ce : ∀ o, (w.alloc o).cell? ⟨b + 1, 0, none⟩ = some (.int .i64 0) := fun o => by rw [Lib.cell_of_heap ((kq o).trans hq)]; rfl
  go_wp2
  rw [hta_errno]
  generalize hw1 : World.setCell (World.setCell (World.setCell (World.alloc w _) _ _) _ _) _ _ = w1
  have q1 : w1.heap[b + 1]? = some (.cells #[.int .i64 9] T1 (0, 0)) := by
    rw [← hw1]
    exact heap_setc _ (heap_seto _ (by omega) (heap_seto _ (by omega) ((kq _).trans hq)))
  have q0 : w1.heap[b]? = some (.cells #[.string ⟨#[]⟩, .string ⟨#[]⟩] T (0, 0)) := by
    rw [← hw1]
    exact heap_seto _ (by omega) (heap_setc _ (heap_setc _ ((kb _).trans hb)))
  have qb : Below b w w1 := by
    rw [← hw1]
    exact ((((Below.refl b w).alloc (by omega) _).setCell (Nat.le_refl _) _).setCell (Nat.le_refl _) _).setCell (Nat.le_succ _) _
  clear hw1 c0 c1 ce fz fz1 kb kq hb hq
  have d0 : w1.cell? ⟨b + 1, 0, none⟩ = some (.int .i64 9) := by rw [Lib.cell_of_heap q1]; rfl
  have dz : w1.frozen? ⟨b + 1, 0, none⟩ = false := Lib.frozen_of_heap q1 0
  simp only [Result.andThen]
  rw [Oper.upon_value]
  go_wp2
  simp [bodyPostS, results, Tryz.results99]
  exact ⟨qb.setCell (Nat.le_succ _) _, heap_seto _ (by omega) q0, heap_setc _ q1⟩
theorem guard_one_pan {f : Nat} {es ds : List D} {x : Int} (hx : InR .i64 x) (c : Panics Tryz.prog f (es ++ ds) (.iface 38 (.int .i64 x))) :
    Called Tryz.prog 66 [.fn f es ds] (.tup [.agg [.str [], .str []], .int .i64 x]) := by
  refine ⟨enters_of Tryz.func66 rfl rfl, fun h w vs ha hd => ?_⟩
  simp only [DenL, Den] at hd
  obtain ⟨v, _, rfl, ⟨us, cs, rfl, hu, hc⟩, rfl⟩ := hd
  have hmf : ∀ (fn : Fn) (first cap : Array Value) (w : World), (Instr.makeFunc fn first cap).run Tryz.prog w = .ok (.func fn first cap) w := fun _ _ _ _ => rfl
  go_enter_defers Tryz.func66, Tryz.ntmps66
  go_wp2
  rw [c.ent]
  simp only [Oper.upon]
  have a2 : ∀ (o1 o2 : Obj), Agree h ((w.alloc o1).alloc o2) := fun o1 o2 => ha.of_blocks fun b ⟨o, v, hv⟩ => by
    have hlt := ha.lt hv
    rw [Lib.alloc_old (w.alloc o1) o2 b (by simp; omega), Lib.alloc_old w o1 b hlt]
  refine (c.call h _ _ (a2 _ _) (hu.append hc)).mono ?_
  rintro e w' ⟨h', rfl, ha', hle, hb, hold⟩
  obtain ⟨T, k0⟩ : ∃ T, w'.heap[w.heap.size]? = some (.cells #[.string ⟨#[]⟩, .string ⟨#[]⟩] T (0, 0)) := ⟨_, by
    rw [hb.block w.heap.size (by simp; omega)]
    exact heap_alloc2_old _ _ _⟩
  obtain ⟨T1, k1⟩ : ∃ T, w'.heap[w.heap.size + 1]? = some (.cells #[.int .i64 0] T (0, 0)) := ⟨_, by
    rw [hb.block (w.heap.size + 1) (by simp)]
    exact heap_alloc2_new _ _ _⟩
  have hbw : Below w.heap.size w w' := (((Below.refl w.heap.size w).alloc (Nat.le_refl _) _).alloc (by simp) _).trans (hb.mono (by simp; omega))
  simp only
  change bodyPostD Tryz.prog Tryz.f66 _ (Exit.panic _) _ _
  refine leaves_cons (f := 99) (args := #[.pointer (some ⟨w.heap.size, 0, none⟩), .pointer (some ⟨w.heap.size + 1, 0, none⟩)]) (by simp) (by simp [go_sem]) ?_
  refine (catch_one w.heap.size x [] T T1 _ k0 k1).mono ?_
  rintro e u' w'' ⟨rfl, rfl, b1, q0, q1⟩
  have c0 : w''.cell? ⟨w.heap.size, 0, none⟩ = some (.string ⟨#[]⟩) := by rw [Lib.cell_of_heap q0]; rfl
  have c1 : w''.cell? ⟨w.heap.size, 1, none⟩ = some (.string ⟨#[]⟩) := by rw [Lib.cell_of_heap q0]; rfl
  have ce : w''.cell? ⟨w.heap.size + 1, 0, none⟩ = some (.int .i64 x) := by rw [Lib.cell_of_heap q1]; rfl
  simp [Leaves, settle, results, Tryz.results66, go_sem, c0, c1, ce]
  have hfin := hbw.trans b1
  refine ⟨h, ?_, ha.of_blocks fun b ⟨o, v, hv⟩ => hfin.block b (ha.lt hv), Pub.Le.refl _, hfin, fun _ _ _ => rfl⟩
  simp only [Den, DenL]
  refine ⟨_, rfl, _, _, rfl, ⟨_, rfl, ⟨_, _, rfl, ⟨rfl, by simp⟩, _, _, rfl, ⟨rfl, by simp⟩, rfl⟩, ?_⟩, _, _, rfl, ⟨rfl, hx⟩, rfl⟩
  intro v hv
  simp at hv
  subst hv
  rfl
end Go.Proofs.YtfilfmadapjajaaGreatDoor
end
section
namespace Go.Proofs.YtfilfmadapjajaaGreatDoor
open Go Go.V Go.Nb
theorem fsign_t {q : Rat} (hq : okF q = true) : Called Tryz.prog 45 [frT q] (.tup [.int .i64 q.num.sign, .int .i64 0]) := by
  obtain ⟨h, e1⟩ := okP_dec hq
  have r1 := read_ok _ _ h
  rw [e1] at r1
  have sg := sign_c q.num
  unfold rtD at r1
  unfold itD at sg
  unfold frT
  refine called_of_run tbOk 6 ⟨Tryz.func45, rfl, rfl, Nat.le_of_ble_eq_true rfl⟩ ?_
  (conv => whnf)
  refine V.st ?_
  repeat ((try ((with_reducible refine .ext ?_); (conv => whnf))); (with_reducible refine call_intro (r := ?_) ?_ ?_); rotate_left; (focus (first | exact (r1))); (conv => whnf); refine V.st ?_)
  (conv => whnf)
  refine V.st ?_
  repeat ((try ((with_reducible refine .ext ?_); (conv => whnf))); (with_reducible refine call_intro (r := ?_) ?_ ?_); rotate_left; (focus (first | exact (sg))); (conv => whnf); refine V.st ?_)
  exact Fin.of rfl
theorem must_ok (s t : List UInt8) : Called Tryz.prog 88 [.agg [.str s, .str t], .int .i64 0] (.agg [.str s, .str t]) := by
  refine called_of_run tbOk 6 ⟨Tryz.func88, rfl, rfl, Nat.le_of_ble_eq_true rfl⟩ ?_
  (conv => whnf)
  refine V.st ?_
  exact Fin.of rfl
theorem musti_ok (n : Int) (h : InR .i64 n) : Called Tryz.prog 89 [.int .i64 n, .int .i64 0] (.int .i64 n) := by
  refine called_of_run tbOk 6 ⟨Tryz.func89, rfl, rfl, Nat.le_of_ble_eq_true rfl⟩ ?_
  (conv => whnf)
  refine V.st ?_
  exact Fin.of rfl
theorem ladd {a b : Nat} {p q : Rat} (h : Fq a p) (g : Fq b q) (ha : 0 < a) (hb : 0 < b) (hab : a + b + 1 ≤ 600) : Called Tryz.prog 56 [frT p, frT q] (frT (p + q)) := by
  have c := zadd h g ha hb hab
  unfold frT at *
  have m := must_ok
  refine called_of_run tbOk 6 ⟨Tryz.func56, rfl, rfl, Nat.le_of_ble_eq_true rfl⟩ ?_
  (conv => whnf)
  refine V.st ?_
  repeat ((try ((with_reducible refine .ext ?_); (conv => whnf))); (with_reducible refine call_intro (r := ?_) ?_ ?_); rotate_left; (focus (first | exact (c) | exact (m _ _))); (conv => whnf); refine V.st ?_)
  exact Fin.of rfl
theorem lsub {a b : Nat} {p q : Rat} (h : Fq a p) (g : Fq b q) (ha : 0 < a) (hb : 0 < b) (hab : a + b + 1 ≤ 600) : Called Tryz.prog 68 [frT p, frT q] (frT (p - q)) := by
  have c := zsub h g ha hb hab
  unfold frT at *
  have m := must_ok
  refine called_of_run tbOk 6 ⟨Tryz.func68, rfl, rfl, Nat.le_of_ble_eq_true rfl⟩ ?_
  (conv => whnf)
  refine V.st ?_
  repeat ((try ((with_reducible refine .ext ?_); (conv => whnf))); (with_reducible refine call_intro (r := ?_) ?_ ?_); rotate_left; (focus (first | exact (c) | exact (m _ _))); (conv => whnf); refine V.st ?_)
  exact Fin.of rfl
theorem lmul {a b : Nat} {p q : Rat} (h : Fq a p) (g : Fq b q) (ha : 0 < a) (hb : 0 < b) (hab : a + b + 1 ≤ 600) : Called Tryz.prog 71 [frT p, frT q] (frT (p * q)) := by
  have c := zmul h g ha hb hab
  unfold frT at *
  have m := must_ok
  refine called_of_run tbOk 6 ⟨Tryz.func71, rfl, rfl, Nat.le_of_ble_eq_true rfl⟩ ?_
  (conv => whnf)
  refine V.st ?_
  repeat ((try ((with_reducible refine .ext ?_); (conv => whnf))); (with_reducible refine call_intro (r := ?_) ?_ ?_); rotate_left; (focus (first | exact (c) | exact (m _ _))); (conv => whnf); refine V.st ?_)
  exact Fin.of rfl
theorem ldiv {a b : Nat} {p q : Rat} (h : Fq a p) (g : Fq b q) (h0 : q.num ≠ 0) (ha : 0 < a) (hb : 0 < b) (hab : a + b + 1 ≤ 600) : Called Tryz.prog 62 [frT p, frT q] (frT (p / q)) := by
  have c := zdiv h g h0 ha hb hab
  unfold frT at *
  have m := must_ok
  refine called_of_run tbOk 6 ⟨Tryz.func62, rfl, rfl, Nat.le_of_ble_eq_true rfl⟩ ?_
  (conv => whnf)
  refine V.st ?_
  repeat ((try ((with_reducible refine .ext ?_); (conv => whnf))); (with_reducible refine call_intro (r := ?_) ?_ ?_); rotate_left; (focus (first | exact (c) | exact (m _ _))); (conv => whnf); refine V.st ?_)
  exact Fin.of rfl
theorem lsign {n : Nat} {q : Rat} (h : Fq n q) (h0 : 0 < n ∧ n ≤ 600) : Called Tryz.prog 54 [frT q] (.int .i64 q.num.sign) := by
  have c := fsign_t (h.ok h0.1 h0.2)
  have hs : -1 ≤ q.num.sign ∧ q.num.sign ≤ 1 := by
    have := Int.sign_trichotomy q.num
    omega
  have m := musti_ok q.num.sign (by simp [InR, V.lo, V.hi]; omega)
  unfold frT at *
  generalize q.num.sign = sg at *
  refine called_of_run tbOk 6 ⟨Tryz.func54, rfl, rfl, Nat.le_of_ble_eq_true rfl⟩ ?_
  (conv => whnf)
  refine V.st ?_
  repeat ((try ((with_reducible refine .ext ?_); (conv => whnf))); (with_reducible refine call_intro (r := ?_) ?_ ?_); rotate_left; (focus (first | exact (c) | exact (m))); (conv => whnf); refine V.st ?_)
  exact Fin.of rfl
end Go.Proofs.YtfilfmadapjajaaGreatDoor
end
section
namespace Go.Proofs.YtfilfmadapjajaaGreatDoor
open Go Go.V Go.Nb
theorem k0 : ((0 : Nat) : Int) = 0 := rfl
theorem k1 : ((1 : Nat) : Int) = 1 := rfl
theorem k2 : ((2 : Nat) : Int) = 2 := rfl
theorem k3 : ((3 : Nat) : Int) = 3 := rfl
theorem tn0 : (0 : Int).toNat = 0 := rfl
theorem tn1 : (1 : Int).toNat = 1 := rfl
theorem tn2 : (2 : Int).toNat = 2 := rfl
theorem tn3 : (3 : Int).toNat = 3 := rfl
def fst3 (e0 e1 e2 : Int) : Int := if e0 ≠ 0 then e0 else if e1 ≠ 0 then e1 else e2
theorem zZ9_0 : type_of% @Nat.zero_add ∧ type_of% @tn0 ∧ type_of% @tn1 ∧ type_of% @tn2 := ⟨@Nat.zero_add, @tn0, @tn1, @tn2⟩
theorem fractions3 (a0 b0 a1 b1 a2 b2 : List UInt8) (e0 e1 e2 : Int) (c0 : Called Tryz.prog 81 [.agg [.str a0, .str b0]] (.int .i64 e0)) (c1 : Called Tryz.prog 81 [.agg [.str a1, .str b1]] (.int .i64 e1)) (c2 : Called Tryz.prog 81 [.agg [.str a2, .str b2]] (.int .i64 e2)) :
    Called Tryz.prog 43 [.slf 2 3 (fun j => List.take 2 (List.drop (j * 2) [.str a0, .str b0, .str a1, .str b1, .str a2, .str b2]))] (.int .i64 (fst3 e0 e1 e2)) := by
  obtain ⟨R, hR0⟩ : ∃ R, fst3 e0 e1 e2 = R := ⟨_, rfl⟩
  rw [hR0]
  unfold fst3 at hR0
  refine called_of_run tbOk 6 ⟨Tryz.func43, rfl, rfl, Nat.le_of_ble_eq_true rfl⟩ ?_
  (conv => whnf)
  (conv => whnf)
  (try simp only [Nat.zero_add])
  repeat ((first | refine V.s1 ?_); (try simp only [Nat.zero_add]))
  refine lp_any (0) (fun k => k ≤ 3 ∧ (0 < k → e0 = 0) ∧ (1 < k → e1 = 0) ∧ (2 < k → e2 = 0)) (fun k => 3 - k) (fun k => [(8, .int .i64 k)]) (fun k => []) ?_ ?_ ?_
  · exact V.wk
  · exact ⟨Nat.zero_le _, by omega, by omega, by omega⟩
  intro k hk
  obtain ⟨hk, z0, z1, z2⟩ := hk
  have hk4 : k = 0 ∨ k = 1 ∨ k = 2 ∨ k = 3 := by omega
  rcases hk4 with e | e | e | e
  all_goals subst e
  · simp only [k0]
    (conv => whnf)
    (try simp only [zZ9_0])
    repeat ((first | refine V.s1 ?_ | ((try ((with_reducible refine .ext ?_); (conv => whnf); (try simp only [zZ9_0]))); (with_reducible refine call_intro (r := ?_) ?_ ?_); rotate_left; (focus (first | exact (c0))); (conv => whnf))); (try simp only [zZ9_0]))
    refine Cnd.split (CondB.mk (fun hq => ?_) (fun hq => ?_))
    · have hR : R = e0 := by rw [← hR0]; simp at hq; simp [hq]
      rw [hR]
      (conv => whnf)
      (try simp only [Nat.zero_add])
      repeat ((first | refine V.s1 ?_); (try simp only [Nat.zero_add]))
      exact Fin.of rfl
    (conv => whnf)
    (try simp only [Nat.zero_add])
    repeat ((first | refine V.s1 ?_); (try simp only [Nat.zero_add]))
    simp at hq
    exact ⟨1, ⟨by omega, by omega, by omega, by omega⟩, by omega, V.wk⟩
  · simp only [k1]
    have y0 := z0 (by omega)
    (conv => whnf)
    (try simp only [zZ9_0])
    repeat ((first | refine V.s1 ?_ | ((try ((with_reducible refine .ext ?_); (conv => whnf); (try simp only [zZ9_0]))); (with_reducible refine call_intro (r := ?_) ?_ ?_); rotate_left; (focus (first | exact (c1))); (conv => whnf))); (try simp only [zZ9_0]))
    refine Cnd.split (CondB.mk (fun hq => ?_) (fun hq => ?_))
    · have hR : R = e1 := by rw [← hR0]; simp at hq; simp [hq, y0]
      rw [hR]
      (conv => whnf)
      (try simp only [Nat.zero_add])
      repeat ((first | refine V.s1 ?_); (try simp only [Nat.zero_add]))
      exact Fin.of rfl
    (conv => whnf)
    (try simp only [Nat.zero_add])
    repeat ((first | refine V.s1 ?_); (try simp only [Nat.zero_add]))
    simp at hq
    exact ⟨2, ⟨by omega, by omega, by omega, by omega⟩, by omega, V.wk⟩
  · simp only [k2]
    have y0 := z0 (by omega)
    have y1 := z1 (by omega)
    (conv => whnf)
    (try simp only [zZ9_0])
    repeat ((first | refine V.s1 ?_ | ((try ((with_reducible refine .ext ?_); (conv => whnf); (try simp only [zZ9_0]))); (with_reducible refine call_intro (r := ?_) ?_ ?_); rotate_left; (focus (first | exact (c2))); (conv => whnf))); (try simp only [zZ9_0]))
    refine Cnd.split (CondB.mk (fun hq => ?_) (fun hq => ?_))
    · have hR : R = e2 := by rw [← hR0]; simp [y0, y1]
      rw [hR]
      (conv => whnf)
      (try simp only [Nat.zero_add])
      repeat ((first | refine V.s1 ?_); (try simp only [Nat.zero_add]))
      exact Fin.of rfl
    (conv => whnf)
    (try simp only [Nat.zero_add])
    repeat ((first | refine V.s1 ?_); (try simp only [Nat.zero_add]))
    simp at hq
    exact ⟨3, ⟨by omega, by omega, by omega, by omega⟩, by omega, V.wk⟩
  · simp only [k3]
    have y0 := z0 (by omega)
    have y1 := z1 (by omega)
    have y2 := z2 (by omega)
    have hR : R = 0 := by rw [← hR0]; simp [y0, y1, y2]
    rw [hR]
    (conv => whnf)
    (try simp only [Nat.zero_add])
    repeat ((first | refine V.s1 ?_); (try simp only [Nat.zero_add]))
    exact Fin.of rfl
theorem fst3_ok (a0 b0 a1 b1 a2 b2 : List UInt8) : fst3 (if okP a0 b0 then 0 else 20) (if okP a1 b1 then 0 else 20) (if okP a2 b2 then 0 else 20) = if okP a0 b0 && okP a1 b1 && okP a2 b2 then 0 else 20 := by
  unfold fst3
  cases okP a0 b0 <;> cases okP a1 b1 <;> cases okP a2 b2 <;> rfl
end Go.Proofs.YtfilfmadapjajaaGreatDoor
end
section
namespace Go.Proofs.YtfilfmadapjajaaGreatDoor
open Go Go.V Go.Nb
theorem numbers_c (a0 b0 a1 b1 a2 b2 : List UInt8) : Called Tryz.prog 44 [.agg [.str a0, .str b0, .str a1, .str b1, .str a2, .str b2]] (.fn 82 [] [.ref [.str a0, .str b0, .str a1, .str b1, .str a2, .str b2]]) := by
  refine called_of_run tbOk 6 ⟨Tryz.func44, rfl, rfl, Nat.le_of_ble_eq_true rfl⟩ ?_
  (conv => whnf)
  refine V.st ?_
  exact Fin.of rfl
theorem zZ10_0 : type_of% @Nat.zero_add ∧ type_of% @tn0 ∧ type_of% @tn1 ∧ type_of% @tn2 := ⟨@Nat.zero_add, @tn0, @tn1, @tn2⟩
theorem lcheck_ok (a0 b0 a1 b1 a2 b2 : List UInt8) (g0 g1 g2 : Int) (hg0 : -1 ≤ g0 ∧ g0 ≤ 1) (hg1 : -1 ≤ g1 ∧ g1 ≤ 1) (hg2 : -1 ≤ g2 ∧ g2 ≤ 1)
    (fr : Called Tryz.prog 43 [.slf 2 3 (fun j => List.take 2 (List.drop (j * 2) [.str a0, .str b0, .str a1, .str b1, .str a2, .str b2]))] (.int .i64 0))
    (s0 : Called Tryz.prog 45 [.agg [.str a0, .str b0]] (.tup [.int .i64 g0, .int .i64 0])) (s1 : Called Tryz.prog 45 [.agg [.str a1, .str b1]] (.tup [.int .i64 g1, .int .i64 0])) (s2 : Called Tryz.prog 45 [.agg [.str a2, .str b2]] (.tup [.int .i64 g2, .int .i64 0])) :
    Called Tryz.prog 15 [.agg [.str a0, .str b0, .str a1, .str b1, .str a2, .str b2]] (.int .i64 (if g0 < 0 ∨ g1 < 0 ∨ g2 < 0 then 2 else 0)) := by
  obtain ⟨R, hR0⟩ : ∃ R : Int, (if g0 < 0 ∨ g1 < 0 ∨ g2 < 0 then 2 else 0) = R := ⟨_, rfl⟩
  rw [hR0]
  have hn := numbers_c a0 b0 a1 b1 a2 b2
  refine called_of_run tbOk 6 ⟨Tryz.func15, rfl, rfl, Nat.le_of_ble_eq_true rfl⟩ ?_
  (conv => whnf)
  (conv => whnf)
  (try simp only [Nat.zero_add])
  repeat ((first | refine V.s1 ?_ | ((try ((with_reducible refine .ext ?_); (conv => whnf); (try simp only [Nat.zero_add]))); (with_reducible refine call_intro (r := ?_) ?_ ?_); rotate_left; (focus (first | exact (fr) | exact (hn))); (conv => whnf))); (try simp only [Nat.zero_add]))
  refine ⟨_, _, ⟨Tryz.func82, rfl, rfl, Nat.le_of_ble_eq_true rfl⟩, ?_⟩
  (conv => whnf)
  (conv => whnf)
  (try simp only [Nat.zero_add])
  repeat ((first | refine V.s1 ?_); (try simp only [Nat.zero_add]))
  refine lp_any (0) (fun k => k ≤ 3 ∧ (0 < k → ¬ g0 < 0) ∧ (1 < k → ¬ g1 < 0) ∧ (2 < k → ¬ g2 < 0)) (fun k => 3 - k) (fun k => [(6, .int .i64 k)]) (fun k => [(24, .lp none)]) ?_ ?_ ?_
  · exact V.wk
  · exact ⟨Nat.zero_le _, by omega, by omega, by omega⟩
  intro k hk
  obtain ⟨hk, z0, z1, z2⟩ := hk
  have hk4 : k = 0 ∨ k = 1 ∨ k = 2 ∨ k = 3 := by omega
  rcases hk4 with e | e | e | e
  all_goals subst e
  · simp only [k0]
    (conv => whnf)
    (try simp only [zZ10_0])
    repeat ((first | refine V.s1 ?_ | ((try ((with_reducible refine .ext ?_); (conv => whnf); (try simp only [zZ10_0]))); (with_reducible refine call_intro (r := ?_) ?_ ?_); rotate_left; (focus (first | exact (s0))); (conv => whnf))); (try simp only [zZ10_0]))
    refine Cnd.split (CondB.mk (fun hq => ?_) (fun hq => ?_))
    · have hR : R = 2 := by
        rw [← hR0]
        simp at hq
        rw [if_pos (by omega)]
      rw [hR]
      (conv => whnf)
      (try simp only [Nat.zero_add])
      repeat ((first | refine V.s1 ?_); (try simp only [Nat.zero_add]))
      exact Fin.of rfl
    (conv => whnf)
    (try simp only [Nat.zero_add])
    repeat ((first | refine V.s1 ?_); (try simp only [Nat.zero_add]))
    simp at hq
    exact ⟨1, ⟨by omega, by omega, by omega, by omega⟩, by omega, V.wk⟩
  · simp only [k1]
    have y0 := z0 (by omega)
    (conv => whnf)
    (try simp only [zZ10_0])
    repeat ((first | refine V.s1 ?_ | ((try ((with_reducible refine .ext ?_); (conv => whnf); (try simp only [zZ10_0]))); (with_reducible refine call_intro (r := ?_) ?_ ?_); rotate_left; (focus (first | exact (s1))); (conv => whnf))); (try simp only [zZ10_0]))
    refine Cnd.split (CondB.mk (fun hq => ?_) (fun hq => ?_))
    · have hR : R = 2 := by
        rw [← hR0]
        simp at hq
        rw [if_pos (by omega)]
      rw [hR]
      (conv => whnf)
      (try simp only [Nat.zero_add])
      repeat ((first | refine V.s1 ?_); (try simp only [Nat.zero_add]))
      exact Fin.of rfl
    (conv => whnf)
    (try simp only [Nat.zero_add])
    repeat ((first | refine V.s1 ?_); (try simp only [Nat.zero_add]))
    simp at hq
    exact ⟨2, ⟨by omega, by omega, by omega, by omega⟩, by omega, V.wk⟩
  · simp only [k2]
    have y0 := z0 (by omega)
    have y1 := z1 (by omega)
    (conv => whnf)
    (try simp only [zZ10_0])
    repeat ((first | refine V.s1 ?_ | ((try ((with_reducible refine .ext ?_); (conv => whnf); (try simp only [zZ10_0]))); (with_reducible refine call_intro (r := ?_) ?_ ?_); rotate_left; (focus (first | exact (s2))); (conv => whnf))); (try simp only [zZ10_0]))
    refine Cnd.split (CondB.mk (fun hq => ?_) (fun hq => ?_))
    · have hR : R = 2 := by
        rw [← hR0]
        simp at hq
        rw [if_pos (by omega)]
      rw [hR]
      (conv => whnf)
      (try simp only [Nat.zero_add])
      repeat ((first | refine V.s1 ?_); (try simp only [Nat.zero_add]))
      exact Fin.of rfl
    (conv => whnf)
    (try simp only [Nat.zero_add])
    repeat ((first | refine V.s1 ?_); (try simp only [Nat.zero_add]))
    simp at hq
    exact ⟨3, ⟨by omega, by omega, by omega, by omega⟩, by omega, V.wk⟩
  · simp only [k3]
    have y0 := z0 (by omega)
    have y1 := z1 (by omega)
    have y2 := z2 (by omega)
    have hR : R = 0 := by
      rw [← hR0, if_neg (by omega)]
    rw [hR]
    (conv => whnf)
    (try simp only [Nat.zero_add])
    repeat ((first | refine V.s1 ?_); (try simp only [Nat.zero_add]))
    exact Fin.of rfl
end Go.Proofs.YtfilfmadapjajaaGreatDoor
end
