/- What some functions of the program answer at values that mean given lists, texts and numbers, each proved of the program's own code: part 4. Conditions: those that each theorem names. -/
import Derived.Test.YtpcpgjcdkgcbpaaGreatDoorH3
import Derived.Test.YtpcpgjcdkgcbpaaGreatDoorH2
import Derived.Test.YtpcpgjcdkgcbpaaGreatDoorH1
set_option linter.unusedSimpArgs false
set_option linter.unusedVariables false
set_option maxHeartbeats 8000000
set_option maxRecDepth 100000
section
namespace Go.Proofs.YtpcpgjcdkgcbpaaGreatDoor
open Go Go.V Go.Nb
theorem off {p : Go.Program} {f : Nat} {ys : List D} {c : Bool} (hc : c = false) : c = true → Called p f ys (.int .i64 0) := fun h => by rw [hc] at h; cases h
def okP (s t : List UInt8) : Bool := okW s && okW t && decide (0 < wval t) && decide (Nat.gcd (wval s).natAbs (wval t).natAbs = 1)
def qv (s t : List UInt8) : Rat := Rat.divInt (wval s) (wval t)
theorem okP_of {s t : List UInt8} (h : okP s t = true) : okW s = true ∧ okW t = true ∧ 0 < wval t ∧ Nat.gcd (wval s).natAbs (wval t).natAbs = 1 := by
  unfold okP at h
  simp only [Bool.and_eq_true, decide_eq_true_eq] at h
  exact ⟨h.1.1.1, h.1.1.2, h.1.2, h.2⟩
theorem qv_parts {s t : List UInt8} (h : okP s t = true) : (qv s t).num = wval s ∧ (qv s t).den = (wval t).natAbs := by
  obtain ⟨h1, h2, h3, h4⟩ := okP_of h
  have e : qv s t = Rat.divInt (wval s) ((wval t).natAbs : Nat) := by unfold qv; congr 1; omega
  rw [e]
  exact divInt_cop _ _ (by omega) h4
theorem qv_size {s t : List UInt8} (h : okP s t = true) : Q9 67 (qv s t) := by
  obtain ⟨h1, h2, h3, h4⟩ := okP_of h
  obtain ⟨p1, p2⟩ := qv_parts h
  exact ⟨by rw [p1]; exact len9 (okW_len h1).2, by rw [p2]; exact len9 (okW_len h2).2⟩
theorem rtD_qv {s t : List UInt8} (h : okP s t = true) : rtD (qv s t) = .agg [.ints .u32 (mg 1000000000 (wval s).natAbs), .bool (decide (wval s < 0)), .ints .u32 (mg 1000000000 (wval t).natAbs)] := by
  obtain ⟨p1, p2⟩ := qv_parts h
  unfold rtD
  rw [p1, p2]
theorem read_ok (s t : List UInt8) (h : okP s t = true) : Called Tryz.prog 61 [.agg [.str s, .str t]] (.tup [rtD (qv s t), .bool true]) := by
  obtain ⟨h1, h2, h3, h4⟩ := okP_of h
  have l1 := okW_len h1
  have l2 := okW_len h2
  have k1 := len9 l1.2
  have k2 := len9 l2.2
  have c1 := wcheck_c s (by omega)
  have c2 := wcheck_c t (by omega)
  rw [h1, if_pos rfl] at c1
  rw [h2, if_pos rfl] at c2
  have n1 := number_c s h1
  have n2 := number_c t h2
  have s1 := sign_c (wval t)
  rw [Int.sign_eq_one_of_pos h3] at s1
  have g1 := gcd_c (wval s).natAbs (wval t).natAbs (by omega) (by omega)
  rw [h4] at g1
  have o1 := compare_c 1 1 (by decide) (by decide)
  rw [rtD_qv h]
  refine called_of_run tbOk 6 ⟨Tryz.func61, rfl, rfl, Nat.le_of_ble_eq_true rfl⟩ ?_
  (conv => whnf)
  refine V.st ?_
  repeat ((try ((with_reducible refine .ext ?_); (conv => whnf))); (with_reducible refine call_intro (r := ?_) ?_ ?_); rotate_left; (focus (first | exact (c1) | exact (c2))); (conv => whnf); refine V.st ?_)
  refine ⟨(.take 0 (.take 1 (.take 3 (.take 4 (.ev (.cons 2 [4, 3] (.ev (.cons 5 [] (.ev (.cons 6 [] (.ev (.cons 7 [] (.ev (.cons 8 [] (.ev (.cons 9 [] (.done) (.nil))) (.nil))) (.nil))) (.cons 7 [] (.ev (.cons 6 [] (.ev (.cons 8 [] (.ev (.cons 9 [] (.done) (.nil))) (.nil))) (.nil))) (.nil)))) (.cons 6 [4, 3] (.ev (.cons 5 [] (.ev (.cons 7 [] (.ev (.cons 8 [] (.ev (.cons 9 [] (.done) (.nil))) (.nil))) (.nil))) (.cons 7 [4, 3] (.ev (.cons 5 [] (.ev (.cons 8 [] (.ev (.cons 9 [] (.done) (.nil))) (.nil))) (.nil))) (.nil)))) (.cons 7 [4, 3] (.ev (.cons 5 [] (.ev (.cons 6 [] (.ev (.cons 8 [] (.ev (.cons 9 [] (.done) (.nil))) (.nil))) (.nil))) (.cons 6 [4, 3] (.ev (.cons 5 [] (.ev (.cons 8 [] (.ev (.cons 9 [] (.done) (.nil))) (.nil))) (.nil))) (.nil)))) (.nil))))) (.cons 6 [4, 3, 1, 0] (.ev (.cons 2 [4, 3] (.ev (.cons 5 [] (.ev (.cons 7 [] (.ev (.cons 8 [] (.ev (.cons 9 [] (.done) (.nil))) (.nil))) (.nil))) (.cons 7 [4, 3] (.ev (.cons 5 [] (.ev (.cons 8 [] (.ev (.cons 9 [] (.done) (.nil))) (.nil))) (.nil))) (.nil)))) (.cons 7 [4, 3, 1, 0] (.ev (.cons 2 [4, 3] (.ev (.cons 5 [] (.ev (.cons 8 [] (.ev (.cons 9 [] (.done) (.nil))) (.nil))) (.nil))) (.nil))) (.nil)))) (.cons 7 [4, 3, 1, 0] (.ev (.cons 2 [4, 3] (.ev (.cons 5 [] (.ev (.cons 6 [] (.ev (.cons 8 [] (.ev (.cons 9 [] (.done) (.nil))) (.nil))) (.nil))) (.cons 6 [4, 3] (.ev (.cons 5 [] (.ev (.cons 8 [] (.ev (.cons 9 [] (.done) (.nil))) (.nil))) (.nil))) (.nil)))) (.cons 6 [4, 3, 1, 0] (.ev (.cons 2 [4, 3] (.ev (.cons 5 [] (.ev (.cons 8 [] (.ev (.cons 9 [] (.done) (.nil))) (.nil))) (.nil))) (.nil))) (.nil)))) (.nil))))))))), [], ⟨by kernel_rfl, by kernel_rfl, by kernel_rfl, by kernel_rfl⟩, ?_⟩
  refine drw_meet [(4, .box 4 0), (5, .box 5 0)] [(4, .box [.ints .u32 (mg 1000000000 (wval s).natAbs), .bool (decide (wval s < 0))]), (5, .box [.ints .u32 (mg 1000000000 (wval t).natAbs), .bool (decide (wval t < 0))])] ?_ ?_
  · (conv => whnf); (try simp only [Nat.zero_add])
    repeat' (first | exact V.wk | ((with_reducible refine And.intro ?_ draw_nil); (conv => whnf); (try simp only [Nat.zero_add])) | ((with_reducible first | refine draw_split ?_ ?_ | refine nds_split ?_ ?_) <;> (conv => whnf); (try simp only [Nat.zero_add])) | ((first | refine V.s1 ?_ | ((with_reducible refine recheck_and ?_ ?_); (focus ((conv => whnf); (try simp only [Nat.zero_add]); (repeat ((first | refine V.s1 ?_); (try simp only [Nat.zero_add]))); exact ⟨rfl⟩)); (conv => whnf)) | ((try ((with_reducible refine .ext ?_); (conv => whnf); (try simp only [Nat.zero_add]))); (with_reducible refine call_intro (r := ?_) ?_ ?_); rotate_left; (focus (first | exact (n1) | exact (n2))); (conv => whnf))); (try simp only [Nat.zero_add])) | (refine And.intro ?_ ?_ <;> (conv => whnf); (try simp only [Nat.zero_add])))
  (conv => whnf)
  refine V.st ?_
  repeat ((try ((with_reducible refine .ext ?_); (conv => whnf))); (with_reducible refine call_intro (r := ?_) ?_ ?_); rotate_left; (focus (first | exact (s1) | exact (g1) | exact (o1))); (conv => whnf); refine V.st ?_)
  exact Fin.of rfl
theorem read_no (s t : List UInt8) (h : okP s t = false) (hs : s.length ≤ 281474976710656) (ht : t.length ≤ 281474976710656) : Called Tryz.prog 61 [.agg [.str s, .str t]] (.tup [.agg [.any, .any, .any], .bool false]) := by
  have c1 := wcheck_c s hs
  have c2 := wcheck_c t ht
  by_cases h1 : okW s = true
  · rw [h1, if_pos rfl] at c1
    by_cases h2 : okW t = true
    · rw [h2, if_pos rfl] at c2
      have l1 := okW_len h1
      have l2 := okW_len h2
      have k1 := len9 l1.2
      have k2 := len9 l2.2
      have n1 := number_c s h1
      have n2 := number_c t h2
      have s1 := sign_c (wval t)
      have g1 := gcd_c (wval s).natAbs (wval t).natAbs (by omega) (by omega)
      have gl : (mg 1000000000 (Nat.gcd (wval s).natAbs (wval t).natAbs)).length ≤ 67 := by
        rcases Nat.eq_zero_or_pos (wval t).natAbs with e | e
        · rw [e, Nat.gcd_zero_right]; exact k1
        · exact Nat.le_trans (mg_len_mono (by omega) (Nat.gcd_le_right _ e)) k2
      have o1 := compare_c (Nat.gcd (wval s).natAbs (wval t).natAbs) 1 (by omega) (by decide)
      unfold okP at h
      rw [h1, h2, Bool.true_and, Bool.true_and] at h
      by_cases hp : 0 < wval t
      · rw [decide_eq_true hp, Bool.true_and, decide_eq_false_iff_not] at h
        rw [Int.sign_eq_one_of_pos hp] at s1
        refine called_of_run tbOk 6 ⟨Tryz.func61, rfl, rfl, Nat.le_of_ble_eq_true rfl⟩ ?_
        (conv => whnf)
        refine V.st ?_
        repeat ((try ((with_reducible refine .ext ?_); (conv => whnf))); (with_reducible refine call_intro (r := ?_) ?_ ?_); rotate_left; (focus (first | exact (c1) | exact (c2))); (conv => whnf); refine V.st ?_)
        refine ⟨(.take 0 (.take 1 (.take 3 (.take 4 (.ev (.cons 2 [4, 3] (.ev (.cons 5 [] (.ev (.cons 6 [] (.ev (.cons 7 [] (.ev (.cons 8 [] (.ev (.cons 9 [] (.done) (.nil))) (.nil))) (.nil))) (.cons 7 [] (.ev (.cons 6 [] (.ev (.cons 8 [] (.ev (.cons 9 [] (.done) (.nil))) (.nil))) (.nil))) (.nil)))) (.cons 6 [4, 3] (.ev (.cons 5 [] (.ev (.cons 7 [] (.ev (.cons 8 [] (.ev (.cons 9 [] (.done) (.nil))) (.nil))) (.nil))) (.cons 7 [4, 3] (.ev (.cons 5 [] (.ev (.cons 8 [] (.ev (.cons 9 [] (.done) (.nil))) (.nil))) (.nil))) (.nil)))) (.cons 7 [4, 3] (.ev (.cons 5 [] (.ev (.cons 6 [] (.ev (.cons 8 [] (.ev (.cons 9 [] (.done) (.nil))) (.nil))) (.nil))) (.cons 6 [4, 3] (.ev (.cons 5 [] (.ev (.cons 8 [] (.ev (.cons 9 [] (.done) (.nil))) (.nil))) (.nil))) (.nil)))) (.nil))))) (.cons 6 [4, 3, 1, 0] (.ev (.cons 2 [4, 3] (.ev (.cons 5 [] (.ev (.cons 7 [] (.ev (.cons 8 [] (.ev (.cons 9 [] (.done) (.nil))) (.nil))) (.nil))) (.cons 7 [4, 3] (.ev (.cons 5 [] (.ev (.cons 8 [] (.ev (.cons 9 [] (.done) (.nil))) (.nil))) (.nil))) (.nil)))) (.cons 7 [4, 3, 1, 0] (.ev (.cons 2 [4, 3] (.ev (.cons 5 [] (.ev (.cons 8 [] (.ev (.cons 9 [] (.done) (.nil))) (.nil))) (.nil))) (.nil))) (.nil)))) (.cons 7 [4, 3, 1, 0] (.ev (.cons 2 [4, 3] (.ev (.cons 5 [] (.ev (.cons 6 [] (.ev (.cons 8 [] (.ev (.cons 9 [] (.done) (.nil))) (.nil))) (.nil))) (.cons 6 [4, 3] (.ev (.cons 5 [] (.ev (.cons 8 [] (.ev (.cons 9 [] (.done) (.nil))) (.nil))) (.nil))) (.nil)))) (.cons 6 [4, 3, 1, 0] (.ev (.cons 2 [4, 3] (.ev (.cons 5 [] (.ev (.cons 8 [] (.ev (.cons 9 [] (.done) (.nil))) (.nil))) (.nil))) (.nil))) (.nil)))) (.nil))))))))), [], ⟨by kernel_rfl, by kernel_rfl, by kernel_rfl, by kernel_rfl⟩, ?_⟩
        refine drw_meet [(4, .box 4 0), (5, .box 5 0)] [(4, .box [.ints .u32 (mg 1000000000 (wval s).natAbs), .bool (decide (wval s < 0))]), (5, .box [.ints .u32 (mg 1000000000 (wval t).natAbs), .bool (decide (wval t < 0))])] ?_ ?_
        · (conv => whnf); (try simp only [Nat.zero_add])
          repeat' (first | exact V.wk | ((with_reducible refine And.intro ?_ draw_nil); (conv => whnf); (try simp only [Nat.zero_add])) | ((with_reducible first | refine draw_split ?_ ?_ | refine nds_split ?_ ?_) <;> (conv => whnf); (try simp only [Nat.zero_add])) | ((first | refine V.s1 ?_ | ((with_reducible refine recheck_and ?_ ?_); (focus ((conv => whnf); (try simp only [Nat.zero_add]); (repeat ((first | refine V.s1 ?_); (try simp only [Nat.zero_add]))); exact ⟨rfl⟩)); (conv => whnf)) | ((try ((with_reducible refine .ext ?_); (conv => whnf); (try simp only [Nat.zero_add]))); (with_reducible refine call_intro (r := ?_) ?_ ?_); rotate_left; (focus (first | exact (n1) | exact (n2))); (conv => whnf))); (try simp only [Nat.zero_add])) | (refine And.intro ?_ ?_ <;> (conv => whnf); (try simp only [Nat.zero_add])))
        (conv => whnf)
        refine V.st ?_
        repeat ((try ((with_reducible refine .ext ?_); (conv => whnf))); (with_reducible refine call_intro (r := ?_) ?_ ?_); rotate_left; (focus (first | exact (s1) | exact (g1) | exact (o1))); (conv => whnf); refine V.st ?_)
        refine Cnd.split (CondB.mk (fun hq => ?_) (fun hq => ?_))
        · (conv => whnf)
          refine V.st ?_
          exact Fin.tup ⟨Fin.agg ⟨Fin.any' _, Fin.any' _, Fin.any' _, trivial⟩, Fin.of rfl, trivial⟩
        · exfalso
          simp only [Bool.or_eq_false_iff, decide_eq_false_iff_not, Decidable.not_not] at hq
          apply h
          have h9 := Int.sign_eq_zero_iff_zero.1 hq.2
          omega
      · have hs1 : (wval t).sign = 0 ∨ (wval t).sign = -1 := by
          rcases (by omega : wval t = 0 ∨ wval t < 0) with e | e
          · rw [e]; exact .inl rfl
          · exact .inr (Int.sign_eq_neg_one_of_neg e)
        rcases hs1 with e | e
        all_goals
          rw [e] at s1
          refine called_of_run tbOk 6 ⟨Tryz.func61, rfl, rfl, Nat.le_of_ble_eq_true rfl⟩ ?_
          (conv => whnf)
          refine V.st ?_
          repeat ((try ((with_reducible refine .ext ?_); (conv => whnf))); (with_reducible refine call_intro (r := ?_) ?_ ?_); rotate_left; (focus (first | exact (c1) | exact (c2))); (conv => whnf); refine V.st ?_)
          refine ⟨(.take 0 (.take 1 (.take 3 (.take 4 (.ev (.cons 2 [4, 3] (.ev (.cons 5 [] (.ev (.cons 6 [] (.ev (.cons 7 [] (.ev (.cons 8 [] (.ev (.cons 9 [] (.done) (.nil))) (.nil))) (.nil))) (.cons 7 [] (.ev (.cons 6 [] (.ev (.cons 8 [] (.ev (.cons 9 [] (.done) (.nil))) (.nil))) (.nil))) (.nil)))) (.cons 6 [4, 3] (.ev (.cons 5 [] (.ev (.cons 7 [] (.ev (.cons 8 [] (.ev (.cons 9 [] (.done) (.nil))) (.nil))) (.nil))) (.cons 7 [4, 3] (.ev (.cons 5 [] (.ev (.cons 8 [] (.ev (.cons 9 [] (.done) (.nil))) (.nil))) (.nil))) (.nil)))) (.cons 7 [4, 3] (.ev (.cons 5 [] (.ev (.cons 6 [] (.ev (.cons 8 [] (.ev (.cons 9 [] (.done) (.nil))) (.nil))) (.nil))) (.cons 6 [4, 3] (.ev (.cons 5 [] (.ev (.cons 8 [] (.ev (.cons 9 [] (.done) (.nil))) (.nil))) (.nil))) (.nil)))) (.nil))))) (.cons 6 [4, 3, 1, 0] (.ev (.cons 2 [4, 3] (.ev (.cons 5 [] (.ev (.cons 7 [] (.ev (.cons 8 [] (.ev (.cons 9 [] (.done) (.nil))) (.nil))) (.nil))) (.cons 7 [4, 3] (.ev (.cons 5 [] (.ev (.cons 8 [] (.ev (.cons 9 [] (.done) (.nil))) (.nil))) (.nil))) (.nil)))) (.cons 7 [4, 3, 1, 0] (.ev (.cons 2 [4, 3] (.ev (.cons 5 [] (.ev (.cons 8 [] (.ev (.cons 9 [] (.done) (.nil))) (.nil))) (.nil))) (.nil))) (.nil)))) (.cons 7 [4, 3, 1, 0] (.ev (.cons 2 [4, 3] (.ev (.cons 5 [] (.ev (.cons 6 [] (.ev (.cons 8 [] (.ev (.cons 9 [] (.done) (.nil))) (.nil))) (.nil))) (.cons 6 [4, 3] (.ev (.cons 5 [] (.ev (.cons 8 [] (.ev (.cons 9 [] (.done) (.nil))) (.nil))) (.nil))) (.nil)))) (.cons 6 [4, 3, 1, 0] (.ev (.cons 2 [4, 3] (.ev (.cons 5 [] (.ev (.cons 8 [] (.ev (.cons 9 [] (.done) (.nil))) (.nil))) (.nil))) (.nil))) (.nil)))) (.nil))))))))), [], ⟨by kernel_rfl, by kernel_rfl, by kernel_rfl, by kernel_rfl⟩, ?_⟩
          refine drw_meet [(4, .box 4 0), (5, .box 5 0)] [(4, .box [.ints .u32 (mg 1000000000 (wval s).natAbs), .bool (decide (wval s < 0))]), (5, .box [.ints .u32 (mg 1000000000 (wval t).natAbs), .bool (decide (wval t < 0))])] ?_ ?_
          · (conv => whnf); (try simp only [Nat.zero_add])
            repeat' (first | exact V.wk | ((with_reducible refine And.intro ?_ draw_nil); (conv => whnf); (try simp only [Nat.zero_add])) | ((with_reducible first | refine draw_split ?_ ?_ | refine nds_split ?_ ?_) <;> (conv => whnf); (try simp only [Nat.zero_add])) | ((first | refine V.s1 ?_ | ((with_reducible refine recheck_and ?_ ?_); (focus ((conv => whnf); (try simp only [Nat.zero_add]); (repeat ((first | refine V.s1 ?_); (try simp only [Nat.zero_add]))); exact ⟨rfl⟩)); (conv => whnf)) | ((try ((with_reducible refine .ext ?_); (conv => whnf); (try simp only [Nat.zero_add]))); (with_reducible refine call_intro (r := ?_) ?_ ?_); rotate_left; (focus (first | exact (n1) | exact (n2))); (conv => whnf))); (try simp only [Nat.zero_add])) | (refine And.intro ?_ ?_ <;> (conv => whnf); (try simp only [Nat.zero_add])))
          (conv => whnf)
          refine V.st ?_
          repeat ((try ((with_reducible refine .ext ?_); (conv => whnf))); (with_reducible refine call_intro (r := ?_) ?_ ?_); rotate_left; (focus (first | exact (s1) | exact (g1) | exact (o1))); (conv => whnf); refine V.st ?_)
          refine ⟨.int .i64 0, off rfl, ?_⟩
          (conv => whnf)
          refine V.st ?_
          exact Fin.tup ⟨Fin.agg ⟨Fin.any' _, Fin.any' _, Fin.any' _, trivial⟩, Fin.of rfl, trivial⟩
    · rw [if_neg h2] at c2
      refine called_of_run tbOk 6 ⟨Tryz.func61, rfl, rfl, Nat.le_of_ble_eq_true rfl⟩ ?_
      (conv => whnf)
      refine V.st ?_
      repeat ((try ((with_reducible refine .ext ?_); (conv => whnf))); (with_reducible refine call_intro (r := ?_) ?_ ?_); rotate_left; (focus (first | exact (c1) | exact (c2))); (conv => whnf); refine V.st ?_)
      exact Fin.tup ⟨Fin.agg ⟨Fin.any' _, Fin.any' _, Fin.any' _, trivial⟩, Fin.of rfl, trivial⟩
  · rw [if_neg h1] at c1
    refine called_of_run tbOk 6 ⟨Tryz.func61, rfl, rfl, Nat.le_of_ble_eq_true rfl⟩ ?_
    (conv => whnf)
    refine V.st ?_
    repeat ((try ((with_reducible refine .ext ?_); (conv => whnf))); (with_reducible refine call_intro (r := ?_) ?_ ?_); rotate_left; (focus (first | exact (c1) | exact (c2))); (conv => whnf); refine V.st ?_)
    refine Cnd.split (CondB.mk (fun hq => ?_) (fun hq => ?_))
    · (conv => whnf)
      refine V.st ?_
      exact Fin.tup ⟨Fin.agg ⟨Fin.any' _, Fin.any' _, Fin.any' _, trivial⟩, Fin.of rfl, trivial⟩
    · simp at hq
theorem fcheck_c (s t : List UInt8) (hs : s.length ≤ 281474976710656) (ht : t.length ≤ 281474976710656) : Called Tryz.prog 34 [.agg [.str s, .str t]] (.int .i64 (if okP s t then 0 else 20)) := by
  by_cases h : okP s t = true
  · have r1 := read_ok s t h
    rw [h, if_pos rfl]
    refine called_of_run tbOk 6 ⟨Tryz.func34, rfl, rfl, Nat.le_of_ble_eq_true rfl⟩ ?_
    (conv => whnf)
    refine V.st ?_
    repeat ((try ((with_reducible refine .ext ?_); (conv => whnf))); (with_reducible refine call_intro (r := ?_) ?_ ?_); rotate_left; (focus (first | exact (r1))); (conv => whnf); refine V.st ?_)
    exact Fin.of rfl
  · have r1 := read_no s t (by simpa using h) hs ht
    rw [if_neg h]
    refine called_of_run tbOk 6 ⟨Tryz.func34, rfl, rfl, Nat.le_of_ble_eq_true rfl⟩ ?_
    (conv => whnf)
    refine V.st ?_
    repeat ((try ((with_reducible refine .ext ?_); (conv => whnf))); (with_reducible refine call_intro (r := ?_) ?_ ?_); rotate_left; (focus (first | exact (r1))); (conv => whnf); refine V.st ?_)
    exact Fin.of rfl
theorem qsize {s t : List UInt8} (h : okP s t = true) : Q9 20000000 (qv s t) := (qv_size h).mono (by omega)
theorem qordS {s t : List UInt8} (h : okP s t = true) : S9 40000000 (qv s t).num ∧ (mg 1000000000 (qv s t).den).length ≤ 40000000 := ⟨(qv_size h).1.mono (by omega), Nat.le_trans (qv_size h).2 (by omega)⟩
theorem fcmp_ok (s t u v : List UInt8) (h : okP s t = true) (g : okP u v = true) : Called Tryz.prog 25 [.agg [.str s, .str t], .agg [.str u, .str v]] (.tup [.int .i64 (ordQ (qv s t) (qv u v)), .int .i64 0]) := by
  have r1 := read_ok s t h
  have r2 := read_ok u v g
  have o := order_r (qv s t) (qv u v) (qordS h).1 (qordS g).1 (qordS h).2 (qordS g).2
  have ap : Called Tryz.prog 54 [.agg [.str s, .str t], .agg [.str u, .str v], .fn 55 [] []] (.tup [.int .i64 (ordQ (qv s t) (qv u v)), .int .i64 0]) := by
    refine called_of_run tbOk 6 ⟨Tryz.func54, rfl, rfl, Nat.le_of_ble_eq_true rfl⟩ ?_
    (conv => whnf)
    refine V.st ?_
    repeat ((try ((with_reducible refine .ext ?_); (conv => whnf))); (with_reducible refine call_intro (r := ?_) ?_ ?_); rotate_left; (focus (first | exact (r1) | exact (r2) | exact (o))); (conv => whnf); refine V.st ?_)
    exact Fin.of rfl
  refine called_of_run tbOk 6 ⟨Tryz.func25, rfl, rfl, Nat.le_of_ble_eq_true rfl⟩ ?_
  (conv => whnf)
  refine V.st ?_
  repeat ((try ((with_reducible refine .ext ?_); (conv => whnf))); (with_reducible refine call_intro (r := ?_) ?_ ?_); rotate_left; (focus (first | exact (ap))); (conv => whnf); refine V.st ?_)
  exact Fin.of rfl
end Go.Proofs.YtpcpgjcdkgcbpaaGreatDoor
end
section
namespace Go.Proofs.YtpcpgjcdkgcbpaaGreatDoor
open Go Go.V Go.Nb
def Fq (n : Nat) (q : Rat) : Prop := q.num.natAbs < 10 ^ n ∧ q.den < 10 ^ n
theorem Fq.mono {m n : Nat} {q : Rat} (h : Fq m q) (hl : m ≤ n) : Fq n q :=
  ⟨Nat.lt_of_lt_of_le h.1 (Nat.pow_le_pow_right (by decide) hl), Nat.lt_of_lt_of_le h.2 (Nat.pow_le_pow_right (by decide) hl)⟩
theorem Fq.ok {n : Nat} {q : Rat} (h : Fq n q) (h0 : 0 < n) (h6 : n ≤ 600) : okF q = true := by
  unfold okF
  simp only [Bool.and_eq_true, decide_eq_true_eq]
  exact ⟨Nat.le_trans (pad_dec n _ h0 h.1).1 h6, Nat.le_trans (pad_dec n _ h0 h.2).1 h6⟩
theorem zdivInt_le (n : Int) (d : Nat) (hd : 0 < d) : (Rat.divInt n d).num.natAbs ≤ n.natAbs ∧ (Rat.divInt n d).den ≤ d := by
  rw [Rat.num_divInt, Rat.den_divInt, if_neg (by omega), Int.sign_eq_one_of_pos (by omega), Int.one_mul]
  refine ⟨?_, ?_⟩
  · rw [Int.natAbs_ediv_of_dvd (by exact Int.gcd_dvd_right ..)]
    exact Nat.div_le_self _ _
  · rw [Int.natAbs_natCast]
    exact Nat.div_le_self _ _
theorem fq_divInt {n : Nat} {x : Int} {d : Nat} (hd : 0 < d) (h1 : x.natAbs < 10 ^ n) (h2 : d < 10 ^ n) : Fq n (Rat.divInt x d) :=
  ⟨Nat.lt_of_le_of_lt (zdivInt_le x d hd).1 h1, Nat.lt_of_le_of_lt (zdivInt_le x d hd).2 h2⟩
theorem zlt_mul {a b x y : Nat} (h1 : x < 10 ^ a) (h2 : y < 10 ^ b) : x * y < 10 ^ (a + b) := by
  rw [Nat.pow_add]
  rcases Nat.eq_zero_or_pos y with e | e
  · rw [e, Nat.mul_zero]
    exact Nat.mul_pos (Nat.pow_pos (by decide)) (Nat.pow_pos (by decide))
  · exact Nat.lt_of_lt_of_le (Nat.mul_lt_mul_of_pos_right h1 e) (Nat.mul_le_mul_left _ (Nat.le_of_lt h2))
theorem Fq.add {a b : Nat} {p q : Rat} (h : Fq a p) (g : Fq b q) : Fq (a + b + 1) (p + q) := by
  have hp := p.den_pos
  have hq := q.den_pos
  have e : p + q = Rat.divInt (p.num * q.den + q.num * p.den) ((p.den * q.den : Nat) : Int) := by
    conv => lhs; rw [← Rat.num_divInt_den p, ← Rat.num_divInt_den q]
    rw [Rat.divInt_add_divInt _ _ (by omega) (by omega), Int.natCast_mul]
  rw [e]
  have m1 := zlt_mul h.1 g.2
  have m2 := zlt_mul g.1 h.2
  have m3 := zlt_mul h.2 g.2
  rw [Nat.add_comm b a] at m2
  have e10 : 10 ^ (a + b + 1) = 10 * 10 ^ (a + b) := by rw [Nat.pow_succ, Nat.mul_comm]
  refine fq_divInt (Nat.mul_pos hp hq) ?_ ?_
  · have t := Int.natAbs_add_le (p.num * q.den) (q.num * p.den)
    rw [Int.natAbs_mul, Int.natAbs_mul, Int.natAbs_natCast, Int.natAbs_natCast] at t
    omega
  · omega
theorem Fq.neg {a : Nat} {p : Rat} (h : Fq a p) : Fq a (-p) := ⟨by rw [Rat.neg_num, Int.natAbs_neg]; exact h.1, by rw [Rat.neg_den]; exact h.2⟩
theorem Fq.sub {a b : Nat} {p q : Rat} (h : Fq a p) (g : Fq b q) : Fq (a + b + 1) (p - q) := by
  rw [Rat.sub_eq_add_neg]
  exact h.add g.neg
theorem Fq.mul {a b : Nat} {p q : Rat} (h : Fq a p) (g : Fq b q) : Fq (a + b) (p * q) := by
  have e : p * q = Rat.divInt (p.num * q.num) ((p.den * q.den : Nat) : Int) := by
    conv => lhs; rw [← Rat.num_divInt_den p, ← Rat.num_divInt_den q]
    rw [Rat.divInt_mul_divInt, Int.natCast_mul]
  rw [e]
  refine fq_divInt (Nat.mul_pos p.den_pos q.den_pos) ?_ (zlt_mul h.2 g.2)
  rw [Int.natAbs_mul]
  exact zlt_mul h.1 g.1
theorem Fq.inv {a : Nat} {p : Rat} (h : Fq a p) (h0 : p.num ≠ 0) : Fq a p⁻¹ := by
  rw [Rat.inv_def]
  rcases Int.lt_or_gt_of_ne h0 with hn | hn
  · have e : Rat.divInt (p.den : Int) p.num = Rat.divInt (-(p.den : Int)) ((p.num.natAbs : Nat) : Int) := by
      rw [Rat.divInt_eq_divInt_iff h0 (by omega)]
      have : ((p.num.natAbs : Nat) : Int) = -p.num := by omega
      rw [this]
      grind
    rw [e]
    exact fq_divInt (by omega) (by rw [Int.natAbs_neg, Int.natAbs_natCast]; exact h.2) h.1
  · have e : p.num = ((p.num.natAbs : Nat) : Int) := by omega
    rw [e]
    exact fq_divInt (by omega) (by rw [Int.natAbs_natCast]; exact h.2) h.1
theorem Fq.div {a b : Nat} {p q : Rat} (h : Fq a p) (g : Fq b q) (h0 : q.num ≠ 0) : Fq (a + b) (p / q) := by
  rw [Rat.div_def]
  exact h.mul (g.inv h0)
theorem dec_rdv : ∀ (n : Nat) (d : List UInt8), d.length = n → d ≠ [] → (∀ c ∈ d, isDig c = true) → (d.getD 0 0 ≠ 48 ∨ d.length = 1) → dec (rdv d) = d
  | 0, d, h, h0, _, _ => absurd (List.length_eq_zero_iff.1 h) h0
  | n + 1, d, h, h0, hd, hz => by
    obtain ⟨e, c, rfl⟩ : ∃ e c, d = e ++ [c] := ⟨d.dropLast, d.getLast h0, (List.dropLast_concat_getLast h0).symm⟩
    have hc := hd c (by simp)
    simp only [isDig, decide_eq_true_eq] at hc
    have hu : UInt8.ofNat (48 + (c.toNat - 48)) = c := by
      have : 48 + (c.toNat - 48) = c.toNat := by omega
      rw [this]
      exact UInt8.ofNat_toNat
    rw [rdv_append, rdv_one, List.length_singleton, Nat.pow_one]
    by_cases he : e = []
    · subst he
      rw [List.nil_append, show rdv [] = 0 from rfl, Nat.zero_mul, Nat.zero_add, dec_small (by omega), hu]
    · have hl : e.length = n := by simpa using h
      have hpos : 0 < e.length := List.length_pos_iff.2 he
      have hg : (e ++ [c]).getD 0 0 = e.getD 0 0 := by
        rw [List.getD_eq_getElem?_getD, List.getD_eq_getElem?_getD, List.getElem?_append_left hpos]
      have hz' : e.getD 0 0 ≠ 48 := by
        rcases hz with hz | hz
        · rwa [hg] at hz
        · simp at hz
          exact absurd hz he
      have ih := dec_rdv n e hl he (fun x hx => hd x (by simp [hx])) (.inl hz')
      have hr : 0 < rdv e := by
        rcases Nat.eq_zero_or_pos (rdv e) with h1 | h1
        · rw [h1, dec_small (by omega)] at ih
          rw [← ih] at hz'
          exact absurd rfl hz'
        · exact h1
      have e1 : (rdv e * 10 + (c.toNat - 48)) / 10 = rdv e := by omega
      have e2 : (rdv e * 10 + (c.toNat - 48)) % 10 = c.toNat - 48 := by omega
      rw [dec_big (by omega), e1, e2, ih, hu]
theorem decZ_wval {s : List UInt8} (h : okW s = true) : decZ (wval s) = s := by
  have key : ∀ (d : List UInt8) (neg : Bool), okD d neg = true → dec (rdv d) = d ∧ (neg = true → 0 < rdv d) := by
    intro d neg h
    have h' := h
    unfold okD at h
    simp only [Bool.and_eq_true, Bool.not_eq_true', Bool.or_eq_false_iff, decide_eq_false_iff_not, List.all_eq_true, Bool.and_eq_false_iff] at h
    refine ⟨dec_rdv _ d rfl (fun e => h.1.1.1 (by rw [e]; rfl)) h.1.2 ?_, fun e => okD_nz (by rw [e] at h'; exact h')⟩
    rcases h.2 with h2 | h2
    · exact .inl h2
    · refine .inr ?_
      have h3 := h.1.1.1
      have h4 := h2.2
      omega
  unfold okW at h
  obtain ⟨k1, k2⟩ := key _ _ h
  unfold wval
  cases hn : Go.Lib.hasPrefix s [45] with
  | true =>
    have hs : s = 45 :: Go.Lib.trimPrefix s [45] := by
      unfold Go.Lib.trimPrefix
      rw [if_pos hn]
      match s, hn with
      | c :: r, hn =>
        unfold Go.Lib.hasPrefix at hn
        simp at hn
        simp [hn]
    have h0 := k2 hn
    simp only [if_true]
    unfold decZ
    rw [if_pos (by omega)]
    rw [show (-((rdv (Go.Lib.trimPrefix s [45]) : Nat) : Int)).natAbs = rdv (Go.Lib.trimPrefix s [45]) by omega, k1]
    exact hs.symm
  | false =>
    have hs : Go.Lib.trimPrefix s [45] = s := by
      unfold Go.Lib.trimPrefix
      rw [hn]
      rfl
    simp only [Bool.false_eq_true, if_false]
    rw [hs] at k1 ⊢
    unfold decZ
    rw [if_neg (by omega), Int.natAbs_natCast, k1]
end Go.Proofs.YtpcpgjcdkgcbpaaGreatDoor
end
section
namespace Go.Proofs.YtpcpgjcdkgcbpaaGreatDoor
open Go Go.V Go.Nb
theorem fadd_ok (s t u v : List UInt8) (h : okP s t = true) (g : okP u v = true) (hn : (mg 1000000000 (qv s t + qv u v).num.natAbs).length ≤ 90000000) (hd : (mg 1000000000 (qv s t + qv u v).den).length ≤ 90000000) : Called Tryz.prog 21 [.agg [.str s, .str t], .agg [.str u, .str v]] (frR (qv s t + qv u v)) := by
  have r1 := read_ok s t h
  have r2 := read_ok u v g
  have o := add_c (qv s t) (qv u v) (qsize h) (qsize g)
  have w := write_c (qv s t + qv u v) hn hd
  generalize qv s t + qv u v = q at *
  have ap : Called Tryz.prog 51 [.agg [.str s, .str t], .agg [.str u, .str v], .fn 52 [] []] (.tup [rtD q, .int .i64 0]) := by
    refine called_of_run tbOk 6 ⟨Tryz.func51, rfl, rfl, Nat.le_of_ble_eq_true rfl⟩ ?_
    (conv => whnf)
    refine V.st ?_
    repeat ((try ((with_reducible refine .ext ?_); (conv => whnf))); (with_reducible refine call_intro (r := ?_) ?_ ?_); rotate_left; (focus (first | exact (r1) | exact (r2) | exact (o))); (conv => whnf); refine V.st ?_)
    exact Fin.of rfl
  have rs : Called Tryz.prog 50 [rtD q, .int .i64 0] (frR q) := by
    refine called_of_run tbOk 6 ⟨Tryz.func50, rfl, rfl, Nat.le_of_ble_eq_true rfl⟩ ?_
    (conv => whnf)
    refine V.st ?_
    repeat ((try ((with_reducible refine .ext ?_); (conv => whnf))); (with_reducible refine call_intro (r := ?_) ?_ ?_); rotate_left; (focus (first | exact (w))); (conv => whnf); refine V.st ?_)
    exact Fin.of rfl
  refine called_of_run tbOk 6 ⟨Tryz.func21, rfl, rfl, Nat.le_of_ble_eq_true rfl⟩ ?_
  (conv => whnf)
  refine V.st ?_
  repeat ((try ((with_reducible refine .ext ?_); (conv => whnf))); (with_reducible refine call_intro (r := ?_) ?_ ?_); rotate_left; (focus (first | exact (ap) | exact (rs))); (conv => whnf); refine V.st ?_)
  exact Fin.of rfl
theorem fsub_ok (s t u v : List UInt8) (h : okP s t = true) (g : okP u v = true) (hn : (mg 1000000000 (qv s t - qv u v).num.natAbs).length ≤ 90000000) (hd : (mg 1000000000 (qv s t - qv u v).den).length ≤ 90000000) : Called Tryz.prog 60 [.agg [.str s, .str t], .agg [.str u, .str v]] (frR (qv s t - qv u v)) := by
  have r1 := read_ok s t h
  have r2 := read_ok u v g
  have o := sub_c (qv s t) (qv u v) (qsize h) (qsize g)
  have w := write_c (qv s t - qv u v) hn hd
  generalize qv s t - qv u v = q at *
  have ap : Called Tryz.prog 51 [.agg [.str s, .str t], .agg [.str u, .str v], .fn 106 [] []] (.tup [rtD q, .int .i64 0]) := by
    refine called_of_run tbOk 6 ⟨Tryz.func51, rfl, rfl, Nat.le_of_ble_eq_true rfl⟩ ?_
    (conv => whnf)
    refine V.st ?_
    repeat ((try ((with_reducible refine .ext ?_); (conv => whnf))); (with_reducible refine call_intro (r := ?_) ?_ ?_); rotate_left; (focus (first | exact (r1) | exact (r2) | exact (o))); (conv => whnf); refine V.st ?_)
    exact Fin.of rfl
  have rs : Called Tryz.prog 50 [rtD q, .int .i64 0] (frR q) := by
    refine called_of_run tbOk 6 ⟨Tryz.func50, rfl, rfl, Nat.le_of_ble_eq_true rfl⟩ ?_
    (conv => whnf)
    refine V.st ?_
    repeat ((try ((with_reducible refine .ext ?_); (conv => whnf))); (with_reducible refine call_intro (r := ?_) ?_ ?_); rotate_left; (focus (first | exact (w))); (conv => whnf); refine V.st ?_)
    exact Fin.of rfl
  refine called_of_run tbOk 6 ⟨Tryz.func60, rfl, rfl, Nat.le_of_ble_eq_true rfl⟩ ?_
  (conv => whnf)
  refine V.st ?_
  repeat ((try ((with_reducible refine .ext ?_); (conv => whnf))); (with_reducible refine call_intro (r := ?_) ?_ ?_); rotate_left; (focus (first | exact (ap) | exact (rs))); (conv => whnf); refine V.st ?_)
  exact Fin.of rfl
theorem fmul_ok (s t u v : List UInt8) (h : okP s t = true) (g : okP u v = true) (hn : (mg 1000000000 (qv s t * qv u v).num.natAbs).length ≤ 90000000) (hd : (mg 1000000000 (qv s t * qv u v).den).length ≤ 90000000) : Called Tryz.prog 31 [.agg [.str s, .str t], .agg [.str u, .str v]] (frR (qv s t * qv u v)) := by
  have r1 := read_ok s t h
  have r2 := read_ok u v g
  have o := mul_c (qv s t) (qv u v) (qsize h) (qsize g)
  have w := write_c (qv s t * qv u v) hn hd
  generalize qv s t * qv u v = q at *
  have ap : Called Tryz.prog 51 [.agg [.str s, .str t], .agg [.str u, .str v], .fn 67 [] []] (.tup [rtD q, .int .i64 0]) := by
    refine called_of_run tbOk 6 ⟨Tryz.func51, rfl, rfl, Nat.le_of_ble_eq_true rfl⟩ ?_
    (conv => whnf)
    refine V.st ?_
    repeat ((try ((with_reducible refine .ext ?_); (conv => whnf))); (with_reducible refine call_intro (r := ?_) ?_ ?_); rotate_left; (focus (first | exact (r1) | exact (r2) | exact (o))); (conv => whnf); refine V.st ?_)
    exact Fin.of rfl
  have rs : Called Tryz.prog 50 [rtD q, .int .i64 0] (frR q) := by
    refine called_of_run tbOk 6 ⟨Tryz.func50, rfl, rfl, Nat.le_of_ble_eq_true rfl⟩ ?_
    (conv => whnf)
    refine V.st ?_
    repeat ((try ((with_reducible refine .ext ?_); (conv => whnf))); (with_reducible refine call_intro (r := ?_) ?_ ?_); rotate_left; (focus (first | exact (w))); (conv => whnf); refine V.st ?_)
    exact Fin.of rfl
  refine called_of_run tbOk 6 ⟨Tryz.func31, rfl, rfl, Nat.le_of_ble_eq_true rfl⟩ ?_
  (conv => whnf)
  refine V.st ?_
  repeat ((try ((with_reducible refine .ext ?_); (conv => whnf))); (with_reducible refine call_intro (r := ?_) ?_ ?_); rotate_left; (focus (first | exact (ap) | exact (rs))); (conv => whnf); refine V.st ?_)
  exact Fin.of rfl
theorem Q9.inv {k : Nat} {q : Rat} (h : Q9 k q) (h0 : q.num ≠ 0) : Q9 k q⁻¹ := by
  obtain ⟨p1, p2⟩ := inv_parts q h0
  constructor
  · rw [p1]
    unfold S9
    have e : (if decide (q.num < 0) = true then -(q.den : Int) else (q.den : Int)).natAbs = q.den := by
      split <;> simp
    rw [e]
    exact h.2
  · rw [p2]; exact h.1
theorem fdiv_ok (s t u v : List UInt8) (h : okP s t = true) (g : okP u v = true) (h0 : (qv u v).num ≠ 0) (hn : (mg 1000000000 (qv s t / qv u v).num.natAbs).length ≤ 90000000) (hd : (mg 1000000000 (qv s t / qv u v).den).length ≤ 90000000) : Called Tryz.prog 86 [.agg [.str s, .str t], .agg [.str u, .str v]] (frR (qv s t / qv u v)) := by
  have r1 := read_ok s t h
  have r2 := read_ok u v g
  have z1 := zero_c (qv u v).num.natAbs
  rw [decide_eq_false (show ¬ (qv u v).num.natAbs = 0 by omega)] at z1
  have i1 := inverse_c (qv u v) h0
  have o := mul_c (qv s t) (qv u v)⁻¹ (qsize h) ((qsize g).inv h0)
  have w := write_c (qv s t / qv u v) hn hd
  rw [Rat.div_def] at w ⊢
  unfold frR at *
  generalize qv s t * (qv u v)⁻¹ = q at *
  generalize (qv u v)⁻¹ = y at *
  refine called_of_run tbOk 6 ⟨Tryz.func86, rfl, rfl, Nat.le_of_ble_eq_true rfl⟩ ?_
  (conv => whnf)
  refine V.st ?_
  repeat ((try ((with_reducible refine .ext ?_); (conv => whnf))); (with_reducible refine call_intro (r := ?_) ?_ ?_); rotate_left; (focus (first | exact (r1) | exact (r2) | exact (z1))); (conv => whnf); refine V.st ?_)
  refine ⟨(.take 0 (.take 1 (.ev (.cons 2 [0] (.ev (.cons 3 [] (.ev (.cons 4 [] (.take 5 (.take 6 (.ev (.cons 7 [] (.take 8 (.done)) (.nil))))) (.nil))) (.nil))) (.nil))))), [], ⟨by kernel_rfl, by kernel_rfl, by kernel_rfl, by kernel_rfl⟩, .go (drawD_one ?_)⟩
  (conv => whnf)
  refine V.st ?_
  repeat ((try ((with_reducible refine .ext ?_); (conv => whnf))); (with_reducible refine call_intro (r := ?_) ?_ ?_); rotate_left; (focus (first | exact (i1) | exact (o) | exact (w))); (conv => whnf); refine V.st ?_)
  exact Fin.of rfl
def frT (x : Rat) : D := .agg [.str (decZ x.num), .str (dec x.den)]
theorem okP_dec {q : Rat} (h : okF q = true) : okP (decZ q.num) (dec q.den) = true ∧ qv (decZ q.num) (dec q.den) = q := by
  unfold okF at h
  simp only [Bool.and_eq_true, decide_eq_true_eq] at h
  have hdz : dec q.den = decZ (q.den : Int) := by unfold decZ; rw [if_neg (by omega), Int.natAbs_natCast]
  have w1 : wval (decZ q.num) = q.num := wval_decZ _
  have w2 : wval (dec q.den) = (q.den : Int) := by rw [hdz]; exact wval_decZ _
  have o1 := okW_decZ q.num h.1
  have o2 : okW (dec q.den) = true := by rw [hdz]; exact okW_decZ _ (by rw [Int.natAbs_natCast]; exact h.2)
  have hp := q.den_pos
  constructor
  · unfold okP
    rw [o1, o2, w1, w2]
    simp only [Bool.and_eq_true, decide_eq_true_eq, Bool.true_and, Int.natAbs_natCast]
    exact ⟨by omega, q.reduced⟩
  · unfold qv
    rw [w1, w2]
    exact Rat.num_divInt_den q
theorem frR_ok {q : Rat} (h : okF q = true) : frR q = .tup [frT q, .int .i64 0] := by
  unfold frR
  rw [h]
  rfl
theorem okP_text {s t : List UInt8} (h : okP s t = true) : decZ (qv s t).num = s ∧ dec (qv s t).den = t := by
  obtain ⟨h1, h2, h3, h4⟩ := okP_of h
  obtain ⟨p1, p2⟩ := qv_parts h
  have e2 := decZ_wval h2
  unfold decZ at e2
  rw [if_neg (by omega)] at e2
  rw [p1, p2]
  exact ⟨decZ_wval h1, e2⟩
theorem frT_text {s t : List UInt8} (h : okP s t = true) : frT (qv s t) = .agg [.str s, .str t] := by
  unfold frT
  rw [(okP_text h).1, (okP_text h).2]
theorem mg_fq {n : Nat} {q : Rat} (h : Fq n q) (h6 : n ≤ 600) : (mg 1000000000 q.num.natAbs).length ≤ 90000000 ∧ (mg 1000000000 q.den).length ≤ 90000000 :=
  ⟨Nat.le_trans (len9 (h.mono h6).1) (by omega), Nat.le_trans (len9 (h.mono h6).2) (by omega)⟩
theorem rdv_20 {d : List UInt8} (hd : ∀ c ∈ d, isDig c = true) (hl : d.length ≤ 20) : rdv d < 10 ^ 20 :=
  Nat.lt_of_lt_of_le (rdv_lt hd) (Nat.pow_le_pow_right (by decide) hl)
theorem wval_20 {s : List UInt8} (h : okW s = true) (hs : s.length ≤ 20) : (wval s).natAbs < 10 ^ 20 := by
  unfold okW okD at h
  simp only [Bool.and_eq_true, Bool.not_eq_true', Bool.or_eq_false_iff, decide_eq_false_iff_not, List.all_eq_true] at h
  have hl : (Go.Lib.trimPrefix s [45]).length ≤ 20 := by
    unfold Go.Lib.trimPrefix
    split
    · rw [List.length_drop]
      omega
    · exact hs
  have hr := rdv_20 h.1.2 hl
  unfold wval
  split <;> omega
theorem fq_text {s t : List UInt8} (h : okP s t = true) (hs : s.length ≤ 20) (ht : t.length ≤ 20) : Fq 20 (qv s t) := by
  obtain ⟨h1, h2, h3, h4⟩ := okP_of h
  obtain ⟨p1, p2⟩ := qv_parts h
  exact ⟨by rw [p1]; exact wval_20 h1 hs, by rw [p2]; exact wval_20 h2 ht⟩
theorem zadd {a b : Nat} {p q : Rat} (h : Fq a p) (g : Fq b q) (ha : 0 < a) (hb : 0 < b) (hab : a + b + 1 ≤ 600) : Called Tryz.prog 21 [frT p, frT q] (.tup [frT (p + q), .int .i64 0]) := by
  obtain ⟨o1, e1⟩ := okP_dec (h.ok ha (by omega))
  obtain ⟨o2, e2⟩ := okP_dec (g.ok hb (by omega))
  have hs := h.add g
  have hm := mg_fq hs (by omega)
  have c := fadd_ok _ _ _ _ o1 o2 (by rw [e1, e2]; exact hm.1) (by rw [e1, e2]; exact hm.2)
  rw [e1, e2, frR_ok (hs.ok (by omega) (by omega))] at c
  exact c
theorem zsub {a b : Nat} {p q : Rat} (h : Fq a p) (g : Fq b q) (ha : 0 < a) (hb : 0 < b) (hab : a + b + 1 ≤ 600) : Called Tryz.prog 60 [frT p, frT q] (.tup [frT (p - q), .int .i64 0]) := by
  obtain ⟨o1, e1⟩ := okP_dec (h.ok ha (by omega))
  obtain ⟨o2, e2⟩ := okP_dec (g.ok hb (by omega))
  have hs := h.sub g
  have hm := mg_fq hs (by omega)
  have c := fsub_ok _ _ _ _ o1 o2 (by rw [e1, e2]; exact hm.1) (by rw [e1, e2]; exact hm.2)
  rw [e1, e2, frR_ok (hs.ok (by omega) (by omega))] at c
  exact c
theorem zmul {a b : Nat} {p q : Rat} (h : Fq a p) (g : Fq b q) (ha : 0 < a) (hb : 0 < b) (hab : a + b + 1 ≤ 600) : Called Tryz.prog 31 [frT p, frT q] (.tup [frT (p * q), .int .i64 0]) := by
  obtain ⟨o1, e1⟩ := okP_dec (h.ok ha (by omega))
  obtain ⟨o2, e2⟩ := okP_dec (g.ok hb (by omega))
  have hs := h.mul g
  have hm := mg_fq hs (by omega)
  have c := fmul_ok _ _ _ _ o1 o2 (by rw [e1, e2]; exact hm.1) (by rw [e1, e2]; exact hm.2)
  rw [e1, e2, frR_ok (hs.ok (by omega) (by omega))] at c
  exact c
theorem zdiv {a b : Nat} {p q : Rat} (h : Fq a p) (g : Fq b q) (h0 : q.num ≠ 0) (ha : 0 < a) (hb : 0 < b) (hab : a + b + 1 ≤ 600) : Called Tryz.prog 86 [frT p, frT q] (.tup [frT (p / q), .int .i64 0]) := by
  obtain ⟨o1, e1⟩ := okP_dec (h.ok ha (by omega))
  obtain ⟨o2, e2⟩ := okP_dec (g.ok hb (by omega))
  have hs := h.div g h0
  have hm := mg_fq hs (by omega)
  have c := fdiv_ok _ _ _ _ o1 o2 (by rw [e2]; exact h0) (by rw [e1, e2]; exact hm.1) (by rw [e1, e2]; exact hm.2)
  rw [e1, e2, frR_ok (hs.ok (by omega) (by omega))] at c
  exact c
theorem zcmp {a b : Nat} {p q : Rat} (h : Fq a p) (g : Fq b q) (ha : 0 < a ∧ a ≤ 600) (hb : 0 < b ∧ b ≤ 600) : Called Tryz.prog 25 [frT p, frT q] (.tup [.int .i64 (ordQ p q), .int .i64 0]) := by
  obtain ⟨o1, e1⟩ := okP_dec (h.ok ha.1 ha.2)
  obtain ⟨o2, e2⟩ := okP_dec (g.ok hb.1 hb.2)
  have c := fcmp_ok _ _ _ _ o1 o2
  rw [e1, e2] at c
  exact c
end Go.Proofs.YtpcpgjcdkgcbpaaGreatDoor
end
section
namespace Go.Proofs.YtpcpgjcdkgcbpaaGreatDoor
open Go Go.V Go.Nb
abbrev Tx := List UInt8 × List UInt8
def okX (x : Tx) : Bool := okP x.1 x.2
def qX (x : Tx) : Rat := qv x.1 x.2
def xT (q : Rat) : Tx := (decZ q.num, dec q.den)
def noX : Tx := ([], [])
def txD (x : Tx) : D := .agg [.str x.1, .str x.2]
def triD (x y z : Tx) : D := .agg [.str x.1, .str x.2, .str y.1, .str y.2, .str z.1, .str z.2]
def BdX (n : Nat) (x : Tx) : Prop := (x.1.length ≤ 281474976710656 ∧ x.2.length ≤ 281474976710656) ∧ (okX x = true → Fq n (qX x))
theorem xT_ok {n : Nat} {q : Rat} (h : Fq n q) (h0 : 0 < n ∧ n ≤ 600) : okX (xT q) = true ∧ qX (xT q) = q := okP_dec (h.ok h0.1 h0.2)
theorem qX_text {x : Tx} (h : okX x = true) : xT (qX x) = x := by
  obtain ⟨h1, h2⟩ := okP_text (s := x.1) (t := x.2) h
  exact Prod.ext h1 h2
theorem txD_q {x : Tx} (h : okX x = true) : txD x = frT (qX x) := (frT_text (s := x.1) (t := x.2) h).symm
theorem xT_bd {n : Nat} {q : Rat} (h : Fq n q) (h0 : 0 < n ∧ n ≤ 600) : BdX n (xT q) := by
  obtain ⟨h1, h2⟩ := xT_ok h h0
  have hl := okW_len (okP_of h1).1
  have hl2 := okW_len (okP_of h1).2.1
  exact ⟨⟨by have := hl.1; omega, by have := hl2.1; omega⟩, fun _ => by rw [h2]; exact h⟩
theorem odd_bd {s t : List UInt8} (hs : s.length ≤ 20) (ht : t.length ≤ 20) : BdX 20 (s, t) :=
  ⟨⟨by dsimp only; omega, by dsimp only; omega⟩, fun h => fq_text h hs ht⟩
theorem BdX.mono {m n : Nat} {x : Tx} (h : BdX m x) (hl : m ≤ n) : BdX n x := ⟨h.1, fun g => (h.2 g).mono hl⟩
def fr3 (x y z : Tx) : Int := if okX x && okX y && okX z then 0 else 20
def chk3 (x y z : Tx) : Int := if okX x && okX y && okX z then (if (qX x).num < 0 ∨ (qX y).num < 0 ∨ (qX z).num < 0 then 2 else 0) else 20
def snd3 (x y z : Tx) : Int := if chk3 x y z = 0 then (if (qX x).num = 0 ∨ (qX y).num = 0 ∨ (qX z).num = 0 then 2 else 0) else chk3 x y z
def triE (t : Tx × Tx × Tx) (e : Int) : D := .tup [triD t.1 t.2.1 t.2.2, .int .i64 e]
def colX (x y l : Rat) : Tx × Tx × Tx := (xT (x * l / y), xT l, xT ((1 - x - y) * l / y))
def no3 : Tx × Tx × Tx := (noX, noX, noX)
def fromX (x y l : Tx) : D :=
  if okX x && okX y && okX l then
    (if (qX x).num < 0 ∨ (qX y).num < 0 ∨ (qX l).num < 0 ∨ 1 < qX x + qX y then triE no3 2 else if (qX y).num = 0 then triE no3 7 else triE (colX (qX x) (qX y) (qX l)) 0)
  else triE no3 20
def x3E (x y z : Tx) (e : Int) : D := .tup [txD x, txD y, txD z, .int .i64 e]
def toX (x y z : Tx) : D :=
  if chk3 x y z = 0 then
    (if (qX x + qX y + qX z).num = 0 then x3E noX noX noX 7 else x3E (xT (qX x / (qX x + qX y + qX z))) (xT (qX y / (qX x + qX y + qX z))) y 0)
  else x3E noX noX noX (chk3 x y z)
def mixQ (t a b : Rat) : Rat := (1 - t) * a + t * b
def mixX (a b : Tx × Tx × Tx) (t : Tx) : D :=
  if chk3 a.1 a.2.1 a.2.2 = 0 then
    (if chk3 b.1 b.2.1 b.2.2 = 0 then
      (if okX t then
        (if (qX t).num < 0 ∨ 1 < qX t then triE no3 2
         else triE (xT (mixQ (qX t) (qX a.1) (qX b.1)), xT (mixQ (qX t) (qX a.2.1) (qX b.2.1)), xT (mixQ (qX t) (qX a.2.2) (qX b.2.2))) 0)
       else triE no3 20)
     else triE no3 (chk3 b.1 b.2.1 b.2.2))
  else triE no3 (chk3 a.1 a.2.1 a.2.2)
end Go.Proofs.YtpcpgjcdkgcbpaaGreatDoor
end
section
namespace Go.Proofs.YtpcpgjcdkgcbpaaGreatDoor
open Go Go.V Go.Nb
def spL (f : Nat → Tx) : List D := [.str (f 0).1, .str (f 0).2, .str (f 1).1, .str (f 1).2, .str (f 2).1, .str (f 2).2, .str (f 3).1, .str (f 3).2, .str (f 4).1, .str (f 4).2, .str (f 5).1, .str (f 5).2, .str (f 6).1, .str (f 6).2, .str (f 7).1, .str (f 7).2, .str (f 8).1, .str (f 8).2, .str (f 9).1, .str (f 9).2, .str (f 10).1, .str (f 10).2, .str (f 11).1, .str (f 11).2, .str (f 12).1, .str (f 12).2, .str (f 13).1, .str (f 13).2, .str (f 14).1, .str (f 14).2, .str (f 15).1, .str (f 15).2]
theorem dropK_in {ds : List D} {n : Nat} {K : List D → Prop} (h : n ≤ ds.length) (k : K (ds.drop n)) : dropK ds n K := by
  induction ds generalizing n with
  | nil =>
    have : n = 0 := by simpa using h
    subst this
    exact k
  | cons d ds ih =>
    cases n with
    | zero => exact k
    | succ n => exact ih (by simpa using h) (by simpa using k)
theorem takeK_in {ds : List D} {n : Nat} {K : List D → Prop} (h : n ≤ ds.length) (k : K (ds.take n)) : takeK ds n K := by
  induction ds generalizing n K with
  | nil =>
    have : n = 0 := by simpa using h
    subst this
    exact k
  | cons d ds ih =>
    cases n with
    | zero => exact k
    | succ n => exact ih (by simpa using h) (by simpa using k)
theorem setAtK_in {ds : List D} {o : Nat} {ns : List D} {K : List D → Prop} (h : o + ns.length ≤ ds.length) (k : K (setAt ds o ns)) : setAtK ds o ns K := by
  induction ds generalizing o ns K with
  | nil =>
    simp only [List.length_nil, Nat.le_zero, Nat.add_eq_zero_iff, List.length_eq_zero_iff] at h
    obtain ⟨rfl, rfl⟩ := h
    exact k
  | cons d ds ih =>
    cases o with
    | zero =>
      cases ns with
      | nil => simpa [setAtK, setAt] using k
      | cons n ns =>
        simp only [setAtK]
        refine ih (by simp at h ⊢; omega) ?_
        simpa [setAt] using k
    | succ o =>
      simp only [setAtK]
      refine ih (by simp at h ⊢; omega) ?_
      simpa [setAt, Nat.add_right_comm] using k
theorem sp_len (f : Nat → Tx) : (spL f).length = 32 := rfl
theorem lt16 {P : Nat → Prop} (h0 : P 0) (h1 : P 1) (h2 : P 2) (h3 : P 3) (h4 : P 4) (h5 : P 5) (h6 : P 6) (h7 : P 7) (h8 : P 8) (h9 : P 9) (h10 : P 10) (h11 : P 11) (h12 : P 12) (h13 : P 13) (h14 : P 14) (h15 : P 15) : ∀ k, k < 16 → P k
  | 0, _ => h0 | 1, _ => h1 | 2, _ => h2 | 3, _ => h3 | 4, _ => h4 | 5, _ => h5 | 6, _ => h6 | 7, _ => h7 | 8, _ => h8 | 9, _ => h9 | 10, _ => h10 | 11, _ => h11 | 12, _ => h12 | 13, _ => h13 | 14, _ => h14 | 15, _ => h15
  | n + 16, h => by omega
theorem sp_take (f : Nat → Tx) : ∀ k, k < 16 → ((spL f).drop (k * 2)).take 2 = [.str (f k).1, .str (f k).2] := lt16 rfl rfl rfl rfl rfl rfl rfl rfl rfl rfl rfl rfl rfl rfl rfl rfl
theorem sp_at {f : Nat → Tx} {k : Nat} {K : List D → Prop} (hk : k < 16) (h : K [.str (f k).1, .str (f k).2]) : dropK (spL f) (k * 2) fun ds => takeK ds 2 K := by
  refine dropK_in (by rw [sp_len]; omega) (takeK_in ?_ ?_)
  · rw [List.length_drop, sp_len]; omega
  · rw [sp_take f k hk]; exact h
def pref (g : Nat → Tx) (z : Tx) (k : Nat) : Nat → Tx := fun i => if i < k then g i else z
def putF (f : Nat → Tx) (k : Nat) (x : Tx) : Nat → Tx := fun i => if i = k then x else f i
theorem put_pref (g : Nat → Tx) (z : Tx) (k : Nat) : putF (pref g z k) k (g k) = pref g z (k + 1) := by
  funext i
  unfold putF pref
  by_cases h : i = k
  · subst h; simp
  · by_cases h2 : i < k
    · rw [if_neg h, if_pos h2, if_pos (by omega)]
    · rw [if_neg h, if_neg h2, if_neg (by omega)]
theorem sp_setAt (f : Nat → Tx) (x : Tx) : ∀ k, k < 16 → setAt (spL f) (k * 2) [.str x.1, .str x.2] = spL (putF f k x) := lt16 rfl rfl rfl rfl rfl rfl rfl rfl rfl rfl rfl rfl rfl rfl rfl rfl
theorem sp_put {f : Nat → Tx} {k : Nat} {a b : List UInt8} {K : List D → Prop} (hk : k < 16) (h : K (spL (putF f k (a, b)))) : setAtK (spL f) (k * 2) [.str a, .str b] K := by
  refine setAtK_in (by rw [sp_len]; simp; omega) ?_
  have := sp_setAt f (a, b) k hk
  dsimp only at this
  rw [this]
  exact h
theorem sp_push {g : Nat → Tx} {z : Tx} {k : Nat} {K : List D → Prop} (hk : k < 16) (h : K (spL (pref g z (k + 1)))) : setAtK (spL (pref g z k)) (k * 2) [.str (g k).1, .str (g k).2] K :=
  sp_put hk (by rw [show ((g k).1, (g k).2) = g k from rfl, put_pref]; exact h)
theorem sp_full (g : Nat → Tx) (z : Tx) : spL (pref g z 16) = spL g := rfl
theorem sp_zero (g : Nat → Tx) (z : Tx) : spL (pref g z 0) = spL (fun _ => z) := rfl
theorem sp_ext {f g : Nat → Tx} (h : ∀ k, k < 16 → f k = g k) : spL f = spL g := by
  unfold spL
  rw [h 0 (by decide), h 1 (by decide), h 2 (by decide), h 3 (by decide), h 4 (by decide), h 5 (by decide), h 6 (by decide), h 7 (by decide), h 8 (by decide), h 9 (by decide), h 10 (by decide), h 11 (by decide), h 12 (by decide), h 13 (by decide), h 14 (by decide), h 15 (by decide)]
end Go.Proofs.YtpcpgjcdkgcbpaaGreatDoor
end
section
namespace Go.Proofs.YtpcpgjcdkgcbpaaGreatDoor
open Go Go.V Go.Nb
theorem mix_both (x y a b : Rat) : mixQ y a (mixQ x a b) = mixQ (x * y) a b := by unfold mixQ; grind
theorem mix_rest (x a b : Rat) : mixQ (1 - x) b a = mixQ x a b := by unfold mixQ; grind
theorem mix_zero (a b : Rat) : mixQ 0 a b = a := by unfold mixQ; grind
theorem mix_one (a b : Rat) : mixQ 1 a b = b := by unfold mixQ; grind
theorem mix_nonneg {x a b : Rat} (h0 : 0 ≤ x) (h1 : x ≤ 1) (ha : 0 ≤ a) (hb : 0 ≤ b) : 0 ≤ mixQ x a b := by
  unfold mixQ
  have h2 : 0 ≤ 1 - x := by grind
  have h3 := Rat.mul_nonneg h2 ha
  have h4 := Rat.mul_nonneg h0 hb
  grind
theorem line_eq (t a0 a1 a2 b0 b1 b2 : Rat) (hA : a0 + a1 + a2 ≠ 0) (hB : b0 + b1 + b2 ≠ 0) (hM : mixQ t a0 b0 + mixQ t a1 b1 + mixQ t a2 b2 ≠ 0) :
    (mixQ t a0 b0 / (mixQ t a0 b0 + mixQ t a1 b1 + mixQ t a2 b2) - a0 / (a0 + a1 + a2)) * (b1 / (b0 + b1 + b2) - a1 / (a0 + a1 + a2)) = (b0 / (b0 + b1 + b2) - a0 / (a0 + a1 + a2)) * (mixQ t a1 b1 / (mixQ t a0 b0 + mixQ t a1 b1 + mixQ t a2 b2) - a1 / (a0 + a1 + a2)) := by
  unfold mixQ at *
  grind
theorem part_eq (t a b sA sB sM : Rat) (hA : sA ≠ 0) (hB : sB ≠ 0) (hM : sM ≠ 0) (hs : sM = mixQ t sA sB) : mixQ t a b / sM - a / sA = (t * sB * sM⁻¹) * (b / sB - a / sA) := by
  unfold mixQ at *
  grind
theorem part_eq2 (t a b sA sB sM : Rat) (hA : sA ≠ 0) (hB : sB ≠ 0) (hM : sM ≠ 0) (hs : sM = mixQ t sA sB) : b / sB - mixQ t a b / sM = ((1 - t) * sA * sM⁻¹) * (b / sB - a / sA) := by
  unfold mixQ at *
  grind
theorem sum_mix (t a0 a1 a2 b0 b1 b2 : Rat) : mixQ t a0 b0 + mixQ t a1 b1 + mixQ t a2 b2 = mixQ t (a0 + a1 + a2) (b0 + b1 + b2) := by unfold mixQ; grind
theorem inv_nonneg' {q : Rat} (h : 0 ≤ q) : 0 ≤ q⁻¹ := by
  by_cases h0 : q = 0
  · subst h0; simp
  · have h2 : 0 < q := by grind
    have := Rat.inv_pos.2 h2
    grind
theorem mul_sgn {k l d : Rat} (hk : 0 ≤ k) (hl : 0 ≤ l) : 0 ≤ k * d * (l * d) := by
  have h1 := Rat.mul_nonneg hk hl
  have h2 : 0 ≤ d * d := by
    by_cases h : 0 ≤ d
    · exact Rat.mul_nonneg h h
    · have h3 : 0 ≤ -d := by grind
      have h4 := Rat.mul_nonneg h3 h3
      grind
  have h3 := Rat.mul_nonneg h1 h2
  grind
theorem between {p q r k l : Rat} (hk : 0 ≤ k) (hl : 0 ≤ l) (h1 : q - p = k * (r - p)) (h2 : r - q = l * (r - p)) : 0 ≤ ordQ p q * ordQ q r := by
  have h3 := mul_sgn (d := r - p) hk hl
  rw [← h1, ← h2] at h3
  unfold ordQ
  by_cases a : p < q
  · by_cases b : q < r
    · simp [a, b]
    · by_cases c : q = r
      · simp [c]
      · exfalso
        have e1 : 0 < q - p := by grind
        have e2 : 0 < q - r := by grind
        have := Rat.mul_pos e1 e2
        grind
  · by_cases a2 : p = q
    · simp [a2]
    · by_cases b : q < r
      · exfalso
        have e1 : 0 < p - q := by grind
        have e2 : 0 < r - q := by grind
        have := Rat.mul_pos e1 e2
        grind
      · by_cases c : q = r
        · simp [c]
        · simp [a, a2, b, c]
theorem back0 (a0 a1 a2 : Rat) (h1 : a1 ≠ 0) (hs : a0 + a1 + a2 ≠ 0) : a0 / (a0 + a1 + a2) * a1 / (a1 / (a0 + a1 + a2)) = a0 ∧ (1 - a0 / (a0 + a1 + a2) - a1 / (a0 + a1 + a2)) * a1 / (a1 / (a0 + a1 + a2)) = a2 := by
  constructor
  · grind
  · grind
theorem wsum (x y : Rat) (hy : y ≠ 0) : x * 1 / y + 1 + (1 - x - y) * 1 / y = 1 / y := by grind
theorem wxy (x y : Rat) (hy : y ≠ 0) : x * 1 / y / (1 / y) = x ∧ 1 / (1 / y) = y := by constructor <;> grind
theorem parab (p b c : Rat) : -3 * p ^ 2 + b * p + -c = b * p - 3 * (p * p) - c := by grind
theorem days_eq (t a b c d : Rat) (h : t ≠ 0) : d + c / t + b / (t * t) - a / (t * (t * t)) = -a * (1/t)^3 + b * (1/t)^2 + c * (1/t) + d := by grind
end Go.Proofs.YtpcpgjcdkgcbpaaGreatDoor
end
section
namespace Go.Proofs.YtpcpgjcdkgcbpaaGreatDoor
open Go Go.V Go.Nb
def sw (w : Nat → Int) (s : Nat → Rat) : Nat → Rat
  | 0 => 0
  | k + 1 => sw w s k + Rat.divInt (w k) 1 * s k
def si (w : Nat → Int) : Nat → Int
  | 0 => 0
  | k + 1 => si w k + w k
theorem sw_lin (w : Nat → Int) (t : Rat) (a b : Nat → Rat) : ∀ k, sw w (fun i => mixQ t (a i) (b i)) k = mixQ t (sw w a k) (sw w b k)
  | 0 => by unfold mixQ; simp only [sw]; grind
  | k + 1 => by
    simp only [sw]
    rw [sw_lin w t a b k]
    unfold mixQ
    grind
theorem divInt_one (z : Int) : Rat.divInt z 1 = z := by rw [Rat.divInt_eq_div]; grind
theorem sw_const (w : Nat → Int) (c : Rat) : ∀ k, sw w (fun _ => c) k = Rat.divInt (si w k) 1 * c
  | 0 => by simp [sw, si]
  | k + 1 => by
    simp only [sw, si]
    rw [sw_const w c k, divInt_one, divInt_one, divInt_one, Rat.intCast_add]
    grind
theorem sw_hund (w d : Nat → Int) : ∀ k, sw w (fun i => Rat.divInt (d i) 100) k = Rat.divInt (si (fun i => w i * d i) k) 100
  | 0 => by simp [sw, si]
  | k + 1 => by
    simp only [sw, si]
    rw [sw_hund w d k, Rat.divInt_mul_divInt, Int.one_mul, Rat.divInt_add_divInt _ _ (by decide) (by decide), ← Int.add_mul, Rat.divInt_mul_right (by decide)]
theorem sw_mono {w : Nat → Int} {a b : Nat → Rat} (hw : ∀ i, 0 ≤ w i) (h : ∀ i, a i ≤ b i) : ∀ k, sw w a k ≤ sw w b k
  | 0 => Rat.le_refl
  | k + 1 => by
    simp only [sw]
    have h1 := sw_mono hw h k
    have h2 : 0 ≤ Rat.divInt (w k) 1 := (Rat.divInt_nonneg_iff_of_pos_right (by decide)).2 (hw k)
    have h3 : 0 ≤ Rat.divInt (w k) 1 * (b k - a k) := Rat.mul_nonneg h2 (by have := h k; grind)
    grind
theorem sw_congr {w : Nat → Int} {a b : Nat → Rat} : ∀ {k : Nat}, (∀ i, i < k → a i = b i) → sw w a k = sw w b k
  | 0, _ => rfl
  | k + 1, h => by
    simp only [sw]
    rw [sw_congr (k := k) fun i hi => h i (by omega), h k (by omega)]
theorem sw_congrW {w v : Nat → Int} {a : Nat → Rat} : ∀ {k : Nat}, (∀ i, i < k → w i = v i) → sw w a k = sw v a k
  | 0, _ => rfl
  | k + 1, h => by
    simp only [sw]
    rw [sw_congrW (k := k) fun i hi => h i (by omega), h k (by omega)]
theorem sw_up {w : Nat → Int} {a b : Nat → Rat} {p : Nat} (h : ∀ i, i ≠ p → b i = a i) : ∀ k, sw w b k = sw w a k + (if p < k then Rat.divInt (w p) 1 * (b p - a p) else 0)
  | 0 => by rw [if_neg (by omega)]; simp only [sw]; grind
  | k + 1 => by
    simp only [sw]
    rw [sw_up h k]
    by_cases e : k = p
    · subst e
      rw [if_neg (by omega), if_pos (by omega)]
      grind
    · rw [h k e]
      by_cases g : p < k
      · rw [if_pos g, if_pos (by omega)]
        grind
      · rw [if_neg g, if_neg (by omega)]
        grind
theorem fq_sw {w : Nat → Int} {s : Nat → Rat} {m : Nat} (hw : ∀ i, (w i).natAbs < 10 ^ 13) (hs : ∀ i, Fq m (s i)) : ∀ k, Fq (k * (14 + m) + 1) (sw w s k)
  | 0 => (show Fq 1 0 from ⟨by decide, by decide⟩).mono (by omega)
  | k + 1 => by
    simp only [sw]
    have h1 := fq_sw hw hs k
    have h2 : Fq 13 (Rat.divInt (w k) 1) := by
      have := fq_divInt (n := 13) (x := w k) (d := 1) (by omega) (hw k) (by decide)
      exact this
    refine (h1.add (h2.mul (hs k))).mono ?_
    rw [Nat.succ_mul]
    omega
end Go.Proofs.YtpcpgjcdkgcbpaaGreatDoor
end
section
namespace Go.Proofs.YtpcpgjcdkgcbpaaGreatDoor
open Go Go.V Go.Nb
def wxL : List Int := [14310, 134380, 348280, 290800, 95640, 4900, 63270, 290400, 594500, 916300, 1062200, 854450, 447900, 164900, 46770, 11359]
def wyL : List Int := [396, 4000, 23000, 60000, 139020, 323000, 710000, 954000, 995000, 870000, 631000, 381000, 175000, 61000, 17000, 4102]
def wzL : List Int := [67850, 645600, 1747060, 1669200, 812950, 272000, 78250, 20300, 3900, 1650, 800, 190, 20, 0, 0, 0]
def waL : List Int := [147080, 209950, 287027, 378121, 482423, 598611, 724959, 859470, 1000000, 1144360, 1290430, 1436180, 1579790, 1719630, 1854290, 1982610]
def wdL : List Int := [827549, 934318, 1048650, 1178120, 1159230, 1093540, 1047900, 1044050, 1000000, 957880, 900062, 876987, 836992, 802146, 782842, 716091]
def weL : List Int := List.replicate 16 1000000
def tbl (l : List Int) (k : Nat) : Int := l.getD k 0
def isLt (n : Int) : Bool := decide (n = 1) || decide (n = 5) || decide (n = 7)
def powL (n : Int) : List Int := if n = 1 then waL else if n = 5 then wdL else weL
def wgt (p o : List Int) (k : Nat) : Int := tbl p k * tbl o k
theorem tbl_over {l : List Int} (h : l.length = 16) {k : Nat} (hk : 16 ≤ k) : tbl l k = 0 := by
  unfold tbl
  rw [List.getD_eq_getElem?_getD, List.getElem?_eq_none (by omega)]
  rfl
def isObs (o : List Int) : Prop := o = wxL ∨ o = wyL ∨ o = wzL
def isPow (p : List Int) : Prop := p = waL ∨ p = wdL ∨ p = weL
theorem pow_is (n : Int) : isPow (powL n) := by
  unfold powL isPow
  split
  · exact .inl rfl
  · split
    · exact .inr (.inl rfl)
    · exact .inr (.inr rfl)
theorem pow_len {p : List Int} (h : isPow p) : p.length = 16 := by rcases h with h | h | h <;> subst h <;> rfl
theorem obs_len {p : List Int} (h : isObs p) : p.length = 16 := by rcases h with h | h | h <;> subst h <;> rfl
theorem wgt_tab {p o : List Int} (hp : isPow p) (ho : isObs o) {Q : Int → Prop} (h0 : Q 0) (h : ∀ p ∈ [waL, wdL, weL], ∀ o ∈ [wxL, wyL, wzL], ∀ k ∈ List.range 16, Q (tbl p k * tbl o k)) (k : Nat) : Q (wgt p o k) := by
  unfold wgt
  by_cases hk : k < 16
  · refine h p ?_ o ?_ k (List.mem_range.2 hk)
    · rcases hp with e | e | e <;> simp [e]
    · rcases ho with e | e | e <;> simp [e]
  · rw [tbl_over (pow_len hp) (by omega), Int.zero_mul]
    exact h0
theorem wgt_bd {p o : List Int} (hp : isPow p) (ho : isObs o) (k : Nat) : (wgt p o k).natAbs < 10 ^ 13 ∧ 0 ≤ wgt p o k :=
  ⟨wgt_tab hp ho (Q := fun z => z.natAbs < 10 ^ 13) (by decide) (by decide +kernel) k, wgt_tab hp ho (Q := fun z => 0 ≤ z) (by decide) (by decide +kernel) k⟩
def allP (p : List Int) (k : Nat) : Int := si (wgt p wyL) k
theorem allP_bd {p : List Int} (hp : isPow p) : ∀ k, k ≤ 16 → 0 ≤ allP p k ∧ allP p k ≤ 10 ^ 14 := by
  have key : ∀ p ∈ [waL, wdL, weL], ∀ k ∈ List.range 17, 0 ≤ allP p k ∧ allP p k ≤ 10 ^ 14 := by decide +kernel
  intro k hk
  refine key p ?_ k (List.mem_range.2 (by omega))
  rcases hp with e | e | e <;> simp [e]
theorem allP_pos {p : List Int} (hp : isPow p) : 0 < allP p 16 := by
  have key : ∀ p ∈ [waL, wdL, weL], 0 < allP p 16 := by decide +kernel
  refine key p ?_
  rcases hp with e | e | e <;> simp [e]
def colP (p o : List Int) (s : Nat → Rat) : Rat := sw (wgt p o) s 16 / Rat.divInt (allP p 16) 1
theorem colP_lin (p o : List Int) (t : Rat) (a b : Nat → Rat) : colP p o (fun i => mixQ t (a i) (b i)) = mixQ t (colP p o a) (colP p o b) := by
  unfold colP
  rw [sw_lin]
  unfold mixQ
  grind
theorem colP_const {p : List Int} (hp : isPow p) (c : Rat) (o : List Int) : colP p o (fun _ => c) = Rat.divInt (si (wgt p o) 16) 1 / Rat.divInt (allP p 16) 1 * c := by
  unfold colP
  rw [sw_const]
  grind
theorem colP_y {p : List Int} (hp : isPow p) (c : Rat) : colP p wyL (fun _ => c) = c := by
  rw [colP_const hp]
  have h := allP_pos hp
  have h2 : Rat.divInt (allP p 16) 1 ≠ 0 := by
    rw [divInt_one]
    intro e
    have : allP p 16 = 0 := by exact_mod_cast e
    omega
  have h3 : si (wgt p wyL) 16 = allP p 16 := rfl
  rw [h3]
  grind
end Go.Proofs.YtpcpgjcdkgcbpaaGreatDoor
end
section
namespace Go.Proofs.YtpcpgjcdkgcbpaaGreatDoor
open Go Go.V Go.Nb
def corQ (s : Nat → Rat) (i : Nat) : Rat :=
  if i = 0 then Rat.divInt 1083 1000 * s 0 - Rat.divInt 83 1000 * s 1
  else if i = 15 then Rat.divInt 1083 1000 * s 15 - Rat.divInt 83 1000 * s 14
  else Rat.divInt 1166 1000 * s i - Rat.divInt 83 1000 * s (i - 1) - Rat.divInt 83 1000 * s (i + 1)
def sumQ (s : Nat → Rat) : Nat → Rat
  | 0 => 0
  | k + 1 => sumQ s k + s k
theorem cor_mix (t : Rat) (a b : Nat → Rat) (i : Nat) : corQ (fun i => mixQ t (a i) (b i)) i = mixQ t (corQ a i) (corQ b i) := by
  unfold corQ mixQ
  split
  · grind
  · split <;> grind
theorem cor_flat (c : Rat) (i : Nat) : corQ (fun _ => c) i = c := by
  have h1 : Rat.divInt 1083 1000 = Rat.divInt 83 1000 + 1 := by decide +kernel
  have h2 : Rat.divInt 1166 1000 = Rat.divInt 83 1000 + Rat.divInt 83 1000 + 1 := by decide +kernel
  unfold corQ
  rw [h1, h2]
  generalize Rat.divInt 83 1000 = x
  split
  · grind
  · split <;> grind
theorem cor_sum (s : Nat → Rat) : sumQ (corQ s) 16 = sumQ s 16 := by
  have h1 : Rat.divInt 1083 1000 = Rat.divInt 83 1000 + 1 := by decide +kernel
  have h2 : Rat.divInt 1166 1000 = Rat.divInt 83 1000 + Rat.divInt 83 1000 + 1 := by decide +kernel
  simp only [sumQ, corQ]
  rw [h1, h2]
  generalize Rat.divInt 83 1000 = x
  simp
  grind
end Go.Proofs.YtpcpgjcdkgcbpaaGreatDoor
end
section
namespace Go.Proofs.YtpcpgjcdkgcbpaaGreatDoor
open Go Go.V Go.Nb
def outX (x : Tx) (m : Rat) : Bool := decide ((qX x).num < 0) || decide (m < qX x)
def okS (f : Nat → Tx) : Nat → Bool
  | 0 => true
  | k + 1 => okS f k && okX (f k)
def inS (f : Nat → Tx) : Nat → Bool
  | 0 => true
  | k + 1 => inS f k && !outX (f k) 2
def chkS (f : Nat → Tx) : Int := if okS f 16 then (if inS f 16 then 0 else 2) else 20
theorem okS_no {f : Nat → Tx} {k : Nat} (h : okX (f k) = false) : ∀ m, k < m → okS f m = false
  | 0, hk => by omega
  | m + 1, hk => by
    simp only [okS]
    by_cases e : k = m
    · subst e; rw [h, Bool.and_false]
    · rw [okS_no h m (by omega), Bool.false_and]
theorem okS_at {f : Nat → Tx} : ∀ {m : Nat}, okS f m = true → ∀ k, k < m → okX (f k) = true
  | 0, _, k, hk => by omega
  | m + 1, h, k, hk => by
    simp only [okS, Bool.and_eq_true] at h
    by_cases e : k = m
    · subst e; exact h.2
    · exact okS_at h.1 k (by omega)
theorem inS_no {f : Nat → Tx} {k : Nat} (h : outX (f k) 2 = true) : ∀ m, k < m → inS f m = false
  | 0, hk => by omega
  | m + 1, hk => by
    simp only [inS]
    by_cases e : k = m
    · subst e; rw [h, Bool.not_true, Bool.and_false]
    · rw [inS_no h m (by omega), Bool.false_and]
theorem inS_at {f : Nat → Tx} : ∀ {m : Nat}, inS f m = true → ∀ k, k < m → outX (f k) 2 = false
  | 0, _, k, hk => by omega
  | m + 1, h, k, hk => by
    simp only [inS, Bool.and_eq_true, Bool.not_eq_true'] at h
    by_cases e : k = m
    · subst e; exact h.2
    · exact inS_at h.1 k (by omega)
theorem okS_all {f : Nat → Tx} : ∀ {m : Nat}, (∀ k, k < m → okX (f k) = true) → okS f m = true
  | 0, _ => rfl
  | m + 1, h => by
    simp only [okS]
    rw [okS_all fun k hk => h k (by omega), h m (by omega), Bool.and_self]
theorem inS_all {f : Nat → Tx} : ∀ {m : Nat}, (∀ k, k < m → outX (f k) 2 = false) → inS f m = true
  | 0, _ => rfl
  | m + 1, h => by
    simp only [inS]
    rw [inS_all fun k hk => h k (by omega), h m (by omega), Bool.not_false, Bool.and_self]
theorem chkS_const (x : Tx) : chkS (fun _ => x) = if okX x then (if outX x 2 then 2 else 0) else 20 := by
  unfold chkS
  cases h : okX x with
  | false => rw [okS_no (f := fun _ => x) (k := 0) h 16 (by omega)]; rfl
  | true =>
    rw [okS_all (f := fun _ => x) fun _ _ => h]
    simp only [if_true]
    cases g : outX x 2 with
    | true => rw [inS_no (f := fun _ => x) (k := 0) g 16 (by omega)]; rfl
    | false => rw [inS_all (f := fun _ => x) fun _ _ => g]; rfl
def spE (g : Nat → Tx) (e : Int) : D := .tup [.agg (spL g), .int .i64 e]
def noS : Nat → Tx := fun _ => noX
def qS (f : Nat → Tx) (k : Nat) : Rat := if k < 16 then qX (f k) else 0
def colT (n : Int) (s : Nat → Rat) : Tx × Tx × Tx := (xT (colP (powL n) wxL s), xT (colP (powL n) wyL s), xT (colP (powL n) wzL s))
def xyzX (f : Nat → Tx) (n : Int) : D := if chkS f = 0 then (if isLt n then triE (colT n (qS f)) 0 else triE no3 4) else triE no3 (chkS f)
def whiS (n : Int) : D := if isLt n then triE (colT n (fun _ => 1)) 0 else triE no3 4
def flatX (x : Tx) : D := if chkS (fun _ => x) = 0 then spE (fun _ => x) 0 else spE noS (chkS fun _ => x)
def corX (f : Nat → Tx) : D := if chkS f = 0 then spE (fun i => xT (corQ (qS f) i)) 0 else spE noS (chkS f)
def mixS (a b : Nat → Tx) (t : Tx) : D :=
  if chkS a = 0 then (if chkS b = 0 then (if okX t then (if outX t 1 then spE noS 2 else spE (fun i => xT (mixQ (qX t) (qX (a i)) (qX (b i)))) 0) else spE noS 20) else spE noS (chkS b)) else spE noS (chkS a)
def BdS (n : Nat) (f : Nat → Tx) : Prop := ∀ k, BdX n (f k)
end Go.Proofs.YtpcpgjcdkgcbpaaGreatDoor
end
section
namespace Go.Proofs.YtpcpgjcdkgcbpaaGreatDoor
open Go Go.V Go.Nb Go.RowKit Go.Proofs
set_option maxHeartbeats 4000000
set_option maxRecDepth 1000000
theorem aidle_spe (p q : Addr) (w : World) :
    CallsD Tryz.prog 105 #[.pointer (some p), .pointer (some q)] .returning w fun e u' w' => e = .returned (.tuple #[]) ∧ u' = .returning ∧ w' = w := by
  refine callsD_of_wpS Tryz.func105 rfl fun c₀ cs hu => ?_
  apply wpS_seq
  apply wpS_region
  simp [wpOpsS, go_sem, recoverD, hu, Tryz.ntmps105, Exit.thenS]
  apply wpS_seq
  apply wpS_seq
  apply wpS_region
  simp [wpOpsS, go_sem, Exit.thenS]
  refine wpS_cond (t := true) (by simp [Act.eval, Array.replicate]) ?_
  simp only [if_true]
  refine wpS_of_wp (wp_ret ?_)
  cases c₀
  simp_all [Exit.thenS, bodyPostS, results, Tryz.results105]
theorem att_spe_ok {f : Nat} {es ds : List D} {g : Nat → Tx} (c : Called Tryz.prog f (es ++ ds) (.agg (spL g))) :
    Called Tryz.prog 56 [.fn f es ds] (.tup [.agg (spL g), .int .i64 0]) := by
  refine ⟨enters_of Tryz.func56 rfl rfl, fun h w vs ha hd => ?_⟩
  simp only [DenL, Den] at hd
  obtain ⟨v, _, rfl, ⟨us, cs, rfl, hu, hc⟩, rfl⟩ := hd
  have hmf : ∀ (fn : Fn) (first cap : Array Value) (w : World), (Instr.makeFunc fn first cap).run Tryz.prog w = .ok (.func fn first cap) w := fun _ _ _ _ => rfl
  go_enter_defers Tryz.func56, Tryz.ntmps56
  go_wp2
  rw [c.ent]
  simp only [Oper.upon]
  have a2 : ∀ (o1 o2 : Obj), Agree h ((w.alloc o1).alloc o2) := fun o1 o2 => ha.of_blocks fun b ⟨o, v, hv⟩ => by
    have hlt := ha.lt hv
    rw [Lib.alloc_old (w.alloc o1) o2 b (by simp; omega), Lib.alloc_old w o1 b hlt]
  refine (c.call h _ _ (a2 _ _) (hu.append hc)).mono ?_
  rintro e w' ⟨v, h', rfl, hd, ha', hle, hb, hold⟩
  have hd0 := hd
  simp only [Den] at hd
  obtain ⟨xs, rfl, hxs, hone⟩ := hd
  have hlen : xs.length = 32 := hxs.length
  obtain ⟨T, k0⟩ : ∃ T, w'.heap[w.heap.size]? = some (.cells ([.string ⟨#[]⟩, .string ⟨#[]⟩, .string ⟨#[]⟩, .string ⟨#[]⟩, .string ⟨#[]⟩, .string ⟨#[]⟩, .string ⟨#[]⟩, .string ⟨#[]⟩, .string ⟨#[]⟩, .string ⟨#[]⟩, .string ⟨#[]⟩, .string ⟨#[]⟩, .string ⟨#[]⟩, .string ⟨#[]⟩, .string ⟨#[]⟩, .string ⟨#[]⟩, .string ⟨#[]⟩, .string ⟨#[]⟩, .string ⟨#[]⟩, .string ⟨#[]⟩, .string ⟨#[]⟩, .string ⟨#[]⟩, .string ⟨#[]⟩, .string ⟨#[]⟩, .string ⟨#[]⟩, .string ⟨#[]⟩, .string ⟨#[]⟩, .string ⟨#[]⟩, .string ⟨#[]⟩, .string ⟨#[]⟩, .string ⟨#[]⟩, .string ⟨#[]⟩]).toArray T (0, 0)) := ⟨_, by
    rw [hb.block w.heap.size (by simp; omega)]
    exact heap_alloc2_old _ _ _⟩
  obtain ⟨T1, k1⟩ : ∃ T, w'.heap[w.heap.size + 1]? = some (.cells #[.int .i64 0] T (0, 0)) := ⟨_, by
    rw [hb.block (w.heap.size + 1) (by simp)]
    exact heap_alloc2_new _ _ _⟩
  have hst : (Instr.storeAt 36 (.pointer (some ⟨w.heap.size, 0, none⟩)) (.agg xs.toArray)).run Tryz.prog w' = .ok () (w'.setRow w.heap.size xs.toArray) := by
    have := run_storeVar (tbOk 36 _ rfl) (v := .agg xs.toArray) (off := 0) k0 (by simp [Value.cells, hlen]) (by simp [Value.cells, hlen]) (by simpa [Value.cells] using hone)
    rw [this]
    congr 2
    apply Array.toList_inj.1
    simp [setAt, Value.cells, hlen]
  have hrun : ∀ (a : Act) (o : Oper), o.op = .store 36 (.tmp 2) (.tmp 6) → a.eval (.tmp 2) = .pointer (some ⟨w.heap.size, 0, none⟩) → a.eval (.tmp 6) = .agg xs.toArray → (execOp a.eval o).run Tryz.prog w' = .ok .skip (w'.setRow w.heap.size xs.toArray) := fun a o ho h1 h2 => by
    simp only [execOp, ho]
    rw [Sem.run_bind, h1, h2, hst]
    rfl
  have hbw : Below w.heap.size w w' := (((Below.refl w.heap.size w).alloc (Nat.le_refl _) _).alloc (by simp) _).trans (hb.mono (by simp; omega))
  have hno : ∀ b, (∃ o v, h' b o = some v) → b < w.heap.size + 2 → b < w.heap.size := fun b ⟨o, v, hv⟩ hl => by
    rw [hold b (by simp; omega) o] at hv
    exact ha.lt hv
  have ho2 : ∀ b, b < w.heap.size → ∀ o, h' b o = h b o := fun b hb2 o => hold b (by simp; omega) o
  clear hb hold a2 hu hc
  simp only
  rename_i K0 hK0 K1 hK1
  refine hK1 _ _ ?_
  unfold wpList
  rw [if_pos (by simp [Region.wanted])]
  refine .inl ?_
  unfold Oper.wp
  rw [hrun _ _ rfl rfl rfl]
  simp only [Oper.upon]
  obtain ⟨W, hW⟩ : ∃ W, W = w'.setRow w.heap.size xs.toArray := ⟨_, rfl⟩
  rw [← hW]
  have q0 : W.heap[w.heap.size]? = some (.cells xs.toArray T (0, 0)) := by rw [hW]; exact setRow_heap w' _ _ _ T (0, 0) k0
  have qo : ∀ b, b ≠ w.heap.size → W.heap[b]? = w'.heap[b]? := fun b hb => by rw [hW]; exact setRow_other w' _ _ _ hb
  have q1 : W.heap[w.heap.size + 1]? = some (.cells #[.int .i64 0] T1 (0, 0)) := (qo _ (by omega)).trans k1
  have bW : Below w.heap.size w W := by
    refine hbw.trans ⟨by rw [hW]; rfl, by rw [hW]; rfl, by rw [hW]; rfl, by rw [hW, size_setRow]; exact Nat.le_refl _, fun b hb => qo b (by omega)⟩
  have fz1 : ∀ j, W.frozen? ⟨w.heap.size + 1, j, none⟩ = false := fun j => Lib.frozen_of_heap q1 j
  have ce : W.cell? ⟨w.heap.size + 1, 0, none⟩ = some (.int .i64 0) := by rw [Lib.cell_of_heap q1]; rfl
  clear hrun hst k0 k1 hW hbw
  go_wp2
  refine leaves_cons (f := 105) (args := #[.pointer (some ⟨w.heap.size, 0, none⟩), .pointer (some ⟨w.heap.size + 1, 0, none⟩)]) (by simp) (by simp [go_sem]) ?_
  refine (aidle_spe _ _ _).mono ?_
  rintro e u' w'' ⟨rfl, rfl, rfl⟩
  obtain ⟨W2, hW2⟩ : ∃ W2, W2 = W.setCell ⟨w.heap.size + 1, 0, none⟩ (.int .i64 0) := ⟨_, rfl⟩
  rw [← hW2]
  have p0 : W2.heap[w.heap.size]? = some (.cells xs.toArray T (0, 0)) := by rw [hW2]; exact yheap_seto _ (by omega) q0
  have p1 : W2.heap[w.heap.size + 1]? = some (.cells #[.int .i64 0] T1 (0, 0)) := by rw [hW2]; exact yheap_setc _ q1
  have po : ∀ b, b ≠ w.heap.size → b ≠ w.heap.size + 1 → W2.heap[b]? = w'.heap[b]? := fun b h1 h2 => by rw [hW2]; exact (yheap_seto _ h2 rfl).trans (qo b h1)
  have pb : Below w.heap.size w W2 := by rw [hW2]; exact bW.setCell (Nat.le_succ _) _
  have ld0 : (loadVar 36 ⟨w.heap.size, 0, none⟩).run Tryz.prog W2 = .ok (.agg xs.toArray) W2 := run_loadVar_agg (tbOk 36 _ rfl) rfl (by rw [hlen]) (fun i v hv => by rw [Nat.zero_add, Lib.cell_of_heap p0]; simpa using hv)
  have ld1 : (loadVar 40 ⟨w.heap.size + 1, 0, none⟩).run Tryz.prog W2 = .ok (.int .i64 0) W2 := run_loadVar_one (tbOk 40 _ rfl) rfl (by rw [Lib.cell_of_heap p1]; rfl)
  clear hW2 qo q0 q1 bW fz1 ce
  simp [Leaves, settle, results, Tryz.results56, asAddr, ld0, ld1]
  refine ⟨h', ?_, ?_, hle, pb, ho2⟩
  · simp only [Den, DenL] at hd0 ⊢
    exact ⟨_, rfl, _, _, rfl, hd0, _, _, rfl, ⟨rfl, by simp [InR, V.lo, V.hi]⟩, rfl⟩
  · refine ha'.of_blocks fun b hx => ?_
    have n0 : b ≠ w.heap.size := fun e => by have := hno b hx (by omega); omega
    have n1 : b ≠ w.heap.size + 1 := fun e => by have := hno b hx (by omega); omega
    exact po b n0 n1
theorem den_empties {E : Env} (h : Pub) : ∀ n, DenL E h (List.replicate n (.str [])) (List.replicate n (.string ⟨#[]⟩))
  | 0 => rfl
  | n + 1 => ⟨_, _, rfl, ⟨rfl, by simp⟩, den_empties h n⟩
theorem acatch_spe {zs : List Value} (hzs : zs = List.replicate 32 (.string ⟨#[]⟩)) (b : Nat) (x : Int) (older : List PanicEntry) (T T1 : TypeId) (w : World) (hb : w.heap[b]? = some (.cells zs.toArray T (0, 0))) (hq : w.heap[b + 1]? = some (.cells #[.int .i64 0] T1 (0, 0))) :
    CallsD Tryz.prog 105 #[.pointer (some ⟨b, 0, none⟩), .pointer (some ⟨b + 1, 0, none⟩)] (.panicking ({ v := .iface 114 (.agg #[.int .i64 x]), recovered := false } :: older)) w fun e u' w' =>
      e = .returned (.tuple #[]) ∧ u' = .panicking ({ v := .iface 114 (.agg #[.int .i64 x]), recovered := true } :: older) ∧ Below b w w' ∧ w'.heap[b]? = some (.cells zs.toArray T (0, 0)) ∧ w'.heap[b + 1]? = some (.cells #[.int .i64 x] T1 (0, 0)) := by
  refine callsD_of_wpS Tryz.func105 rfl fun c₀ cs hu => ?_
  apply wpS_seq
  apply wpS_region
  simp [wpOpsS, go_sem, recoverD, hu, Tryz.ntmps105, Exit.thenS]
  apply wpS_seq
  apply wpS_seq
  apply wpS_region
  simp [wpOpsS, go_sem, Exit.thenS]
  refine wpS_cond (t := false) (by simp [Act.eval, Array.replicate]) ?_
  simp only [Bool.false_eq_true, if_false]
  refine wpS_of_wp (wp_skip ?_)
  simp only [Exit.thenS]
  refine wpS_of_wp ?_
  change Code.wp Tryz.prog _ _ { tmps := #[.pointer (some ⟨b, 0, none⟩), .pointer (some ⟨b + 1, 0, none⟩), .iface 114 (.agg #[.int .i64 x]), Go.undef, Go.undef, Go.undef, .iface 114 (.agg #[.int .i64 x]), .iface 114 (.agg #[.int .i64 x]), .bool false, Go.undef, Go.undef, Go.undef, Go.undef, Go.undef, Go.undef, Go.undef, Go.undef, Go.undef], defers := [] } _
  have hlt : b + 1 < w.heap.size := by
    rcases Nat.lt_or_ge (b + 1) w.heap.size with e | e
    · exact e
    · rw [Array.getElem?_eq_none e] at hq
      cases hq
  apply wp_seq_k
  intro K hK
  have hN := Nonempty.intro hK
  clear hK
  go_wp2
  obtain ⟨hK⟩ := hN
  refine hK _ _ ?_
  clear hK
  obtain ⟨w0, hw0⟩ : ∃ w0, w0 = w.alloc (.cells zs.toArray 36 (0, 0)) := ⟨_, rfl⟩
  have hz : zs.length = 32 := by rw [hzs]; rfl
  have hz1 : ∀ u ∈ zs, u.oneCell' = true := fun u hu => by rw [hzs] at hu; rw [List.eq_of_mem_replicate hu]; rfl
  have hh : w.alloc (.cells #[.string ⟨#[]⟩, .string ⟨#[]⟩, .string ⟨#[]⟩, .string ⟨#[]⟩, .string ⟨#[]⟩, .string ⟨#[]⟩, .string ⟨#[]⟩, .string ⟨#[]⟩, .string ⟨#[]⟩, .string ⟨#[]⟩, .string ⟨#[]⟩, .string ⟨#[]⟩, .string ⟨#[]⟩, .string ⟨#[]⟩, .string ⟨#[]⟩, .string ⟨#[]⟩, .string ⟨#[]⟩, .string ⟨#[]⟩, .string ⟨#[]⟩, .string ⟨#[]⟩, .string ⟨#[]⟩, .string ⟨#[]⟩, .string ⟨#[]⟩, .string ⟨#[]⟩, .string ⟨#[]⟩, .string ⟨#[]⟩, .string ⟨#[]⟩, .string ⟨#[]⟩, .string ⟨#[]⟩, .string ⟨#[]⟩, .string ⟨#[]⟩, .string ⟨#[]⟩] 36 (0, 0)) = w0 := by rw [hw0, hzs]; rfl
  rw [hh]
  have k0 : w0.heap[b]? = some (.cells zs.toArray T (0, 0)) := by rw [hw0]; exact (Below.heap_alloc w _ b (by omega)).trans hb
  have k1 : w0.heap[b + 1]? = some (.cells #[.int .i64 0] T1 (0, 0)) := by rw [hw0]; exact (Below.heap_alloc w _ (b + 1) hlt).trans hq
  have k2 : w0.heap[w.heap.size]? = some (.cells zs.toArray 36 (0, 0)) := by rw [hw0]; exact heap_alloc_new _ _
  have kb : Below b w w0 := by rw [hw0]; exact (Below.refl b w).alloc (by omega) _
  generalize hg : w.heap.size = g
  rw [hg] at k2 hlt
  clear hh hw0 hq hb
  have ld : (loadVar 36 ⟨g, 0, none⟩).run Tryz.prog w0 = .ok (.agg zs.toArray) w0 := run_loadVar_agg (tbOk 36 _ rfl) rfl (by rw [hz]) (fun i v hv => by rw [Nat.zero_add, Lib.cell_of_heap k2]; simpa using hv)
  have hst : (Instr.storeAt 36 (.pointer (some ⟨b, 0, none⟩)) (.agg zs.toArray)).run Tryz.prog w0 = .ok () (w0.setRow b zs.toArray) := by
    have := run_storeVar (tbOk 36 _ rfl) (v := .agg zs.toArray) (off := 0) k0 (by simp [Value.cells, hz]) (by simp [Value.cells, hz]) (by simpa [Value.cells] using hz1)
    rw [this]
    congr 2
    apply Array.toList_inj.1
    simp [setAt, Value.cells, hz]
  have hrunL : ∀ (a : Act) (o : Oper), o.op = .load 36 (.tmp 3) → a.eval (.tmp 3) = .pointer (some ⟨g, 0, none⟩) → (execOp a.eval o).run Tryz.prog w0 = .ok (.value (.agg zs.toArray)) w0 := fun a o ho h1 => by
    simp only [execOp, ho]
    rw [Sem.run_bind, h1]
    simp [Instr.loadAt, Instr.sureAddr, ld]
  have hrun : ∀ (a : Act) (o : Oper), o.op = .store 36 (.tmp 0) (.tmp 9) → a.eval (.tmp 0) = .pointer (some ⟨b, 0, none⟩) → a.eval (.tmp 9) = .agg zs.toArray → (execOp a.eval o).run Tryz.prog w0 = .ok .skip (w0.setRow b zs.toArray) := fun a o ho h1 h2 => by
    simp only [execOp, ho]
    rw [Sem.run_bind, h1, h2, hst]
    rfl
  apply wp_seq_k
  intro K hK
  have hN := Nonempty.intro hK
  clear hK
  refine wp_region_list ?_
  unfold wpList
  rw [if_pos (by simp [Region.wanted])]
  refine .inl ?_
  unfold Oper.wp
  rw [hrunL _ _ rfl rfl]
  rw [Oper.upon_value]
  unfold wpList
  rw [if_pos (by simp [Region.wanted])]
  refine .inl ?_
  unfold Oper.wp
  rw [hrun _ _ rfl rfl rfl]
  simp only [Oper.upon]
  obtain ⟨W, hW⟩ : ∃ W, W = w0.setRow b zs.toArray := ⟨_, rfl⟩
  rw [← hW]
  have q0 : W.heap[b]? = some (.cells zs.toArray T (0, 0)) := by rw [hW]; exact setRow_heap w0 _ _ _ T (0, 0) k0
  have qo : ∀ c, c ≠ b → W.heap[c]? = w0.heap[c]? := fun c hc => by rw [hW]; exact setRow_other w0 _ _ _ hc
  have q1 : W.heap[b + 1]? = some (.cells #[.int .i64 0] T1 (0, 0)) := (qo _ (by omega)).trans k1
  have bW : Below b w W := by
    refine kb.trans ⟨by rw [hW]; rfl, by rw [hW]; rfl, by rw [hW]; rfl, by rw [hW, size_setRow]; exact Nat.le_refl _, fun c hc => qo c (by omega)⟩
  have fz1 : ∀ j, W.frozen? ⟨b + 1, j, none⟩ = false := fun j => Lib.frozen_of_heap q1 j
  have ce : W.cell? ⟨b + 1, 0, none⟩ = some (.int .i64 0) := by rw [Lib.cell_of_heap q1]; rfl
  clear hrun hrunL hst ld k0 k1 k2 kb hW
  go_wp2
  obtain ⟨hK⟩ := hN
  refine hK _ _ ?_
  clear hK
  obtain ⟨w1, hw1⟩ : ∃ w1, w1 = W.setCell ⟨b + 1, 0, none⟩ (.int .i64 9) := ⟨_, rfl⟩
  rw [← hw1]
  have p1 : w1.heap[b + 1]? = some (.cells #[.int .i64 9] T1 (0, 0)) := by rw [hw1]; exact yheap_setc _ q1
  have p0 : w1.heap[b]? = some (.cells zs.toArray T (0, 0)) := by rw [hw1]; exact yheap_seto _ (by omega) q0
  have qb : Below b w w1 := by rw [hw1]; exact bW.setCell (Nat.le_succ _) _
  clear hw1 q0 q1 qo bW fz1 ce
  have hlt1 : b + 1 < w1.heap.size := by
    rcases Nat.lt_or_ge (b + 1) w1.heap.size with e | e
    · exact e
    · rw [Array.getElem?_eq_none e] at p1
      cases p1
  have r1 : ∀ o, (w1.alloc o).heap[b + 1]? = some (.cells #[.int .i64 9] T1 (0, 0)) := fun o => (Below.heap_alloc w1 o (b + 1) hlt1).trans p1
  have r0 : ∀ o, (w1.alloc o).heap[b]? = some (.cells zs.toArray T (0, 0)) := fun o => (Below.heap_alloc w1 o b (by omega)).trans p0
  have d0 : ∀ o, (w1.alloc o).cell? ⟨b + 1, 0, none⟩ = some (.int .i64 9) := fun o => by rw [Lib.cell_of_heap (r1 o)]; rfl
  have dz : ∀ o, (w1.alloc o).frozen? ⟨b + 1, 0, none⟩ = false := fun o => Lib.frozen_of_heap (r1 o) 0
  go_wp2
  rw [hta_fail]
  simp only [Result.andThen]
  rw [Oper.upon_value]
  go_wp2
  simp [bodyPostS, results, Tryz.results105]
  have hs2 : b + 1 < (w1.setCell ⟨b + 1, 0, none⟩ (.int .i64 x)).heap.size := by rw [ysize_set]; exact hlt1
  exact ⟨(qb.setCell (Nat.le_succ _) _).alloc (by omega) _, (Below.heap_alloc _ _ b (by omega)).trans (yheap_seto _ (by omega) p0), (Below.heap_alloc _ _ (b + 1) hs2).trans (yheap_setc _ p1)⟩
theorem att_spe_pan {f : Nat} {es ds : List D} {x : Int} (hx : InR .i64 x) (c : Panics Tryz.prog f (es ++ ds) (.iface 114 (.agg #[.int .i64 x]))) :
    Called Tryz.prog 56 [.fn f es ds] (.tup [.agg (spL noS), .int .i64 x]) := by
  refine ⟨enters_of Tryz.func56 rfl rfl, fun h w vs ha hd => ?_⟩
  simp only [DenL, Den] at hd
  obtain ⟨v, _, rfl, ⟨us, cs, rfl, hu, hc⟩, rfl⟩ := hd
  have hmf : ∀ (fn : Fn) (first cap : Array Value) (w : World), (Instr.makeFunc fn first cap).run Tryz.prog w = .ok (.func fn first cap) w := fun _ _ _ _ => rfl
  go_enter_defers Tryz.func56, Tryz.ntmps56
  go_wp2
  rw [c.ent]
  simp only [Oper.upon]
  have a2 : ∀ (o1 o2 : Obj), Agree h ((w.alloc o1).alloc o2) := fun o1 o2 => ha.of_blocks fun b ⟨o, v, hv⟩ => by
    have hlt := ha.lt hv
    rw [Lib.alloc_old (w.alloc o1) o2 b (by simp; omega), Lib.alloc_old w o1 b hlt]
  refine (c.call h _ _ (a2 _ _) (hu.append hc)).mono ?_
  rintro e w' ⟨h', rfl, ha', hle, hb, hold⟩
  obtain ⟨T, k0⟩ : ∃ T, w'.heap[w.heap.size]? = some (.cells (List.replicate 32 (.string ⟨#[]⟩)).toArray T (0, 0)) := ⟨_, by
    rw [hb.block w.heap.size (by simp; omega)]
    exact heap_alloc2_old _ _ _⟩
  obtain ⟨T1, k1⟩ : ∃ T, w'.heap[w.heap.size + 1]? = some (.cells #[.int .i64 0] T (0, 0)) := ⟨_, by
    rw [hb.block (w.heap.size + 1) (by simp)]
    exact heap_alloc2_new _ _ _⟩
  have hbw : Below w.heap.size w w' := (((Below.refl w.heap.size w).alloc (Nat.le_refl _) _).alloc (by simp) _).trans (hb.mono (by simp; omega))
  simp only
  change bodyPostD Tryz.prog Tryz.f56 _ (Exit.panic _) _ _
  refine leaves_cons (f := 105) (args := #[.pointer (some ⟨w.heap.size, 0, none⟩), .pointer (some ⟨w.heap.size + 1, 0, none⟩)]) (by simp) (by simp [go_sem]) ?_
  refine (acatch_spe rfl w.heap.size x [] T T1 _ k0 k1).mono ?_
  rintro e u' w'' ⟨rfl, rfl, b1, q0, q1⟩
  have ld0 : (loadVar 36 ⟨w.heap.size, 0, none⟩).run Tryz.prog w'' = .ok (.agg (List.replicate 32 (.string ⟨#[]⟩)).toArray) w'' := run_loadVar_agg (tbOk 36 _ rfl) rfl rfl (fun i v hv => by rw [Nat.zero_add, Lib.cell_of_heap q0]; simpa using hv)
  have ld1 : (loadVar 40 ⟨w.heap.size + 1, 0, none⟩).run Tryz.prog w'' = .ok (.int .i64 x) w'' := run_loadVar_one (tbOk 40 _ rfl) rfl (by rw [Lib.cell_of_heap q1]; rfl)
  simp [Leaves, settle, results, Tryz.results56, asAddr, ld0, ld1]
  have hfin := hbw.trans b1
  refine ⟨h, ?_, ha.of_blocks fun b ⟨o, v, hv⟩ => hfin.block b (ha.lt hv), Pub.Le.refl _, hfin, fun _ _ _ => rfl⟩
  simp only [Den, DenL]
  have hz : DenL Env.dummy h (spL noS) (List.replicate 32 (.string ⟨#[]⟩)) := by
    rw [show spL noS = List.replicate 32 (.str []) from rfl]
    exact den_empties h 32
  refine ⟨_, rfl, _, _, rfl, ⟨_, rfl, hz, fun v hv => ?_⟩, _, _, rfl, ⟨rfl, hx⟩, rfl⟩
  have hq : v ∈ List.replicate 32 (Value.string ⟨#[]⟩) := hv
  have := List.eq_of_mem_replicate hq
  subst this
  rfl
end Go.Proofs.YtpcpgjcdkgcbpaaGreatDoor
end
section
namespace Go.Proofs.YtpcpgjcdkgcbpaaGreatDoor
open Go Go.V Go.Nb
structure Sg (s d : List UInt8) (j : Nat) (neg : Bool) : Prop where
  hj : j = if neg then 1 else 0
  hl : s.length = d.length + j
  hg : ∀ i, s.getD (i + j) 0 = d.getD i 0
  h0 : (0 < s.length ∧ s.getD 0 0 = 45) ↔ neg = true
theorem sg_of (s : List UInt8) : ∃ d j neg, Sg s d j neg ∧ okW s = okD d neg ∧ wval s = if neg then -(rdv d : Int) else rdv d := by
  cases s with
  | nil => exact ⟨[], 0, false, ⟨rfl, rfl, fun i => rfl, by simp⟩, rfl, rfl⟩
  | cons c r =>
    by_cases hc : c = 45
    · subst hc
      have h1 : Go.Lib.hasPrefix (45 :: r) [45] = true := by simp [Go.Lib.hasPrefix]
      have h2 : Go.Lib.trimPrefix (45 :: r) [45] = r := by unfold Go.Lib.trimPrefix; rw [h1]; rfl
      refine ⟨r, 1, true, ⟨rfl, by simp, fun i => by simp, by simp⟩, ?_, ?_⟩
      · unfold okW; rw [h1, h2]
      · unfold wval; rw [h1, h2]
    · have h1 : Go.Lib.hasPrefix (c :: r) [45] = false := by
        show List.isPrefixOf [45] (c :: r) = false
        simp only [List.isPrefixOf, Bool.and_true, beq_eq_false_iff_ne]
        exact Ne.symm hc
      have h2 : Go.Lib.trimPrefix (c :: r) [45] = c :: r := by unfold Go.Lib.trimPrefix; rw [h1]; rfl
      refine ⟨c :: r, 0, false, ⟨rfl, by simp, fun i => by simp, by simp [hc]⟩, ?_, ?_⟩
      · unfold okW; rw [h1, h2]
      · unfold wval; rw [h1, h2]
theorem u8_eq (c : UInt8) (n : Nat) (hn : n < 256) : decide (((c.toNat : Nat) : Int) = n) = decide (c = UInt8.ofNat n) := decide_eq_decide.2 ⟨fun h => UInt8.toNat_inj.1 (by rw [UInt8.toNat_ofNat_of_lt' (by simpa using hn)]; omega), fun h => by rw [h, UInt8.toNat_ofNat_of_lt' (by simpa using hn)]⟩
theorem right01_g (s d : List UInt8) (j : Nat) (neg : Bool) (S : Sg s d j neg) (hs : s.length ≤ 281474976710656) : Called Tryz.prog 120 [.str s] (.bool (okD d neg)) := by
  obtain ⟨hj, hl, hg, h0⟩ := S
  have hJ : j ≤ 1 := by rw [hj]; split <;> omega
  have e0 : (0 : Int).toNat = 0 := rfl
  have q45 : decide (((s.getD 0 0).toNat : Int) = 45) = decide (s.getD 0 0 = 45) := u8_eq _ 45 (by omega)
  have qn : (decide ((s.length : Int) > 0) && decide (s.getD 0 0 = 45)) = neg := by
    rw [Bool.eq_iff_iff, ← h0, Bool.and_eq_true, decide_eq_true_eq, decide_eq_true_eq]
    exact and_congr_left' (by omega)
  refine called_of_run tbOk 6 ⟨Tryz.func120, rfl, rfl, Nat.le_of_ble_eq_true rfl⟩ ?_
  (conv => whnf)
  (conv => whnf)
  (try simp only [e0, q45, qn])
  repeat ((first | refine V.s1 ?_); (try simp only [e0, q45, qn]))
  refine cnd_meet [(3, .int .i64 j)] [] (CondB.mk (fun hq => ?_) (fun hq => ?_)) ?_
  · subst hq
    rw [if_pos rfl] at hj
    subst hj
    (conv => whnf)
    refine V.st ?_
    exact V.wk
  · subst hq
    rw [if_neg (by simp)] at hj
    subst hj
    (conv => whnf)
    refine V.st ?_
    exact V.wk
  have hsl : (s.length : Int) - j = d.length := by omega
  clear q45 qn h0
  (conv => whnf)
  (try simp only [hsl])
  repeat ((first | refine V.s1 ?_); (try simp only [hsl]))
  refine Cnd.split (CondB.mk (fun hq => ?_) (fun hq => ?_))
  · simp only [Bool.or_eq_true, decide_eq_true_eq] at hq
    have hf : okD d neg = false := by
      unfold okD
      rcases hq with h | h
      · rw [decide_eq_true (show d.length = 0 by omega)]; rfl
      · rw [decide_eq_true (show 600 < d.length by omega), Bool.or_true]; rfl
    rw [hf]
    (conv => whnf)
    refine V.st ?_
    exact Fin.of rfl
  · simp only [Bool.or_eq_false_iff, decide_eq_false_iff_not] at hq
    (conv => whnf)
    refine V.st ?_
    refine lp_any (0 : Nat) (fun k => k ≤ d.length ∧ ∀ i, i < k → isDig (d.getD i 0) = true) (fun k => d.length - k) (fun k => [(5, .int .i64 ((k + j : Nat) : Int))]) (fun _ => []) ?_ ?_ ?_
    · rw [Nat.zero_add]
      exact V.wk
    · exact ⟨Nat.zero_le _, fun i hi => by omega⟩
    intro k hk
    have hkc : (((k + j : Nat) : Int) + 1) = ((k + 1 + j : Nat) : Int) := by omega
    have hkt : ((k + j : Nat) : Int).toNat = k + j := by omega
    (conv => whnf)
    refine V.st ?_
    refine Cnd.split (CondB.mk (fun hq2 => ?_) (fun hq2 => ?_))
    · rw [decide_eq_true_eq] at hq2
      have hdl := dig_lo (d.getD k 0)
      have hgk := hg k
      generalize hc : d.getD k 0 = c at *
      (conv => whnf)
      (try simp only [hkt, hgk, hkc])
      repeat ((first | refine V.s1 ?_); (try simp only [hkt, hgk, hkc]))
      refine Cnd.split (CondB.mk (fun hq3 => ?_) (fun hq3 => ?_))
      · rw [Bool.or_eq_true, decide_eq_true_eq, decide_eq_true_eq] at hq3
        have hf : okD d neg = false := by
          have h1 : d.all isDig = false := by
            rw [List.all_eq_false]
            refine ⟨c, ?_, fun h => by have := hdl.1 h; omega⟩
            rw [← hc, List.getD_eq_getElem?_getD, List.getElem?_eq_getElem (by omega)]
            exact List.getElem_mem _
          unfold okD
          rw [h1, Bool.and_false, Bool.false_and]
        rw [hf]
        (conv => whnf)
        refine V.st ?_
        exact Fin.of rfl
      · rw [Bool.or_eq_false_iff, decide_eq_false_iff_not, decide_eq_false_iff_not] at hq3
        (conv => whnf)
        (try simp only [hkc])
        repeat ((first | refine V.s1 ?_); (try simp only [hkc]))
        refine ⟨k + 1, ⟨by omega, fun i hi => ?_⟩, by omega, V.wk⟩
        rcases Nat.lt_or_ge i k with h | h
        · exact hk.2 i h
        · obtain rfl : i = k := by omega
          rw [hc]; exact hdl.2 (by omega)
    · rw [decide_eq_false_iff_not] at hq2
      obtain rfl : k = d.length := by omega
      have hall : ∀ c ∈ d, isDig c = true := fun c hc => by
        obtain ⟨i, hi, e⟩ := List.getElem_of_mem hc
        have := hk.2 i hi
        rw [List.getD_eq_getElem?_getD, List.getElem?_eq_getElem hi] at this
        rw [← e]; exact this
      have hok : okD d neg = !(decide (d.getD 0 0 = 48) && (neg || decide (1 < d.length))) := by
        unfold okD
        rw [List.all_eq_true.2 hall, decide_eq_false (show ¬ d.length = 0 by omega), decide_eq_false (show ¬ 600 < d.length by omega)]
        rfl
      have hu : decide ((((d.getD 0 0).toNat : Nat) : Int) = 48) = decide (d.getD 0 0 = 48) := u8_eq _ 48 (by omega)
      have hg0 := hg 0
      rw [Nat.zero_add] at hg0
      have hll : decide ((s.length : Int) = 1) = !(neg || decide (1 < d.length)) := by
        by_cases hn : neg = true
        · subst hn
          rw [if_pos rfl] at hj
          rw [decide_eq_false (by omega)]
          rfl
        · rw [if_neg hn] at hj
          rw [Bool.eq_false_iff.2 hn, Bool.false_or]
          by_cases h1 : 1 < d.length
          · rw [decide_eq_true h1, decide_eq_false (by omega)]; rfl
          · rw [decide_eq_false h1, decide_eq_true (by omega)]; rfl
      have hu2 : decide ((((d.getD 0 0).toNat : Nat) : Int) ≠ 48) = !decide (d.getD 0 0 = 48) := by rw [← hu, decide_not]
      have hne : (!decide (d.getD 0 0 = 48) || !(neg || decide (1 < d.length))) = okD d neg := by rw [hok, Bool.not_and]
      (conv => whnf)
      (try simp only [Int.toNat_natCast, hg0, hu2, hll, hne])
      repeat ((first | refine V.s1 ?_); (try simp only [Int.toNat_natCast, hg0, hu2, hll, hne]))
      exact Fin.of rfl
theorem rdv_chunk (d : List UInt8) (hd : ∀ c ∈ d, isDig c = true) (m : Nat) (hm : m ≤ d.length) : rdv (d.take m) / 10000 = rdv (d.take (m - 4)) ∧ rdv (d.take m) % 10000 = rdv ((d.take m).drop (m - 4)) := by
  have e : d.take m = d.take (m - 4) ++ (d.take m).drop (m - 4) := by
    conv => lhs; rw [← List.take_append_drop (m - 4) (d.take m), List.take_take, Nat.min_eq_left (by omega)]
  have hb := rdv_lt (s := (d.take m).drop (m - 4)) (fun c hc => hd c (List.mem_of_mem_take (List.mem_of_mem_drop hc)))
  have hl : ((d.take m).drop (m - 4)).length = m - (m - 4) := by rw [List.length_drop, List.length_take]; omega
  rw [hl] at hb
  have ev : rdv (d.take m) = rdv (d.take (m - 4)) * 10 ^ (m - (m - 4)) + rdv ((d.take m).drop (m - 4)) := by
    conv => lhs; rw [e]
    rw [rdv_append, hl]
  rw [ev]
  generalize rdv ((d.take m).drop (m - 4)) = y at *
  rcases (by omega : m < 4 ∨ 4 ≤ m) with h | h
  · have h0 : m - 4 = 0 := by omega
    have h10 : 10 ^ (m - (m - 4)) ≤ 10000 := by
      rw [h0]
      rcases (by omega : m = 0 ∨ m = 1 ∨ m = 2 ∨ m = 3) with e | e | e | e <;> subst e <;> decide
    rw [h0, List.take_zero, show rdv [] = 0 from rfl, Nat.zero_mul]
    omega
  · rw [show m - (m - 4) = 4 by omega, show (10 : Nat) ^ 4 = 10000 from rfl] at *
    omega
theorem rdv_next (d : List UInt8) (lo k : Nat) (h1 : lo ≤ k) (h2 : k < d.length) : rdv ((d.take (k + 1)).drop lo) = rdv ((d.take k).drop lo) * 10 + ((d.getD k 0).toNat - 48) := by
  have e : (d.take (k + 1)).drop lo = (d.take k).drop lo ++ [d.getD k 0] := by
    rw [List.take_add_one, List.getElem?_eq_getElem h2, List.drop_append_of_le_length (by rw [List.length_take]; omega), List.getD_eq_getElem?_getD, List.getElem?_eq_getElem h2]
    rfl
  rw [e, rdv_append, rdv_one]
  rfl
theorem in01_g (s d : List UInt8) (j : Nat) (neg : Bool) (S : Sg s d j neg) (hd : ∀ c ∈ d, isDig c = true) (hdl : d.length ≤ 600) (hs0 : 0 < s.length) :
    Called Tryz.prog 121 [.str s] (plD (if neg then -(rdv d : Int) else rdv d)) := by
  obtain ⟨hj, hl, hg, h0⟩ := S
  have hJ : j ≤ 1 := by rw [hj]; split <;> omega
  have e0 : (0 : Int).toNat = 0 := rfl
  have q45 : decide (((s.getD 0 0).toNat : Int) = 45) = neg := by
    rw [show (45 : Int) = ((45 : Nat) : Int) from rfl, u8_eq _ 45 (by omega), Bool.eq_iff_iff, ← h0, decide_eq_true_eq]
    exact ⟨fun h => ⟨hs0, h⟩, fun h => h.2⟩
  refine called_of_run tbOk 6 ⟨Tryz.func121, rfl, rfl, Nat.le_of_ble_eq_true rfl⟩ ?_
  (conv => whnf)
  (conv => whnf)
  (try simp only [e0, q45])
  repeat ((first | refine V.s1 ?_); (try simp only [e0, q45]))
  refine cnd_meet [(3, .int .i64 j)] [] (CondB.mk (fun hq => ?_) (fun hq => ?_)) ?_
  · subst hq
    rw [if_pos rfl] at hj
    subst hj
    (conv => whnf)
    refine V.st ?_
    exact V.wk
  · subst hq
    rw [if_neg (by simp)] at hj
    subst hj
    (conv => whnf)
    refine V.st ?_
    exact V.wk
  (conv => whnf)
  refine V.st ?_
  refine Lp.ghostSlot 38 4 .i64 (by decide) ?_
  (conv => whnf)
  refine lp_any (((s.length : Int), d.length, []) : Int × Nat × List Int) (fun st => st.2.1 ≤ d.length ∧ (st.1 = (st.2.1 + j : Nat) ∨ (st.2.1 = 0 ∧ st.1 < j ∧ (j : Int) - 4 ≤ st.1)) ∧ val 10000 st.2.2 + ((10000 : Nat) : Int) ^ st.2.2.length * ((rdv (d.take st.2.1) : Nat) : Int) = ((rdv d : Nat) : Int) ∧ Dg 10000 st.2.2 ∧ st.2.2.length + (st.2.1 + 3) / 4 ≤ 151) (fun st => st.2.1) (fun st => [(5, .int .i64 st.1), (4, .osl 38 0 st.2.2.length)]) (fun st => [(38, .arr .i64 st.2.2)]) ?_ ?_ ?_
  · exact V.wk
  · exact ⟨Nat.le_refl _, .inl (by dsimp only; omega), by simp [val], fun x hx => by simp at hx, by dsimp only [List.length_nil]; omega⟩
  rintro ⟨e, m, out⟩ ⟨h1, h2, h3, h4, h5⟩
  dsimp only at h1 h2 h3 h4 h5 ⊢
  (conv => whnf)
  refine V.st ?_
  refine Cnd.split (CondB.mk (fun hq => ?_) (fun hq => ?_))
  · rw [decide_eq_true_eq] at hq
    have he : e = ((m + j : Nat) : Int) := by omega
    have hm0 : 0 < m := by omega
    subst he
    obtain ⟨lo, hlo⟩ : ∃ lo, lo = m - 4 := ⟨_, rfl⟩
    have hmx : max (((m + j : Nat) : Int) - 4) (j : Int) = ((lo + j : Nat) : Int) := by omega
    have hch := rdv_chunk d hd m h1
    rw [← hlo] at hch
    have hst := dig_step (B := 10000) (by omega) h3
    rw [hch.1, hch.2] at hst
    have hbd : ∀ i, lo + i ≤ m → rdv ((d.take (lo + i)).drop lo) < 10000 := fun i hi => by
      have hl1 : ((d.take (lo + i)).drop lo).length ≤ 4 := by rw [List.length_drop, List.length_take]; omega
      have := rdv_lt (s := (d.take (lo + i)).drop lo) (fun c hc => hd c (List.mem_of_mem_take (List.mem_of_mem_drop hc)))
      have h2 : (10 : Nat) ^ ((d.take (lo + i)).drop lo).length ≤ 10 ^ 4 := Nat.pow_le_pow_right (by omega) hl1
      omega
    have hnx : ∀ i, lo + i < m → rdv ((d.take (lo + (i + 1))).drop lo) = rdv ((d.take (lo + i)).drop lo) * 10 + ((d.getD (lo + i) 0).toNat - 48) := fun i hi => by
      rw [← Nat.add_assoc]
      exact rdv_next d lo (lo + i) (by omega) (by omega)
    have hx0 : rdv ((d.take (lo + 0)).drop lo) = 0 := by
      have hnil : (d.take lo).drop lo = [] := List.drop_eq_nil_of_le (by rw [List.length_take]; omega)
      rw [Nat.add_zero, hnil]; rfl
    (conv => whnf)
    (try simp only [hmx])
    repeat ((first | refine V.s1 ?_); (try simp only [hmx]))
    refine lp_any (0 : Nat) (fun i => lo + i ≤ m) (fun i => m - (lo + i)) (fun i => [(7, .int .i64 ((lo + i + j : Nat) : Int)), (6, .int .i64 ((rdv ((d.take (lo + i)).drop lo) : Nat) : Int))]) (fun _ => []) ?_ ?_ ?_
    · rw [hx0]
      exact V.wk
    · show lo + 0 ≤ m
      omega
    intro i hi
    have hi2 := hbd i hi
    (conv => whnf)
    refine V.st ?_
    refine Cnd.split (CondB.mk (fun hq2 => ?_) (fun hq2 => ?_))
    · rw [decide_eq_true_eq] at hq2
      have hn2 := hnx i (by omega)
      have hgi := hg (lo + i)
      have hdc : isDig (d.getD (lo + i) 0) = true := hd _ (by rw [List.getD_eq_getElem?_getD, List.getElem?_eq_getElem (by omega)]; exact List.getElem_mem _)
      have hdl2 := (dig_lo _).1 hdc
      have hi3 := hbd (i + 1) (by omega)
      generalize d.getD (lo + i) 0 = c at *
      have hkt : ((lo + i + j : Nat) : Int).toNat = lo + i + j := by omega
      have hkc : (((lo + i + j : Nat) : Int) + 1) = ((lo + (i + 1) + j : Nat) : Int) := by omega
      have hsum : ((rdv ((d.take (lo + i)).drop lo) : Nat) : Int) * 10 + ((c.toNat : Int) - 48) = ((rdv ((d.take (lo + (i + 1))).drop lo) : Nat) : Int) := by
        rw [hn2]; omega
      (conv => whnf)
      (try simp only [hkt, hgi, hkc, hsum])
      repeat ((first | refine V.s1 ?_); (try simp only [hkt, hgi, hkc, hsum]))
      exact ⟨i + 1, by omega, by omega, V.wk⟩
    · rw [decide_eq_false_iff_not] at hq2
      have hmi : lo + i = m := by omega
      rw [hmi]
      have hl2 : (out ++ [((rdv ((d.take m).drop lo) : Nat) : Int)]).length = out.length + 1 := by simp
      have hl3 : out.length + (List.take 1 (List.drop 0 [((rdv ((d.take m).drop lo) : Nat) : Int)])).length = (out ++ [((rdv ((d.take m).drop lo) : Nat) : Int)]).length := by simp
      have hdg : Dg 10000 (out ++ [((rdv ((d.take m).drop lo) : Nat) : Int)]) := dg_append h4 (dg_one ⟨by omega, by have := hbd i hi; rw [hmi] at this; omega⟩)
      (conv => whnf)
      (try simp only [hl3])
      repeat ((first | refine V.s1 ?_); (try simp only [hl3]))
      try refine And.intro (fun _ => ⟨trivial, by omega⟩) ?_
      (conv => whnf)
      (try simp only [hl3])
      repeat ((first | refine V.s1 ?_); (try simp only [hl3]))
      exact ⟨(((m + j : Nat) : Int) - 4, lo, out ++ [((rdv ((d.take m).drop lo) : Nat) : Int)]), ⟨by dsimp only; omega, by dsimp only; omega, hst, hdg, by dsimp only; omega⟩, by dsimp only; omega, V.wk⟩
  · rw [decide_eq_false_iff_not] at hq
    have hm0 : m = 0 := by omega
    subst hm0
    have hv : val 10000 out = ((rdv d : Nat) : Int) := by
      rw [List.take_zero, show rdv [] = 0 from rfl] at h3
      simpa using h3
    have hmd := madeP_c neg out h4 (by omega)
    rw [hv] at hmd
    have e1 : decide ((j : Int) = 1) = neg := by
      cases neg with
      | true => rw [if_pos rfl] at hj; rw [hj]; rfl
      | false => rw [if_neg (by simp)] at hj; rw [hj]; rfl
    (conv => whnf)
    (try simp only [e1, List.take_length])
    repeat ((first | refine V.s1 ?_ | ((try ((with_reducible refine .ext ?_); (conv => whnf); (try simp only [e1, List.take_length]))); (with_reducible refine call_intro (r := ?_) ?_ ?_); rotate_left; (focus (first | exact (hmd))); (conv => whnf))); (try simp only [e1, List.take_length]))
    exact Fin.of rfl
end Go.Proofs.YtpcpgjcdkgcbpaaGreatDoor
end
section
namespace Go.Proofs.YtpcpgjcdkgcbpaaGreatDoor
open Go Go.V Go.Nb
theorem times01_c (x y : Int) (hx : Sm 40000000 x) (hy : Sm 40000000 y) : Called Tryz.prog 159 [plD x, plD y] (plD (x * y)) := by
  unfold Sm at hx hy
  have hl := mg_len_mul (B := 10000) (by omega) x.natAbs y.natAbs
  have hp := product_g (mg 10000 x.natAbs) (mg 10000 y.natAbs) (by omega) (by omega) (mg_dg (by omega) _) (fun j => by
    have := dg_getD (B := 10000) (by omega) (mg_dg (B := 10000) (by omega) y.natAbs) j
    omega)
  rw [mg_val (by omega), mg_val (by omega), ← Int.natCast_mul, Int.toNat_natCast] at hp
  have hm := made_mg (!(decide (x < 0) == decide (y < 0))) (x.natAbs * y.natAbs) (by omega)
  have e : (if (!(decide (x < 0) == decide (y < 0))) = true then -((x.natAbs * y.natAbs : Nat) : Int) else ((x.natAbs * y.natAbs : Nat) : Int)) = x * y := by
    rw [Int.natCast_mul]
    by_cases h : x < 0
    · have e1 : (x.natAbs : Int) = -x := by omega
      by_cases h2 : y < 0
      · have e2 : (y.natAbs : Int) = -y := by omega
        rw [e1, e2]; simp [h, h2, Int.neg_mul_neg]
      · have e2 : (y.natAbs : Int) = y := by omega
        rw [e1, e2]; simp [h, h2, Int.neg_mul]
    · have e1 : (x.natAbs : Int) = x := by omega
      by_cases h2 : y < 0
      · have e2 : (y.natAbs : Int) = -y := by omega
        rw [e1, e2]; simp [h, h2, Int.mul_neg]
      · have e2 : (y.natAbs : Int) = y := by omega
        rw [e1, e2]; simp [h, h2]
  rw [e] at hm
  rw [show plD x = .agg [.bool (decide (x < 0)), .ints .i64 (mg 10000 x.natAbs)] from rfl, show plD y = .agg [.bool (decide (y < 0)), .ints .i64 (mg 10000 y.natAbs)] from rfl]
  refine called_of_run tbOk 6 ⟨Tryz.func159, rfl, rfl, Nat.le_of_ble_eq_true rfl⟩ ?_
  (conv => whnf)
  refine V.st ?_
  refine ⟨(.take 0 (.take 1 (.take 2 (.take 3 (.take 4 (.take 5 (.take 6 (.take 7 (.take 8 (.ev (.cons 9 [4, 3, 2, 1, 0] (.ev (.cons 10 [] (.ev (.cons 11 [] (.done) (.nil))) (.nil))) (.nil)))))))))))), [], ⟨by kernel_rfl, by kernel_rfl, by kernel_rfl, by kernel_rfl⟩, .go (drawD_one ?_)⟩
  (conv => whnf)
  refine V.st ?_
  repeat ((try ((with_reducible refine .ext ?_); (conv => whnf))); (with_reducible refine call_intro (r := ?_) ?_ ?_); rotate_left; (focus (first | exact (hp) | exact (hm))); (conv => whnf); refine V.st ?_)
  exact Fin.of rfl
theorem order01_c (x y : Int) (hx : Sm 80000000 x) (hy : Sm 80000000 y) : Called Tryz.prog 158 [plD x, plD y] (.int .i64 (x - y).sign) := by
  have hm := minus_c x y (hx.mono (by omega)) (hy.mono (by omega))
  have hn := mg_nil (B := 10000) (n := (x - y).natAbs) (by omega)
  have hz : Sm 80000001 (x - y) := by rw [Int.sub_eq_add_neg]; exact hx.add hy.neg
  unfold Sm at hz
  rw [show plD (x - y) = .agg [.bool (decide (x - y < 0)), .ints .i64 (mg 10000 (x - y).natAbs)] from rfl] at hm
  generalize x - y = z at *
  generalize mg 10000 z.natAbs = xs at *
  refine called_of_run tbOk 6 ⟨Tryz.func158, rfl, rfl, Nat.le_of_ble_eq_true rfl⟩ ?_
  (conv => whnf)
  refine V.st ?_
  repeat ((try ((with_reducible refine .ext ?_); (conv => whnf))); (with_reducible refine call_intro (r := ?_) ?_ ?_); rotate_left; (focus (first | exact (hm))); (conv => whnf); refine V.st ?_)
  refine Cnd.split (CondB.mk (fun hq => ?_) (fun hq => ?_))
  · rw [decide_eq_true_eq] at hq
    (conv => whnf)
    refine V.st ?_
    exact Fin.of (by rw [Int.sign_eq_neg_one_of_neg hq])
  · rw [decide_eq_false_iff_not] at hq
    (conv => whnf)
    refine V.st ?_
    refine Cnd.split (CondB.mk (fun hq2 => ?_) (fun hq2 => ?_))
    · rw [decide_eq_true_eq] at hq2
      have h0 : z ≠ 0 := fun e => by
        have := hn.2 (by rw [e]; rfl)
        rw [this] at hq2; simp at hq2
      (conv => whnf)
      refine V.st ?_
      exact Fin.of (by rw [Int.sign_eq_one_of_pos (by omega)])
    · rw [decide_eq_false_iff_not] at hq2
      have h0 := hn.1 (List.length_eq_zero_iff.1 (by omega))
      (conv => whnf)
      refine V.st ?_
      exact Fin.of (by rw [show z = 0 by omega]; rfl)
theorem off1 {p : Go.Program} {f : Nat} {ys : List D} {c : Bool} (hc : c = false) : c = true → Called p f ys (.int .i64 0) := fun h => by rw [hc] at h; cases h
theorem sign_lt {a b : Int} : (a - b).sign < 0 ↔ a < b := by
  rcases Int.lt_trichotomy a b with h | h | h
  · rw [Int.sign_eq_neg_one_of_neg (by omega)]; exact ⟨fun _ => h, fun _ => by omega⟩
  · rw [h, Int.sub_self]; exact ⟨fun e => by simp at e, fun e => by omega⟩
  · rw [Int.sign_eq_one_of_pos (by omega)]; exact ⟨fun e => by omega, fun e => by omega⟩
theorem sign_gt {a b : Int} : (a - b).sign > 0 ↔ a > b := by
  rcases Int.lt_trichotomy a b with h | h | h
  · rw [Int.sign_eq_neg_one_of_neg (by omega)]; exact ⟨fun e => by omega, fun e => by omega⟩
  · rw [h, Int.sub_self]; exact ⟨fun e => by simp at e, fun e => by omega⟩
  · rw [Int.sign_eq_one_of_pos (by omega)]; exact ⟨fun _ => h, fun _ => by omega⟩
end Go.Proofs.YtpcpgjcdkgcbpaaGreatDoor
end
section
namespace Go.Proofs.YtpcpgjcdkgcbpaaGreatDoor
open Go Go.V Go.Nb
def Q4 (k : Nat) (q : Rat) : Prop := Sm k q.num ∧ Sm k (q.den : Int)
theorem Q4.mono {k l : Nat} {q : Rat} (h : Q4 k q) (hl : k ≤ l) : Q4 l q := ⟨h.1.mono hl, h.2.mono hl⟩
theorem Q4.neg {k : Nat} {q : Rat} (h : Q4 k q) : Q4 k (-q) := ⟨by rw [Rat.neg_num]; exact h.1.neg, by rw [Rat.neg_den]; exact h.2⟩
theorem Q4.of {k : Nat} {n d : Int} (hn : Sm k n) (hd : Sm k d) (hd0 : d ≠ 0) : Q4 k (Rat.divInt n d) := by
  have h1 := low_num n d hd0
  have h2 := low_den n d hd0
  have h3 := natAbs_ediv_le (if d < 0 then -n else n) (Int.gcd (if d < 0 then -n else n) (if d < 0 then -d else d))
  have h4 := natAbs_ediv_le (if d < 0 then -d else d) (Int.gcd (if d < 0 then -n else n) (if d < 0 then -d else d))
  rw [h1] at h3
  rw [h2] at h4
  have e1 : (if d < 0 then -n else n).natAbs = n.natAbs := by split <;> simp
  have e2 : (if d < 0 then -d else d).natAbs = d.natAbs := by split <;> simp
  exact ⟨hn.le (by omega), hd.le (by omega)⟩
theorem plN (n : Nat) : plD (n : Int) = .agg [.bool false, .ints .i64 (mg 10000 n)] := by
  unfold plD
  rw [decide_eq_false (by omega), Int.natAbs_natCast]
theorem mul_divInt (x y : Rat) : x * y = Rat.divInt (x.num * y.num) ((x.den : Int) * (y.den : Int)) := by
  conv => lhs; rw [← Rat.num_divInt_den x, ← Rat.num_divInt_den y]
  rw [Rat.divInt_mul_divInt]
theorem den_ne (x : Rat) : (x.den : Int) ≠ 0 := by have := x.den_pos; omega
theorem times02_c (x y : Rat) (hx : Q4 40000000 x) (hy : Q4 40000000 y) : Called Tryz.prog 162 [raD x, raD y] (raD (x * y)) := by
  have h1 := times01_c x.num y.num hx.1 hy.1
  have h2 := times01_c x.den y.den hx.2 hy.2
  have h3 := lowest_c (x.num * y.num) ((x.den : Int) * (y.den : Int)) (hx.1.mul hy.1) (hx.2.mul hy.2) (Int.mul_ne_zero (den_ne x) (den_ne y))
  rw [← mul_divInt] at h3
  rw [plN, plN] at h2
  refine called_of_run tbOk 6 ⟨Tryz.func162, rfl, rfl, Nat.le_of_ble_eq_true rfl⟩ ?_
  (conv => whnf)
  refine V.st ?_
  refine ⟨(.take 0 (.take 1 (.take 2 (.take 3 (.take 5 (.take 6 (.take 7 (.take 8 (.ev (.cons 4 [8, 7, 6, 5] (.ev (.cons 9 [] (.ev (.cons 10 [] (.ev (.cons 11 [] (.done) (.nil))) (.nil))) (.nil))) (.nil))))))))))), [], ⟨by kernel_rfl, by kernel_rfl, by kernel_rfl, by kernel_rfl⟩, .go (drawD_one ?_)⟩
  (conv => whnf)
  refine V.st ?_
  repeat ((try ((with_reducible refine .ext ?_); (conv => whnf))); (with_reducible refine call_intro (r := ?_) ?_ ?_); rotate_left; (focus (first | exact (h1) | exact (h2) | exact (h3))); (conv => whnf); refine V.st ?_)
  exact Fin.of rfl
theorem order02_c (x y : Rat) (hx : Q4 40000000 x) (hy : Q4 40000000 y) : Called Tryz.prog 124 [raD x, raD y] (.int .i64 (ordQ x y)) := by
  have h1 := times01_c x.num y.den hx.1 hy.2
  have h2 := times01_c y.num x.den hy.1 hx.2
  have h3 := order01_c (x.num * y.den) (y.num * x.den) (hx.1.mul hy.2) (hy.1.mul hx.2)
  rw [Int.sub_eq_add_neg, order_parts] at h3
  rw [plN] at h1 h2
  refine called_of_run tbOk 6 ⟨Tryz.func124, rfl, rfl, Nat.le_of_ble_eq_true rfl⟩ ?_
  (conv => whnf)
  refine V.st ?_
  refine ⟨(.take 0 (.take 1 (.take 2 (.take 3 (.take 5 (.take 6 (.take 7 (.take 8 (.ev (.cons 4 [8, 7, 6, 5] (.ev (.cons 9 [] (.ev (.cons 10 [] (.take 11 (.done)) (.nil))) (.nil))) (.nil))))))))))), [], ⟨by kernel_rfl, by kernel_rfl, by kernel_rfl, by kernel_rfl⟩, .go (drawD_one ?_)⟩
  (conv => whnf)
  refine V.st ?_
  repeat ((try ((with_reducible refine .ext ?_); (conv => whnf))); (with_reducible refine call_intro (r := ?_) ?_ ?_); rotate_left; (focus (first | exact (h1) | exact (h2) | exact (h3))); (conv => whnf); refine V.st ?_)
  exact Fin.of rfl
theorem Q4.mul {k l : Nat} {x y : Rat} (h : Q4 k x) (g : Q4 l y) : Q4 (k + l) (x * y) := by
  rw [mul_divInt]
  exact Q4.of (h.1.mul g.1) (h.2.mul g.2) (Int.mul_ne_zero (den_ne x) (den_ne y))
theorem add_divInt' (x y : Rat) : x + y = Rat.divInt (x.num * y.den + y.num * x.den) ((x.den : Int) * (y.den : Int)) := by
  conv => lhs; rw [← Rat.num_divInt_den x, ← Rat.num_divInt_den y]
  rw [Rat.divInt_add_divInt _ _ (den_ne x) (den_ne y)]
theorem plus02_c (x y : Rat) (hx : Q4 30000000 x) (hy : Q4 30000000 y) : Called Tryz.prog 161 [raD x, raD y] (raD (x + y)) := by
  have h1 := times01_c x.num y.den (hx.1.mono (by omega)) (hy.2.mono (by omega))
  have h2 := times01_c y.num x.den (hy.1.mono (by omega)) (hx.2.mono (by omega))
  have z1 : Sm 60000000 (x.num * (y.den : Int)) := hx.1.mul hy.2
  have z2 : Sm 60000000 (y.num * (x.den : Int)) := hy.1.mul hx.2
  have z3 : Sm 60000000 ((x.den : Int) * (y.den : Int)) := hx.2.mul hy.2
  have h3 := plus_c _ _ (z1.mono (by omega)) (z2.mono (by omega))
  have h4 := times01_c x.den y.den (hx.2.mono (by omega)) (hy.2.mono (by omega))
  have h5 := lowest_c (x.num * y.den + y.num * x.den) ((x.den : Int) * (y.den : Int)) ((z1.add z2).mono (by omega)) (z3.mono (by omega)) (Int.mul_ne_zero (den_ne x) (den_ne y))
  rw [← add_divInt'] at h5
  rw [plN] at h1 h2
  rw [plN, plN] at h4
  generalize x.num * y.den + y.num * x.den = S at *
  clear z1 z2 z3
  refine called_of_run tbOk 6 ⟨Tryz.func161, rfl, rfl, Nat.le_of_ble_eq_true rfl⟩ ?_
  (conv => whnf)
  refine V.st ?_
  refine ⟨(.take 0 (.take 1 (.take 2 (.take 3 (.take 5 (.take 6 (.take 7 (.take 8 (.ev (.cons 4 [8, 7, 6, 5] (.ev (.cons 9 [] (.ev (.cons 10 [] (.ev (.cons 11 [] (.ev (.cons 12 [] (.done) (.nil))) (.nil))) (.cons 11 [] (.ev (.cons 10 [] (.ev (.cons 12 [] (.done) (.nil))) (.nil))) (.nil)))) (.cons 11 [8, 7, 6, 5] (.ev (.cons 9 [] (.ev (.cons 10 [] (.ev (.cons 12 [] (.done) (.nil))) (.nil))) (.nil))) (.nil)))) (.cons 11 [8, 7, 6, 5, 3, 2, 1, 0] (.ev (.cons 4 [8, 7, 6, 5] (.ev (.cons 9 [] (.ev (.cons 10 [] (.ev (.cons 12 [] (.done) (.nil))) (.nil))) (.nil))) (.nil))) (.nil)))))))))))), [], ⟨by kernel_rfl, by kernel_rfl, by kernel_rfl, by kernel_rfl⟩, ?_⟩
  refine drw_meet [(5, .box 5 0)] [(5, .box [.bool (decide (S < 0)), .ints .i64 (mg 10000 S.natAbs)])] ?_ ?_
  · (conv => whnf); (try simp only [Nat.zero_add])
    repeat' (first | exact V.wk | ((with_reducible refine And.intro ?_ draw_nil); (conv => whnf); (try simp only [Nat.zero_add])) | ((with_reducible first | refine draw_split ?_ ?_ | refine nds_split ?_ ?_) <;> (conv => whnf); (try simp only [Nat.zero_add])) | ((first | refine V.s1 ?_ | ((with_reducible refine recheck_and ?_ ?_); (focus ((conv => whnf); (try simp only [Nat.zero_add]); (repeat ((first | refine V.s1 ?_); (try simp only [Nat.zero_add]))); exact ⟨rfl⟩)); (conv => whnf)) | ((try ((with_reducible refine .ext ?_); (conv => whnf); (try simp only [Nat.zero_add]))); (with_reducible refine call_intro (r := ?_) ?_ ?_); rotate_left; (focus (first | exact (h1) | exact (h2) | exact (h3))); (conv => whnf))); (try simp only [Nat.zero_add])) | (refine And.intro ?_ ?_ <;> (conv => whnf); (try simp only [Nat.zero_add])))
  (conv => whnf)
  refine V.st ?_
  refine ⟨(.take 0 (.take 1 (.take 2 (.take 3 (.take 4 (.ev (.cons 5 [0] (.ev (.cons 6 [] (.ev (.cons 7 [] (.done) (.nil))) (.nil))) (.nil)))))))), [], ⟨by kernel_rfl, by kernel_rfl, by kernel_rfl, by kernel_rfl⟩, .go (drawD_one ?_)⟩
  (conv => whnf)
  refine V.st ?_
  repeat ((try ((with_reducible refine .ext ?_); (conv => whnf))); (with_reducible refine call_intro (r := ?_) ?_ ?_); rotate_left; (focus (first | exact (h4) | exact (h5))); (conv => whnf); refine V.st ?_)
  exact Fin.of rfl
theorem over_eq (x y : Rat) (hy : y ≠ 0) : x / y = Rat.divInt (x.num * y.den) ((x.den : Int) * y.num) := by
  rw [Rat.div_def]
  conv => lhs; rw [← Rat.num_divInt_den x, ← Rat.num_divInt_den y, Rat.inv_divInt, Rat.divInt_mul_divInt]
theorem over02_c (x y : Rat) (hx : Q4 40000000 x) (hy : Q4 40000000 y) (h0 : y.num ≠ 0) : Called Tryz.prog 163 [raD x, raD y] (raD (x / y)) := by
  have h1 := times01_c x.num y.den hx.1 hy.2
  have h2 := times01_c x.den y.num hx.2 hy.1
  have h3 := lowest_c (x.num * y.den) ((x.den : Int) * y.num) (hx.1.mul hy.2) (hx.2.mul hy.1) (Int.mul_ne_zero (den_ne x) h0)
  rw [← over_eq x y (fun e => h0 (by rw [e]; rfl))] at h3
  rw [plN] at h1 h2
  refine called_of_run tbOk 6 ⟨Tryz.func163, rfl, rfl, Nat.le_of_ble_eq_true rfl⟩ ?_
  (conv => whnf)
  refine V.st ?_
  refine ⟨(.take 0 (.take 1 (.take 2 (.take 3 (.take 5 (.take 6 (.take 7 (.take 8 (.ev (.cons 4 [8, 7, 6, 5] (.ev (.cons 9 [] (.ev (.cons 10 [] (.ev (.cons 11 [] (.done) (.nil))) (.nil))) (.nil))) (.nil))))))))))), [], ⟨by kernel_rfl, by kernel_rfl, by kernel_rfl, by kernel_rfl⟩, .go (drawD_one ?_)⟩
  (conv => whnf)
  refine V.st ?_
  repeat ((try ((with_reducible refine .ext ?_); (conv => whnf))); (with_reducible refine call_intro (r := ?_) ?_ ?_); rotate_left; (focus (first | exact (h1) | exact (h2) | exact (h3))); (conv => whnf); refine V.st ?_)
  exact Fin.of rfl
end Go.Proofs.YtpcpgjcdkgcbpaaGreatDoor
end
section
namespace Go.Proofs.YtpcpgjcdkgcbpaaGreatDoor
open Go Go.V Go.Nb
theorem right01_c (s : List UInt8) (hs : s.length ≤ 281474976710656) : Called Tryz.prog 120 [.str s] (.bool (okW s)) := by
  obtain ⟨d, j, neg, S, e1, _⟩ := sg_of s
  rw [e1]
  exact right01_g s d j neg S hs
theorem in01_c (s : List UInt8) (h : okW s = true) : Called Tryz.prog 121 [.str s] (plD (wval s)) := by
  obtain ⟨d, j, neg, S, e1, e2⟩ := sg_of s
  rw [e2]
  rw [e1] at h
  unfold okD at h
  simp only [Bool.and_eq_true, Bool.not_eq_true', Bool.or_eq_false_iff, decide_eq_false_iff_not, List.all_eq_true] at h
  exact in01_g s d j neg S h.1.2 (by omega) (by have := S.hl; omega)
theorem sm_wval {s : List UInt8} (h : okW s = true) : Sm 151 (wval s) := by
  obtain ⟨d, j, neg, S, e1, e2⟩ := sg_of s
  rw [e1] at h
  unfold okD at h
  simp only [Bool.and_eq_true, Bool.not_eq_true', Bool.or_eq_false_iff, decide_eq_false_iff_not, List.all_eq_true] at h
  have hlt := rdv_lt (s := d) h.1.2
  have h2 : ∀ k, d.length ≤ 4 * k → rdv d < 10000 ^ k := fun k hk => by
    refine Nat.lt_of_lt_of_le hlt ?_
    rw [show (10000 : Nat) = 10 ^ 4 from rfl, ← Nat.pow_mul]
    exact Nat.pow_le_pow_right (by omega) hk
  have e : (wval s).natAbs = rdv d := by
    rw [e2]; split <;> omega
  unfold Sm
  rw [e]
  exact mg_len_le (by omega) (h2 151 (by omega))
theorem right02_c (s t : List UInt8) (hs : s.length ≤ 281474976710656) (ht : t.length ≤ 281474976710656) : Called Tryz.prog 81 [.agg [.str s, .str t]] (.bool (okP s t)) := by
  have r1 := right01_c s hs
  have r2 := right01_c t ht
  by_cases h1 : okW s = true
  · rw [h1] at r1
    by_cases h2 : okW t = true
    · rw [h2] at r2
      have i1 := in01_c s h1
      have i2 := in01_c t h2
      have g1 := divisor_c (wval s) (wval t) ((sm_wval h1).mono (by omega)) ((sm_wval h2).mono (by omega))
      have hz := mg_nil (B := 10000) (n := (wval t).natAbs) (by omega)
      have gl : Sm 151 (Int.gcd (wval s) (wval t) : Int) := by
        by_cases h0 : wval t = 0
        · rw [h0, Int.gcd_zero_right]
          exact (sm_wval h1).le (by omega)
        · exact (sm_wval h2).le (by
            rw [Int.natAbs_natCast]
            exact Nat.le_of_dvd (by omega) (Int.ofNat_dvd_left.1 (Int.gcd_dvd_right _ _)))
      have x1 := text_c _ (gl.mono (by omega))
      have hp : okP s t = (decide (0 < wval t) && decide (decZ (Int.gcd (wval s) (wval t) : Int) = [49])) := by
        unfold okP
        rw [h1, h2, Bool.true_and, Bool.true_and]
        congr 1
        refine decide_eq_decide.2 ⟨fun h => ?_, fun h => ?_⟩
        · rw [show Int.gcd (wval s) (wval t) = 1 from h]; decide
        · have := wval_decZ (Int.gcd (wval s) (wval t) : Int)
          rw [h] at this
          have e49 : wval [49] = 1 := by decide
          rw [e49] at this
          show Int.gcd (wval s) (wval t) = 1
          omega
      rw [hp]
      clear hp gl
      generalize wval s = x at *
      generalize wval t = y at *
      generalize (Int.gcd x y : Int) = g at *
      generalize decZ g = gt at *
      have hy : (decide (y < 0) || decide ((((mg 10000 y.natAbs).length : Nat) : Int) = 0)) = !decide (0 < y) := by
        rw [Bool.eq_iff_iff]
        simp only [Bool.or_eq_true, decide_eq_true_eq, Bool.not_eq_true', decide_eq_false_iff_not]
        constructor
        · rintro (h | h)
          · omega
          · have : mg 10000 y.natAbs = [] := List.length_eq_zero_iff.1 (by omega)
            have := hz.1 this
            omega
        · intro h
          by_cases h0 : y < 0
          · exact .inl h0
          · right
            have : mg 10000 y.natAbs = [] := hz.2 (by omega)
            rw [this]; rfl
      unfold plD at *
      refine called_of_run tbOk 6 ⟨Tryz.func81, rfl, rfl, Nat.le_of_ble_eq_true rfl⟩ ?_
      (conv => whnf)
      refine V.st ?_
      repeat ((try ((with_reducible refine .ext ?_); (conv => whnf))); (with_reducible refine call_intro (r := ?_) ?_ ?_); rotate_left; (focus (first | exact (r1) | exact (r2))); (conv => whnf); refine V.st ?_)
      refine ⟨(.take 0 (.take 1 (.take 3 (.take 4 (.ev (.cons 2 [4, 3] (.ev (.cons 5 [] (.ev (.cons 6 [] (.ev (.cons 7 [] (.ev (.cons 8 [] (.ev (.cons 9 [] (.done) (.nil))) (.nil))) (.nil))) (.cons 7 [] (.ev (.cons 6 [] (.ev (.cons 8 [] (.ev (.cons 9 [] (.done) (.nil))) (.nil))) (.nil))) (.nil)))) (.cons 6 [4, 3] (.ev (.cons 5 [] (.ev (.cons 7 [] (.ev (.cons 8 [] (.ev (.cons 9 [] (.done) (.nil))) (.nil))) (.nil))) (.cons 7 [4, 3] (.ev (.cons 5 [] (.ev (.cons 8 [] (.ev (.cons 9 [] (.done) (.nil))) (.nil))) (.nil))) (.nil)))) (.cons 7 [4, 3] (.ev (.cons 5 [] (.ev (.cons 6 [] (.ev (.cons 8 [] (.ev (.cons 9 [] (.done) (.nil))) (.nil))) (.nil))) (.cons 6 [4, 3] (.ev (.cons 5 [] (.ev (.cons 8 [] (.ev (.cons 9 [] (.done) (.nil))) (.nil))) (.nil))) (.nil)))) (.nil))))) (.cons 6 [4, 3, 1, 0] (.ev (.cons 2 [4, 3] (.ev (.cons 5 [] (.ev (.cons 7 [] (.ev (.cons 8 [] (.ev (.cons 9 [] (.done) (.nil))) (.nil))) (.nil))) (.cons 7 [4, 3] (.ev (.cons 5 [] (.ev (.cons 8 [] (.ev (.cons 9 [] (.done) (.nil))) (.nil))) (.nil))) (.nil)))) (.cons 7 [4, 3, 1, 0] (.ev (.cons 2 [4, 3] (.ev (.cons 5 [] (.ev (.cons 8 [] (.ev (.cons 9 [] (.done) (.nil))) (.nil))) (.nil))) (.nil))) (.nil)))) (.cons 7 [4, 3, 1, 0] (.ev (.cons 2 [4, 3] (.ev (.cons 5 [] (.ev (.cons 6 [] (.ev (.cons 8 [] (.ev (.cons 9 [] (.done) (.nil))) (.nil))) (.nil))) (.cons 6 [4, 3] (.ev (.cons 5 [] (.ev (.cons 8 [] (.ev (.cons 9 [] (.done) (.nil))) (.nil))) (.nil))) (.nil)))) (.cons 6 [4, 3, 1, 0] (.ev (.cons 2 [4, 3] (.ev (.cons 5 [] (.ev (.cons 8 [] (.ev (.cons 9 [] (.done) (.nil))) (.nil))) (.nil))) (.nil))) (.nil)))) (.nil))))))))), [], ⟨by kernel_rfl, by kernel_rfl, by kernel_rfl, by kernel_rfl⟩, ?_⟩
      refine drw_meet [(3, .box 3 0), (4, .box 4 0)] [(3, .box [.bool (decide (x < 0)), .ints .i64 (mg 10000 x.natAbs)]), (4, .box [.bool (decide (y < 0)), .ints .i64 (mg 10000 y.natAbs)])] ?_ ?_
      · (conv => whnf); (try simp only [Nat.zero_add])
        repeat' (first | exact V.wk | ((with_reducible refine And.intro ?_ draw_nil); (conv => whnf); (try simp only [Nat.zero_add])) | ((with_reducible first | refine draw_split ?_ ?_ | refine nds_split ?_ ?_) <;> (conv => whnf); (try simp only [Nat.zero_add])) | ((first | refine V.s1 ?_ | ((with_reducible refine recheck_and ?_ ?_); (focus ((conv => whnf); (try simp only [Nat.zero_add]); (repeat ((first | refine V.s1 ?_); (try simp only [Nat.zero_add]))); exact ⟨rfl⟩)); (conv => whnf)) | ((try ((with_reducible refine .ext ?_); (conv => whnf); (try simp only [Nat.zero_add]))); (with_reducible refine call_intro (r := ?_) ?_ ?_); rotate_left; (focus (first | exact (i1) | exact (i2))); (conv => whnf))); (try simp only [Nat.zero_add])) | (refine And.intro ?_ ?_ <;> (conv => whnf); (try simp only [Nat.zero_add])))
      (conv => whnf)
      (conv => whnf)
      (try simp only [hy])
      repeat ((first | refine V.s1 ?_); (try simp only [hy]))
      refine Cnd.split (CondB.mk (fun hq => ?_) (fun hq => ?_))
      · simp only [Bool.not_eq_true', decide_eq_false_iff_not] at hq
        rw [decide_eq_false hq, Bool.false_and]
        (conv => whnf)
        refine V.st ?_
        exact Fin.of rfl
      · simp only [Bool.not_eq_false', decide_eq_true_eq] at hq
        rw [decide_eq_true hq, Bool.true_and]
        (conv => whnf)
        refine V.st ?_
        repeat ((try ((with_reducible refine .ext ?_); (conv => whnf))); (with_reducible refine call_intro (r := ?_) ?_ ?_); rotate_left; (focus (first | exact (g1) | exact (x1))); (conv => whnf); refine V.st ?_)
        exact Fin.of rfl
    · rw [Bool.eq_false_iff.2 h2] at r2
      have hp : okP s t = false := by unfold okP; rw [Bool.eq_false_iff.2 h2, Bool.and_false, Bool.false_and, Bool.false_and]
      rw [hp]
      refine called_of_run tbOk 6 ⟨Tryz.func81, rfl, rfl, Nat.le_of_ble_eq_true rfl⟩ ?_
      (conv => whnf)
      refine V.st ?_
      repeat ((try ((with_reducible refine .ext ?_); (conv => whnf))); (with_reducible refine call_intro (r := ?_) ?_ ?_); rotate_left; (focus (first | exact (r1) | exact (r2))); (conv => whnf); refine V.st ?_)
      exact Fin.of rfl
  · rw [Bool.eq_false_iff.2 h1] at r1
    have hp : okP s t = false := by unfold okP; rw [Bool.eq_false_iff.2 h1, Bool.false_and, Bool.false_and, Bool.false_and]
    rw [hp]
    refine called_of_run tbOk 6 ⟨Tryz.func81, rfl, rfl, Nat.le_of_ble_eq_true rfl⟩ ?_
    (conv => whnf)
    refine V.st ?_
    repeat ((try ((with_reducible refine .ext ?_); (conv => whnf))); (with_reducible refine call_intro (r := ?_) ?_ ?_); rotate_left; (focus (first | exact (r1) | exact (r2))); (conv => whnf); refine V.st ?_)
    refine Cnd.split (CondB.mk (fun hq => ?_) (fun hq => ?_))
    · (conv => whnf)
      refine V.st ?_
      exact Fin.of rfl
    · simp at hq
theorem q4_qv {s t : List UInt8} (h : okP s t = true) : Q4 151 (qv s t) := by
  obtain ⟨h1, h2, h3, h4⟩ := okP_of h
  obtain ⟨p1, p2⟩ := qv_parts h
  exact ⟨by rw [p1]; exact sm_wval h1, by rw [p2]; exact (sm_wval h2).le (by omega)⟩
theorem in02_c (s t : List UInt8) (h : okP s t = true) : Called Tryz.prog 125 [.agg [.str s, .str t]] (raD (qv s t)) := by
  obtain ⟨h1, h2, h3, h4⟩ := okP_of h
  obtain ⟨p1, p2⟩ := qv_parts h
  have i1 := in01_c s h1
  have i2 := in01_c t h2
  unfold raD
  rw [p1, p2]
  unfold plD at i1 i2
  rw [decide_eq_false (show ¬ wval t < 0 by omega)] at i2
  refine called_of_run tbOk 6 ⟨Tryz.func125, rfl, rfl, Nat.le_of_ble_eq_true rfl⟩ ?_
  (conv => whnf)
  refine V.st ?_
  refine ⟨(.take 0 (.take 1 (.take 3 (.take 4 (.ev (.cons 2 [4, 3] (.ev (.cons 5 [] (.take 6 (.ev (.cons 7 [] (.done) (.nil)))) (.nil))) (.nil))))))), [], ⟨by kernel_rfl, by kernel_rfl, by kernel_rfl, by kernel_rfl⟩, .go (drawD_one ?_)⟩
  (conv => whnf)
  refine V.st ?_
  repeat ((try ((with_reducible refine .ext ?_); (conv => whnf))); (with_reducible refine call_intro (r := ?_) ?_ ?_); rotate_left; (focus (first | exact (i1) | exact (i2))); (conv => whnf); refine V.st ?_)
  exact Fin.of rfl
theorem rcheck_c (s t : List UInt8) (hs : s.length ≤ 281474976710656) (ht : t.length ≤ 281474976710656) : Called Tryz.prog 39 [.agg [.str s, .str t]] (.int .i64 (if okP s t then 0 else 20)) := by
  have r1 := right02_c s t hs ht
  by_cases h : okP s t = true
  · rw [h] at r1 ⊢
    rw [if_pos rfl]
    refine called_of_run tbOk 6 ⟨Tryz.func39, rfl, rfl, Nat.le_of_ble_eq_true rfl⟩ ?_
    (conv => whnf)
    refine V.st ?_
    repeat ((try ((with_reducible refine .ext ?_); (conv => whnf))); (with_reducible refine call_intro (r := ?_) ?_ ?_); rotate_left; (focus (first | exact (r1))); (conv => whnf); refine V.st ?_)
    exact Fin.of rfl
  · rw [if_neg h]
    rw [Bool.eq_false_iff.2 h] at r1
    refine called_of_run tbOk 6 ⟨Tryz.func39, rfl, rfl, Nat.le_of_ble_eq_true rfl⟩ ?_
    (conv => whnf)
    refine V.st ?_
    repeat ((try ((with_reducible refine .ext ?_); (conv => whnf))); (with_reducible refine call_intro (r := ?_) ?_ ?_); rotate_left; (focus (first | exact (r1))); (conv => whnf); refine V.st ?_)
    exact Fin.of rfl
theorem okP_len {s t : List UInt8} (h : okP s t = true) : s.length ≤ 281474976710656 ∧ t.length ≤ 281474976710656 := by
  obtain ⟨h1, h2, _, _⟩ := okP_of h
  have l1 := (okW_len h1).1
  have l2 := (okW_len h2).1
  omega
end Go.Proofs.YtpcpgjcdkgcbpaaGreatDoor
end
section
namespace Go.Proofs.YtpcpgjcdkgcbpaaGreatDoor
open Go Go.V Go.Nb
theorem pow_4 (k : Nat) : (10000 : Nat) ^ k = 10 ^ (4 * k) := by rw [show (10000 : Nat) = 10 ^ 4 from rfl, ← Nat.pow_mul]
theorem sm_nat {x : Nat} {k : Nat} (hk : k ≤ 90000000) (h : x < 10 ^ (4 * k)) : (mg 10000 x).length ≤ 90000000 :=
  Nat.le_trans (mg_len_le (k := k) (by omega) (by rw [pow_4]; exact h)) hk
theorem sm_fq {n : Nat} {q : Rat} (h : Fq n q) (h6 : n ≤ 600) : Sm 90000000 q.num ∧ Sm 90000000 (q.den : Int) := by
  have h2 := h.mono (n := 4 * 150) (by omega)
  obtain ⟨k, hk⟩ : ∃ k, 150 = k := ⟨_, rfl⟩
  rw [hk] at h2
  exact ⟨sm_nat (by omega) h2.1, by unfold Sm; rw [Int.natAbs_natCast]; exact sm_nat (by omega) h2.2⟩
theorem radd (s t u v : List UInt8) (h : okP s t = true) (g : okP u v = true) (hn : Sm 90000000 (qv s t + qv u v).num) (hd : Sm 90000000 ((qv s t + qv u v).den : Int)) : Called Tryz.prog 131 [.agg [.str s, .str t], .agg [.str u, .str v]] (frR (qv s t + qv u v)) := by
  have r1 := right02_c s t (okP_len h).1 (okP_len h).2
  have r2 := right02_c u v (okP_len g).1 (okP_len g).2
  rw [h] at r1
  rw [g] at r2
  have i1 := in02_c s t h
  have i2 := in02_c u v g
  have o := plus02_c (qv s t) (qv u v) ((q4_qv h).mono (by omega)) ((q4_qv g).mono (by omega))
  have w := out02_c (qv s t + qv u v) hn hd
  generalize qv s t + qv u v = q at *
  generalize qv s t = q1 at *
  generalize qv u v = q2 at *
  unfold frR at w ⊢
  refine called_of_run tbOk 6 ⟨Tryz.func131, rfl, rfl, Nat.le_of_ble_eq_true rfl⟩ ?_
  (conv => whnf)
  refine V.st ?_
  repeat ((try ((with_reducible refine .ext ?_); (conv => whnf))); (with_reducible refine call_intro (r := ?_) ?_ ?_); rotate_left; (focus (first | exact (r1) | exact (r2))); (conv => whnf); refine V.st ?_)
  refine ⟨(.take 0 (.take 2 (.ev (.cons 1 [2] (.ev (.cons 3 [] (.ev (.cons 4 [] (.ev (.cons 5 [] (.take 6 (.take 7 (.ev (.cons 8 [] (.take 9 (.done)) (.nil))))) (.nil))) (.nil))) (.nil))) (.nil))))), [], ⟨by kernel_rfl, by kernel_rfl, by kernel_rfl, by kernel_rfl⟩, .go (drawD_one ?_)⟩
  (conv => whnf)
  refine V.st ?_
  repeat ((try ((with_reducible refine .ext ?_); (conv => whnf))); (with_reducible refine call_intro (r := ?_) ?_ ?_); rotate_left; (focus (first | exact (i1) | exact (i2) | exact (o) | exact (w))); (conv => whnf); refine V.st ?_)
  exact Fin.of rfl
theorem rmul (s t u v : List UInt8) (h : okP s t = true) (g : okP u v = true) (hn : Sm 90000000 (qv s t * qv u v).num) (hd : Sm 90000000 ((qv s t * qv u v).den : Int)) : Called Tryz.prog 133 [.agg [.str s, .str t], .agg [.str u, .str v]] (frR (qv s t * qv u v)) := by
  have r1 := right02_c s t (okP_len h).1 (okP_len h).2
  have r2 := right02_c u v (okP_len g).1 (okP_len g).2
  rw [h] at r1
  rw [g] at r2
  have i1 := in02_c s t h
  have i2 := in02_c u v g
  have o := times02_c (qv s t) (qv u v) ((q4_qv h).mono (by omega)) ((q4_qv g).mono (by omega))
  have w := out02_c (qv s t * qv u v) hn hd
  generalize qv s t * qv u v = q at *
  generalize qv s t = q1 at *
  generalize qv u v = q2 at *
  unfold frR at w ⊢
  refine called_of_run tbOk 6 ⟨Tryz.func133, rfl, rfl, Nat.le_of_ble_eq_true rfl⟩ ?_
  (conv => whnf)
  refine V.st ?_
  repeat ((try ((with_reducible refine .ext ?_); (conv => whnf))); (with_reducible refine call_intro (r := ?_) ?_ ?_); rotate_left; (focus (first | exact (r1) | exact (r2))); (conv => whnf); refine V.st ?_)
  refine ⟨(.take 0 (.take 2 (.ev (.cons 1 [2] (.ev (.cons 3 [] (.ev (.cons 4 [] (.ev (.cons 5 [] (.take 6 (.take 7 (.ev (.cons 8 [] (.take 9 (.done)) (.nil))))) (.nil))) (.nil))) (.nil))) (.nil))))), [], ⟨by kernel_rfl, by kernel_rfl, by kernel_rfl, by kernel_rfl⟩, .go (drawD_one ?_)⟩
  (conv => whnf)
  refine V.st ?_
  repeat ((try ((with_reducible refine .ext ?_); (conv => whnf))); (with_reducible refine call_intro (r := ?_) ?_ ?_); rotate_left; (focus (first | exact (i1) | exact (i2) | exact (o) | exact (w))); (conv => whnf); refine V.st ?_)
  exact Fin.of rfl
theorem zradd {a b : Nat} {p q : Rat} (h : Fq a p) (g : Fq b q) (ha : 0 < a) (hb : 0 < b) (hab : a + b + 1 ≤ 600) : Called Tryz.prog 131 [frT p, frT q] (.tup [frT (p + q), .int .i64 0]) := by
  obtain ⟨o1, e1⟩ := okP_dec (h.ok ha (by omega))
  obtain ⟨o2, e2⟩ := okP_dec (g.ok hb (by omega))
  have hs := h.add g
  have hm := sm_fq hs (by omega)
  have c := radd _ _ _ _ o1 o2 (by rw [e1, e2]; exact hm.1) (by rw [e1, e2]; exact hm.2)
  rw [e1, e2, frR_ok (hs.ok (by omega) (by omega))] at c
  exact c
theorem zrmul {a b : Nat} {p q : Rat} (h : Fq a p) (g : Fq b q) (ha : 0 < a) (hb : 0 < b) (hab : a + b + 1 ≤ 600) : Called Tryz.prog 133 [frT p, frT q] (.tup [frT (p * q), .int .i64 0]) := by
  obtain ⟨o1, e1⟩ := okP_dec (h.ok ha (by omega))
  obtain ⟨o2, e2⟩ := okP_dec (g.ok hb (by omega))
  have hs := h.mul g
  have hm := sm_fq hs (by omega)
  have c := rmul _ _ _ _ o1 o2 (by rw [e1, e2]; exact hm.1) (by rw [e1, e2]; exact hm.2)
  rw [e1, e2, frR_ok (hs.ok (by omega) (by omega))] at c
  exact c
theorem dec_one (n : Nat) : (dec n = [48]) ↔ n = 0 := ⟨fun h => by have := rdv_dec n; rw [h] at this; exact this.symm, fun h => by rw [h]; rfl⟩
theorem decZ_zero (z : Int) : decide (decZ z = [48]) = decide (z = 0) := by
  refine decide_eq_decide.2 ⟨fun h => ?_, fun h => by rw [h]; rfl⟩
  have := wval_decZ z
  rw [h] at this
  exact this.symm
theorem rdiv_t {p q : Rat} (hp : okF p = true) (hq : okF q = true) (h0 : q.num ≠ 0) (hn : Sm 90000000 (p / q).num) (hd : Sm 90000000 ((p / q).den : Int)) : Called Tryz.prog 134 [frT p, frT q] (frR (p / q)) := by
  obtain ⟨h, e1⟩ := okP_dec hp
  obtain ⟨g, e2⟩ := okP_dec hq
  have r1 := right02_c _ _ (okP_len h).1 (okP_len h).2
  have r2 := right02_c _ _ (okP_len g).1 (okP_len g).2
  rw [h] at r1
  rw [g] at r2
  have i1 := in02_c _ _ h
  have i2 := in02_c _ _ g
  rw [e1] at i1
  rw [e2] at i2
  have q1 := q4_qv h
  have q2 := q4_qv g
  rw [e1] at q1
  rw [e2] at q2
  have o := over02_c p q (q1.mono (by omega)) (q2.mono (by omega)) h0
  have w := out02_c (p / q) hn hd
  have hz : decide (decZ q.num = [48]) = false := by rw [decZ_zero]; exact decide_eq_false h0
  generalize p / q = r at *
  unfold frR at w ⊢
  unfold frT
  generalize decZ q.num = sq at *
  refine called_of_run tbOk 6 ⟨Tryz.func134, rfl, rfl, Nat.le_of_ble_eq_true rfl⟩ ?_
  (conv => whnf)
  refine V.st ?_
  repeat ((try ((with_reducible refine .ext ?_); (conv => whnf))); (with_reducible refine call_intro (r := ?_) ?_ ?_); rotate_left; (focus (first | exact (r1) | exact (r2))); (conv => whnf); refine V.st ?_)
  refine Cnd.split (CondB.mk (fun hq0 => ?_) (fun hq0 => ?_))
  · exfalso
    simp at hq0
    rw [hq0] at hz
    simp at hz
  (conv => whnf)
  refine V.st ?_
  refine ⟨(.take 0 (.take 2 (.ev (.cons 1 [2] (.ev (.cons 3 [] (.ev (.cons 4 [] (.ev (.cons 5 [] (.take 6 (.take 7 (.ev (.cons 8 [] (.take 9 (.done)) (.nil))))) (.nil))) (.nil))) (.nil))) (.nil))))), [], ⟨by kernel_rfl, by kernel_rfl, by kernel_rfl, by kernel_rfl⟩, .go (drawD_one ?_)⟩
  (conv => whnf)
  refine V.st ?_
  repeat ((try ((with_reducible refine .ext ?_); (conv => whnf))); (with_reducible refine call_intro (r := ?_) ?_ ?_); rotate_left; (focus (first | exact (i1) | exact (i2) | exact (o) | exact (w))); (conv => whnf); refine V.st ?_)
  exact Fin.of rfl
theorem zrdiv {a b : Nat} {p q : Rat} (h : Fq a p) (g : Fq b q) (h0 : q.num ≠ 0) (ha : 0 < a) (hb : 0 < b) (hab : a + b + 1 ≤ 600) : Called Tryz.prog 134 [frT p, frT q] (.tup [frT (p / q), .int .i64 0]) := by
  have hs := h.div g h0
  have hm := sm_fq hs (by omega)
  have c := rdiv_t (h.ok ha (by omega)) (g.ok hb (by omega)) h0 hm.1 hm.2
  rw [frR_ok (hs.ok (by omega) (by omega))] at c
  exact c
end Go.Proofs.YtpcpgjcdkgcbpaaGreatDoor
end
section
namespace Go.Proofs.YtpcpgjcdkgcbpaaGreatDoor
open Go Go.V Go.Nb
theorem y_one : Fq 1 1 := ⟨by decide, by decide⟩
theorem y_zero : Fq 1 0 := ⟨by decide, by decide⟩
theorem y_div1 : Rat.divInt 1 1 = 1 := Rat.divInt_self' (by omega)
theorem y_small {n m : Int} (hn : -9223372036854775807 ≤ n ∧ n ≤ 9223372036854775807) (hm : 1 ≤ m ∧ m ≤ 9223372036854775807) : Fq 20 (Rat.divInt n m) := by
  obtain ⟨d, rfl⟩ : ∃ d : Nat, m = d := ⟨m.toNat, by omega⟩
  exact fq_divInt (by omega) (by omega) (by omega)
theorem y_of {n m : Int} (hn : -9223372036854775807 ≤ n ∧ n ≤ 9223372036854775807) (hm : 1 ≤ m ∧ m ≤ 9223372036854775807) : Called Tryz.prog 48 [.int .i64 n, .int .i64 m] (.tup [frT (Rat.divInt n m), .int .i64 0]) := by
  rw [← frR_ok ((y_small hn hm).ok (by omega) (by omega))]
  exact of_c n m (by simp [InR, V.lo, V.hi]; omega) (by simp [InR, V.lo, V.hi]; omega) (by omega)
theorem y_rof {n m : Int} (hn : -9223372036854775807 ≤ n ∧ n ≤ 9223372036854775807) (hm : 1 ≤ m ∧ m ≤ 9223372036854775807) : Called Tryz.prog 78 [.int .i64 n, .int .i64 m] (.tup [frT (Rat.divInt n m), .int .i64 0]) := by
  rw [← frR_ok ((y_small hn hm).ok (by omega) (by omega))]
  exact of02_c n m (by simp [InR, V.lo, V.hi]; omega) (by simp [InR, V.lo, V.hi]; omega) (by omega)
theorem y_23of {n m : Int} (hn : -9223372036854775807 ≤ n ∧ n ≤ 9223372036854775807) (hm : 1 ≤ m ∧ m ≤ 9223372036854775807) : Called Tryz.prog 33 [.int .i64 n, .int .i64 m] (frT (Rat.divInt n m)) := by
  have c := y_rof hn hm
  unfold frT at *
  generalize Rat.divInt n m = q at *
  refine called_of_run tbOk 6 ⟨Tryz.func33, rfl, rfl, Nat.le_of_ble_eq_true rfl⟩ ?_
  (conv => whnf)
  refine V.st ?_
  repeat ((try ((with_reducible refine .ext ?_); (conv => whnf))); (with_reducible refine call_intro (r := ?_) ?_ ?_); rotate_left; (focus (first | exact (c))); (conv => whnf); refine V.st ?_)
  exact Fin.of rfl
theorem y_ord0 (q : Rat) : ordQ q (Rat.divInt 0 1) = q.num.sign := by
  have h0 : Rat.divInt 0 1 = 0 := by simp
  rw [h0]
  unfold ordQ
  rcases Int.lt_trichotomy q.num 0 with h | h | h
  · have : q < 0 := by
      rw [← Rat.not_le]
      intro hn
      have := Rat.num_nonneg.2 hn
      omega
    rw [if_pos this, Int.sign_eq_neg_one_of_neg h]
  · have : q = 0 := Rat.num_eq_zero.1 h
    rw [if_neg (by rw [this]; exact Rat.lt_irrefl), if_pos this, h]
    rfl
  · have hq : ¬ q < 0 := by
      rw [Rat.not_lt]
      exact Rat.num_nonneg.1 (by omega)
    have hz : ¬ q = 0 := fun e => by
      rw [e] at h
      exact absurd h (by decide)
    rw [if_neg hq, if_neg hz, Int.sign_eq_one_of_pos h]
theorem y_sgn (z : Int) : -1 ≤ z.sign ∧ z.sign ≤ 1 := by
  have := Int.sign_trichotomy z
  omega
theorem y_slt (z : Int) : (z.sign < 0) = (z < 0) := by
  apply propext
  rw [Int.sign_neg_iff]
theorem y_gt (p q : Rat) : decide (ordQ p q > 0) = decide (q < p) := by
  refine decide_eq_decide.2 ?_
  unfold ordQ
  by_cases h : p < q
  · rw [if_pos h]
    exact ⟨fun h' => by omega, fun h' => absurd (Rat.le_of_lt h') (Rat.not_le.2 h)⟩
  · rw [if_neg h]
    by_cases h2 : p = q
    · rw [if_pos h2, h2]
      exact ⟨fun h' => by omega, fun h' => absurd h' Rat.lt_irrefl⟩
    · rw [if_neg h2]
      exact ⟨fun _ => Rat.lt_of_le_of_ne (Rat.not_lt.1 h) (fun e => h2 e.symm), fun _ => by omega⟩
theorem y_sign {q : Rat} (hq : okF q = true) : Called Tryz.prog 66 [frT q] (.tup [.int .i64 q.num.sign, .int .i64 0]) := by
  obtain ⟨h, e1⟩ := okP_dec hq
  have r1 := read_ok _ _ h
  rw [e1] at r1
  have sg := sign_c q.num
  unfold rtD at r1
  unfold itD at sg
  unfold frT
  refine called_of_run tbOk 6 ⟨Tryz.func66, rfl, rfl, Nat.le_of_ble_eq_true rfl⟩ ?_
  (conv => whnf)
  refine V.st ?_
  repeat ((try ((with_reducible refine .ext ?_); (conv => whnf))); (with_reducible refine call_intro (r := ?_) ?_ ?_); rotate_left; (focus (first | exact (r1))); (conv => whnf); refine V.st ?_)
  (conv => whnf)
  refine V.st ?_
  repeat ((try ((with_reducible refine .ext ?_); (conv => whnf))); (with_reducible refine call_intro (r := ?_) ?_ ?_); rotate_left; (focus (first | exact (sg))); (conv => whnf); refine V.st ?_)
  exact Fin.of rfl
end Go.Proofs.YtpcpgjcdkgcbpaaGreatDoor
end
section
namespace Go.Proofs.YtpcpgjcdkgcbpaaGreatDoor
open Go Go.V Go.Nb
theorem stop_ok : Called Tryz.prog 38 [.int .i64 0] (.tup []) := by
  refine called_of_run tbOk 6 ⟨Tryz.func38, rfl, rfl, Nat.le_of_ble_eq_true rfl⟩ ?_
  (conv => whnf)
  (conv => whnf)
  (try simp only [Nat.zero_add])
  repeat ((first | refine V.s1 ?_); (try simp only [Nat.zero_add]))
  exact Fin.of rfl
theorem stop_pan (e : Int) (he : e ≠ 0) : Panics Tryz.prog 38 [.int .i64 e] (.iface 114 (.agg #[.int .i64 e])) := by
  refine panics_of_run tbOk 6 ⟨Tryz.func38, rfl, rfl, Nat.le_of_ble_eq_true rfl⟩ ?_
  (conv => whnf)
  (conv => whnf)
  (try simp only [Nat.zero_add])
  repeat ((first | refine V.s1 ?_); (try simp only [Nat.zero_add]))
  refine Cnd.split (CondB.mk (fun hq => ?_) (fun hq => ?_))
  · (conv => whnf)
    (try simp only [Nat.zero_add])
    repeat ((first | refine V.s1 ?_); (try simp only [Nat.zero_add]))
    done
  · exfalso
    simp at hq
    exact he hq
theorem need_ok (a b : List UInt8) : Called Tryz.prog 47 [.agg [.str a, .str b], .int .i64 0] (.agg [.str a, .str b]) := by
  have c := stop_ok
  refine called_of_run tbOk 6 ⟨Tryz.func47, rfl, rfl, Nat.le_of_ble_eq_true rfl⟩ ?_
  (conv => whnf)
  (conv => whnf)
  (try simp only [Nat.zero_add])
  repeat ((first | refine V.s1 ?_ | ((try ((with_reducible refine .ext ?_); (conv => whnf); (try simp only [Nat.zero_add]))); (with_reducible refine call_intro (r := ?_) ?_ ?_); rotate_left; (focus (first | exact (c))); (conv => whnf))); (try simp only [Nat.zero_add]))
  exact Fin.of rfl
theorem needi_ok (n : Int) (h : InR .i64 n) : Called Tryz.prog 80 [.int .i64 n, .int .i64 0] (.int .i64 n) := by
  have c := stop_ok
  refine called_of_run tbOk 6 ⟨Tryz.func80, rfl, rfl, Nat.le_of_ble_eq_true rfl⟩ ?_
  (conv => whnf)
  (conv => whnf)
  (try simp only [Nat.zero_add])
  repeat ((first | refine V.s1 ?_ | ((try ((with_reducible refine .ext ?_); (conv => whnf); (try simp only [Nat.zero_add]))); (with_reducible refine call_intro (r := ?_) ?_ ?_); rotate_left; (focus (first | exact (c))); (conv => whnf))); (try simp only [Nat.zero_add]))
  exact Fin.of rfl
theorem outside_t (a b c d : List UInt8) (m g w : Int) (hg : InR .i64 g) (hw : InR .i64 w) (s : Called Tryz.prog 66 [.agg [.str a, .str b]] (.tup [.int .i64 g, .int .i64 0])) (o : Called Tryz.prog 48 [.int .i64 m, .int .i64 1] (.tup [.agg [.str c, .str d], .int .i64 0]))
    (cm : Called Tryz.prog 25 [.agg [.str a, .str b], .agg [.str c, .str d]] (.tup [.int .i64 w, .int .i64 0])) : Called Tryz.prog 37 [.agg [.str a, .str b], .int .i64 m] (.bool (decide (g < 0) || decide (w > 0))) := by
  have n1 := needi_ok g hg
  have n2 := need_ok c d
  have n3 := needi_ok w hw
  refine called_of_run tbOk 6 ⟨Tryz.func37, rfl, rfl, Nat.le_of_ble_eq_true rfl⟩ ?_
  (conv => whnf)
  (conv => whnf)
  (try simp only [Nat.zero_add])
  repeat ((first | refine V.s1 ?_); (try simp only [Nat.zero_add]))
  refine ⟨(.take 0 (.ev (.cons 1 [] (.take 2 (.take 3 (.ev (.cons 4 [] (.take 5 (.take 6 (.take 7 (.take 8 (.ev (.cons 9 [7] (.take 10 (.take 11 (.ev (.cons 12 [7] (.ev (.cons 13 [] (.take 14 (.take 15 (.ev (.cons 16 [] (.take 17 (.take 18 (.take 19 (.done)))) (.nil))))) (.nil))) (.nil))))) (.nil))))))) (.nil))))) (.nil)))), [], ⟨by kernel_rfl, by kernel_rfl, by kernel_rfl, by kernel_rfl⟩, ?_⟩
  refine drw_meet [(4, .bool (decide (g < 0) || decide (w > 0)))] [] ?_ ?_
  · (conv => whnf); (try simp only [Nat.zero_add])
    repeat' (first | exact V.wk | ((with_reducible refine And.intro ?_ draw_nil); (conv => whnf); (try simp only [Nat.zero_add])) | ((with_reducible first | refine draw_split ?_ ?_ | refine nds_split ?_ ?_) <;> (conv => whnf); (try simp only [Nat.zero_add])) | ((first | refine V.s1 ?_ | ((with_reducible refine recheck_and ?_ ?_); (focus ((conv => whnf); (try simp only [Nat.zero_add]); (repeat ((first | refine V.s1 ?_); (try simp only [Nat.zero_add]))); exact ⟨rfl⟩)); (conv => whnf)) | ((try ((with_reducible refine .ext ?_); (conv => whnf); (try simp only [Nat.zero_add]))); (with_reducible refine call_intro (r := ?_) ?_ ?_); rotate_left; (focus (first | exact (s) | exact (o) | exact (cm) | exact (n1) | exact (n2) | exact (n3))); (conv => whnf))); (try simp only [Nat.zero_add])) | (refine And.intro ?_ ?_ <;> (conv => whnf); (try simp only [Nat.zero_add])))
  (conv => whnf)
  (try simp only [Nat.zero_add])
  repeat ((first | refine V.s1 ?_); (try simp only [Nat.zero_add]))
  exact Fin.of rfl
theorem outside_c {n : Nat} {x : Tx} {m : Int} (hx : okX x = true) (b : BdX n x) (h0 : 0 < n ∧ n ≤ 600) (hm : 1 ≤ m ∧ m ≤ 2) : Called Tryz.prog 37 [.agg [.str x.1, .str x.2], .int .i64 m] (.bool (outX x (Rat.divInt m 1))) := by
  have q := b.2 hx
  have e := txD_q hx
  unfold txD at e
  have s := y_sign (q.ok h0.1 h0.2)
  have o := y_of (n := m) (m := 1) (by omega) (by omega)
  have fm : Fq 5 (Rat.divInt m 1) := by
    have := fq_divInt (n := 5) (x := m) (d := 1) (by omega) (by omega) (by decide)
    exact this
  have c := zcmp q fm h0 (by omega)
  have bs := y_sgn (qX x).num
  have bw : -1 ≤ ordQ (qX x) (Rat.divInt m 1) ∧ ordQ (qX x) (Rat.divInt m 1) ≤ 1 := by
    unfold ordQ
    split
    · omega
    · split <;> omega
  have hsn : decide ((qX x).num.sign < 0) = decide ((qX x).num < 0) := decide_eq_decide.2 (by rw [y_slt])
  unfold outX
  rw [← y_gt, ← hsn]
  rw [← e] at s c
  unfold frT at o c
  exact outside_t _ _ _ _ m _ _ (by simp [InR, V.lo, V.hi]; omega) (by simp [InR, V.lo, V.hi]; omega) s o c
theorem flat_c (x : Tx) : Called Tryz.prog 41 [.agg [.str x.1, .str x.2]] (.agg (spL fun _ => x)) := by
  refine called_of_run tbOk 6 ⟨Tryz.func41, rfl, rfl, Nat.le_of_ble_eq_true rfl⟩ ?_
  (conv => whnf)
  (conv => whnf)
  (try simp only [Nat.zero_add])
  repeat ((first | refine V.s1 ?_); (try simp only [Nat.zero_add]))
  refine lp_any (0) (fun k => k ≤ 16) (fun k => 16 - k) (fun k => [(5, .int .i64 k)]) (fun k => [(3, .box (spL (pref (fun _ => x) noX k)))]) ?_ ?_ ?_
  · exact V.wk
  · exact Nat.zero_le _
  intro k hk
  (conv => whnf)
  (try simp only [Nat.zero_add])
  repeat ((first | refine V.s1 ?_); (try simp only [Nat.zero_add]))
  refine Cnd.split (CondB.mk (fun hq => ?_) (fun hq => ?_))
  · have hk2 : k < 16 := by simp at hq; omega
    (conv => whnf)
    (try simp only [Nat.zero_add, Int.toNat_natCast])
    repeat ((first | refine V.s1 ?_); (try simp only [Nat.zero_add, Int.toNat_natCast]))
    refine sp_push (g := fun _ => x) hk2 ?_
    (conv => whnf)
    (try simp only [Nat.zero_add])
    repeat ((first | refine V.s1 ?_); (try simp only [Nat.zero_add]))
    exact ⟨(k + 1), by omega, by omega, V.wk⟩
  · have hk2 : k = 16 := by simp at hq; omega
    subst hk2
    (conv => whnf)
    (try simp only [Nat.zero_add])
    repeat ((first | refine V.s1 ?_); (try simp only [Nat.zero_add]))
    exact Fin.of rfl
end Go.Proofs.YtpcpgjcdkgcbpaaGreatDoor
end
