/- What some functions of the program answer at values that mean given lists and numbers, each proved of the program's own code. Conditions: those that each theorem names. -/
import Derived.Test.YtfhmfpneiagakaaT11
set_option linter.unusedSimpArgs false
set_option linter.unusedVariables false
set_option maxHeartbeats 8000000
set_option maxRecDepth 100000
namespace Go.Proofs.Ytfhmfpneiagakaa
open Go Go.V Go.Gr
theorem rrange_c (size : List Int) (out : Int) (data : List Int) (hs : size.length ≤ 281474976710656) (hd : data.length ≤ 281474976710656) :
    Called Try.prog 29 [gridD size out data] (.tup [.ints .i64 (if okGrid size out data then rl (fun a b => decide (a < b)) data out.toNat data.length else []), .ints .i64 (if okGrid size out data then rl (fun a b => decide (a > b)) data out.toNat data.length else []), .int .i64 (if okGrid size out data then 0 else 100)]) := by
  refine called_of_run tbOk 6 ⟨Try.func29, rfl, rfl, Nat.le_of_ble_eq_true rfl⟩ ?_
  (conv => whnf)
  refine st ?_
  repeat ((try ((with_reducible refine .ext ?_); (conv => whnf))); (with_reducible refine call_intro (r := ?_) ?_ ?_); rotate_left; (focus (first | exact (right_c _ _ _ hs hd))); (conv => whnf); refine st ?_)
  refine Cnd.split (CondB.mk (fun hg => ?_) (fun hg => ?_))
  · have hg : okGrid size out data = false := by simpa using hg
    (conv => whnf)
    refine st ?_
    rw [hg]
    exact Fin.tup ⟨Fin.nil _, Fin.nil _, Fin.of rfl, trivial⟩
  have hg : okGrid size out data = true := by simpa using hg
  have hG := okGrid_iff hg
  obtain ⟨w, rfl⟩ : ∃ w : Nat, out = w := ⟨out.toNat, by omega⟩
  obtain ⟨ns, hn0, hn1, hn2⟩ := nz_of hG.2.2.2.2.1
  have hprod : prod size = (PR ns : Nat) := by rw [hn0, prod_nz]
  have hPP : 0 < PR ns := PR_pos (fun n hn => by have := hn2 n hn; omega)
  have hdl : data.length = PR ns * w := by
    have := hG.2.2.2.2.2.2.1
    rw [hprod, ← Int.natCast_mul] at this
    omega
  have hwl : w ≤ data.length := by rw [hdl]; exact Nat.le_mul_of_pos_left _ hPP
  have htk : List.take w data = slot data 0 w := by simp [slot]
  have hs0 : (slot data 0 w).length = w := by simp [slot]; omega
  (conv => whnf)
  (try simp only [Int.toNat_natCast, htk])
  repeat (first | (refine s1 ?_; (try simp only [Int.toNat_natCast, htk])))
  refine And.intro (fun _ => ⟨by simp, by omega⟩) ?_
  (conv => whnf)
  (try simp only [Int.toNat_natCast, htk, List.nil_append, Nat.zero_add, hs0])
  repeat (first | (refine s1 ?_; (try simp only [Int.toNat_natCast, htk, List.nil_append, Nat.zero_add, hs0])))
  refine And.intro (fun _ => ⟨by simp, by omega⟩) ?_
  (conv => whnf)
  (try simp only [Int.toNat_natCast, htk, List.nil_append, Nat.zero_add, hs0])
  repeat (first | (refine s1 ?_; (try simp only [Int.toNat_natCast, htk, List.nil_append, Nat.zero_add, hs0])))
  refine lp_any (0) (fun k => k ≤ data.length) (fun k => data.length - k) (fun k => [(7, .int .i64 k)]) (fun k => [(18, .arr .i64 (rl (fun a b => decide (a < b)) data w k)), (25, .arr .i64 (rl (fun a b => decide (a > b)) data w k))]) ?_ ?_ ?_
  · exact wk
  · exact Nat.zero_le _
  intro i hi
  have hl1 := rl_length (lt := fun a b => decide (a < b)) hwl i
  have hl2 := rl_length (lt := fun a b => decide (a > b)) hwl i
  (conv => whnf)
  refine st ?_
  refine Cnd.split (CondB.mk (fun hq => ?_) (fun hq => ?_))
  · rw [decide_eq_true_eq] at hq
    have hm : (i : Int) % (w : Int) = ((i % w : Nat) : Int) := by simp
    have hmw : i % w < w := Nat.mod_lt _ (by omega)
    have e1 : min ((rl (fun a b => decide (a < b)) data w i).getD (i % w) 0) (data.getD i 0) = (if (fun a b : Int => decide (a < b)) (data.getD i 0) ((rl (fun a b => decide (a < b)) data w i).getD (i % w) 0) then data.getD i 0 else (rl (fun a b => decide (a < b)) data w i).getD (i % w) 0) := by
      simp only [decide_eq_true_eq]; omega
    have e2 : max ((rl (fun a b => decide (a > b)) data w i).getD (i % w) 0) (data.getD i 0) = (if (fun a b : Int => decide (a > b)) (data.getD i 0) ((rl (fun a b => decide (a > b)) data w i).getD (i % w) 0) then data.getD i 0 else (rl (fun a b => decide (a > b)) data w i).getD (i % w) 0) := by
      simp only [decide_eq_true_eq]; omega
    have e3 : (rl (fun a b => decide (a < b)) data w i).set (i % w) (min ((rl (fun a b => decide (a < b)) data w i).getD (i % w) 0) (data.getD i 0)) = rl (fun a b => decide (a < b)) data w (i + 1) := by rw [e1]; rfl
    have e4 : (rl (fun a b => decide (a > b)) data w i).set (i % w) (max ((rl (fun a b => decide (a > b)) data w i).getD (i % w) 0) (data.getD i 0)) = rl (fun a b => decide (a > b)) data w (i + 1) := by rw [e2]; rfl
    generalize hrl1 : rl (fun a b => decide (a < b)) data w i = r1 at *
    generalize hrl2 : rl (fun a b => decide (a > b)) data w i = r2 at *
    generalize i % w = j at *
    (conv => whnf)
    (try simp only [hm, Int.toNat_natCast, Nat.zero_add])
    repeat (first | (refine s1 ?_; (try simp only [hm, Int.toNat_natCast, Nat.zero_add])))
    refine ⟨(.take 0 (.take 1 (.take 2 (.take 3 (.take 4 (.take 5 (.take 6 (.take 7 (.take 8 (.take 9 (.take 10 (.take 11 (.take 12 (.ev (.cons 13 [] (.done) (.nil)))))))))))))))), ⟨by kernel_rfl, by kernel_rfl, by kernel_rfl⟩, .go ?_⟩
    (conv => whnf)
    (try simp only [hm, Int.toNat_natCast, Nat.zero_add, e3])
    repeat (first | (refine s1 ?_; (try simp only [hm, Int.toNat_natCast, Nat.zero_add, e3])))
    refine ⟨(.take 0 (.take 1 (.take 2 (.take 3 (.take 4 (.take 5 (.take 6 (.take 7 (.take 8 (.take 9 (.take 10 (.take 11 (.take 12 (.ev (.cons 13 [] (.done) (.nil)))))))))))))))), ⟨by kernel_rfl, by kernel_rfl, by kernel_rfl⟩, .go ?_⟩
    (conv => whnf)
    (try simp only [hm, Int.toNat_natCast, Nat.zero_add, e4])
    repeat (first | (refine s1 ?_; (try simp only [hm, Int.toNat_natCast, Nat.zero_add, e4])))
    exact ⟨i + 1, by omega, by omega, wk⟩
  · rw [decide_eq_false_iff_not] at hq
    have hi1 : i = data.length := by omega
    subst hi1
    (conv => whnf)
    refine st ?_
    rw [hg, List.take_of_length_le (by omega), List.take_of_length_le (by omega)]
    exact Fin.of rfl
end Go.Proofs.Ytfhmfpneiagakaa
