/- What some functions of the program answer at values that mean given lists, texts and numbers, each proved of the program's own code: part 5 of 7. Conditions: those that each theorem names. -/
import Derived.Test.YtoiaoofgnnhocaaGreatDoorG4
import Derived.Test.YtoiaoofgnnhocaaGreatDoorG2
import Derived.Lib.BitFns
import Derived.Laws.Bits64b
set_option linter.unusedSimpArgs false
set_option linter.unusedVariables false
section
/-! bands: spread -/
set_option linter.unusedSimpArgs false
set_option linter.unusedVariables false
set_option maxHeartbeats 8000000
set_option maxRecDepth 100000
namespace Go.Proofs.YtoiaoofgnnhocaaGreatDoor
open Go Go.V Go.Nb
/-- what has been filled in of four cells -/
def lw (a b c d : Int) : Nat → List Int
  | 0 => [0, 0, 0, 0]
  | 1 => [a, 0, 0, 0]
  | 2 => [a, b, 0, 0]
  | 3 => [a, b, c, 0]
  | _ => [a, b, c, d]
def nth2 {α : Type} (x y : α) : Nat → α
  | 0 => x
  | _ => y
theorem spread_0 (p q p2 q2 : Int) (g : Nat)  (ev : Int → Int → Bool → Int) (okk : Int → Int → Bool → Bool)
    (hg : ∀ x y u, (x = p ∨ x = q) → (y = p2 ∨ y = q2) → Called Tryz.prog g ([.int .i64 x, .int .i64 y, .bool u] ++ []) (.tup [.int .i64 (ev x y u), .bool (okk x y u)])) :
    Called Tryz.prog 48 [bA p q, bA p2 q2, .fn g [] []] (bD (if (okk p p2 false && okk p p2 true && okk p q2 false && okk p q2 true && okk q p2 false && okk q p2 true && okk q q2 false && okk q q2 true) = true then mk (min (min (min (ev p p2 false) (ev p q2 false)) (ev q p2 false)) (ev q q2 false)) (max (max (max (ev p p2 true) (ev p q2 true)) (ev q p2 true)) (ev q q2 true)) else (0, 0, 6))) := by
  refine called_of_run tbOk 6 ⟨Tryz.func48, rfl, rfl, Nat.le_of_ble_eq_true rfl⟩ ?_
  (conv => whnf)
  refine V.st ?_
  refine lp_exit (β := Bool × List Int × List Int) 0 (fun y => (y.1 = true → (okk p p2 false && okk p p2 true && okk p q2 false && okk p q2 true && okk q p2 false && okk q p2 true && okk q q2 false && okk q q2 true) = true ∧ y.2.1 = lw (ev p p2 false) (ev p q2 false) (ev q p2 false) (ev q q2 false) 4 ∧ y.2.2 = lw (ev p p2 true) (ev p q2 true) (ev q p2 true) (ev q q2 true) 4) ∧ (y.1 = false → (okk p p2 false && okk p p2 true && okk p q2 false && okk p q2 true && okk q p2 false && okk q p2 true && okk q q2 false && okk q q2 true) = false))
    (fun y => [(10, .bool y.1), (24, .any)]) (fun y => [(8, .arr .i64 y.2.1), (9, .arr .i64 y.2.2)]) ?_ ?_
  · refine lp_any (0 : Nat) (fun i => i ≤ 2 ∧ (1 ≤ i → okk p p2 false = true ∧ okk p p2 true = true ∧ okk p q2 false = true ∧ okk p q2 true = true) ∧ (2 ≤ i → okk q p2 false = true ∧ okk q p2 true = true ∧ okk q q2 false = true ∧ okk q q2 true = true)) (fun i => 2 - i)
      (fun i => [(24, .int .i64 i)]) (fun i => [(8, .arr .i64 (lw (ev p p2 false) (ev p q2 false) (ev q p2 false) (ev q q2 false) (2 * i))), (9, .arr .i64 (lw (ev p p2 true) (ev p q2 true) (ev q p2 true) (ev q q2 true) (2 * i)))]) ?_ ?_ ?_
    · exact V.wk
    · exact ⟨by omega, fun h => by omega, fun h => by omega⟩
    intro i hi
    rcases (by omega : i = 0 ∨ i = 1 ∨ i = 2) with e | e | e
    · subst e
      (conv => whnf)
      refine V.st ?_
      refine lp_any (0 : Nat) (fun j => j ≤ 2 ∧ (1 ≤ j → okk p p2 false = true ∧ okk p p2 true = true) ∧ (2 ≤ j → okk p q2 false = true ∧ okk p q2 true = true)) (fun j => 2 - j)
        (fun j => [(33, .int .i64 j)]) (fun j => [(8, .arr .i64 (lw (ev p p2 false) (ev p q2 false) (ev q p2 false) (ev q q2 false) (0 + j))), (9, .arr .i64 (lw (ev p p2 true) (ev p q2 true) (ev q p2 true) (ev q q2 true) (0 + j)))]) ?_ ?_ ?_
      · exact V.wk
      · exact ⟨by omega, fun h => by omega, fun h => by omega⟩
      intro j hj
      rcases (by omega : j = 0 ∨ j = 1 ∨ j = 2) with e | e | e
      · subst e
        have k1 := hg p p2 false (by simp) (by simp)
        have k2 := hg p p2 true (by simp) (by simp)
        obtain ⟨b1, h1⟩ : ∃ b, okk p p2 false = b := ⟨_, rfl⟩
        obtain ⟨b2, h2⟩ : ∃ b, okk p p2 true = b := ⟨_, rfl⟩
        rw [h1] at k1
        rw [h2] at k2
        cases b1 <;> cases b2
        · (conv => whnf)
          (try simp only [Nat.zero_add, Nat.mul_zero, Nat.mul_one, lw, Int.natCast_zero, Int.natCast_one, Int.reduceMul, Int.reduceAdd, Int.reduceToNat, Nat.reduceMul, Nat.reduceAdd, Int.mul_zero, Int.mul_one, Int.add_zero, Int.zero_add, Int.toNat_zero, Int.toNat_one, List.set_cons_zero, List.set_cons_succ, List.length_cons, List.length_nil])
          repeat (first | (refine V.s1 ?_; (try simp only [Nat.zero_add, Nat.mul_zero, Nat.mul_one, lw, Int.natCast_zero, Int.natCast_one, Int.reduceMul, Int.reduceAdd, Int.reduceToNat, Nat.reduceMul, Nat.reduceAdd, Int.mul_zero, Int.mul_one, Int.add_zero, Int.zero_add, Int.toNat_zero, Int.toNat_one, List.set_cons_zero, List.set_cons_succ, List.length_cons, List.length_nil])) | ((with_reducible refine recheck_and ?_ ?_); (focus ((conv => whnf); (try simp only [Nat.zero_add, Nat.mul_zero, Nat.mul_one, lw, Int.natCast_zero, Int.natCast_one, Int.reduceMul, Int.reduceAdd, Int.reduceToNat, Nat.reduceMul, Nat.reduceAdd, Int.mul_zero, Int.mul_one, Int.add_zero, Int.zero_add, Int.toNat_zero, Int.toNat_one, List.set_cons_zero, List.set_cons_succ, List.length_cons, List.length_nil]); (repeat (refine V.s1 ?_; (try simp only [Nat.zero_add, Nat.mul_zero, Nat.mul_one, lw, Int.natCast_zero, Int.natCast_one, Int.reduceMul, Int.reduceAdd, Int.reduceToNat, Nat.reduceMul, Nat.reduceAdd, Int.mul_zero, Int.mul_one, Int.add_zero, Int.zero_add, Int.toNat_zero, Int.toNat_one, List.set_cons_zero, List.set_cons_succ, List.length_cons, List.length_nil]))); exact ⟨rfl⟩)); (conv => whnf); (try simp only [Nat.zero_add, Nat.mul_zero, Nat.mul_one, lw, Int.natCast_zero, Int.natCast_one, Int.reduceMul, Int.reduceAdd, Int.reduceToNat, Nat.reduceMul, Nat.reduceAdd, Int.mul_zero, Int.mul_one, Int.add_zero, Int.zero_add, Int.toNat_zero, Int.toNat_one, List.set_cons_zero, List.set_cons_succ, List.length_cons, List.length_nil])) | ((try ((with_reducible refine .ext ?_); (conv => whnf); (try simp only [Nat.zero_add, Nat.mul_zero, Nat.mul_one, lw, Int.natCast_zero, Int.natCast_one, Int.reduceMul, Int.reduceAdd, Int.reduceToNat, Nat.reduceMul, Nat.reduceAdd, Int.mul_zero, Int.mul_one, Int.add_zero, Int.zero_add, Int.toNat_zero, Int.toNat_one, List.set_cons_zero, List.set_cons_succ, List.length_cons, List.length_nil]))); (with_reducible refine call_intro (r := ?_) ?_ ?_); rotate_left; (focus (first | exact (k1) | exact (k2))); (conv => whnf); (try simp only [Nat.zero_add, Nat.mul_zero, Nat.mul_one, lw, Int.natCast_zero, Int.natCast_one, Int.reduceMul, Int.reduceAdd, Int.reduceToNat, Nat.reduceMul, Nat.reduceAdd, Int.mul_zero, Int.mul_one, Int.add_zero, Int.zero_add, Int.toNat_zero, Int.toNat_one, List.set_cons_zero, List.set_cons_succ, List.length_cons, List.length_nil])))
          exact ⟨(false, lw (ev p p2 false) (ev p q2 false) (ev q p2 false) (ev q q2 false) 0, lw (ev p p2 true) (ev p q2 true) (ev q p2 true) (ev q q2 true) 0), ⟨fun h => (by cases h), fun _ => (by simp [h1, h2])⟩, V.wk⟩
        · (conv => whnf)
          (try simp only [Nat.zero_add, Nat.mul_zero, Nat.mul_one, lw, Int.natCast_zero, Int.natCast_one, Int.reduceMul, Int.reduceAdd, Int.reduceToNat, Nat.reduceMul, Nat.reduceAdd, Int.mul_zero, Int.mul_one, Int.add_zero, Int.zero_add, Int.toNat_zero, Int.toNat_one, List.set_cons_zero, List.set_cons_succ, List.length_cons, List.length_nil])
          repeat (first | (refine V.s1 ?_; (try simp only [Nat.zero_add, Nat.mul_zero, Nat.mul_one, lw, Int.natCast_zero, Int.natCast_one, Int.reduceMul, Int.reduceAdd, Int.reduceToNat, Nat.reduceMul, Nat.reduceAdd, Int.mul_zero, Int.mul_one, Int.add_zero, Int.zero_add, Int.toNat_zero, Int.toNat_one, List.set_cons_zero, List.set_cons_succ, List.length_cons, List.length_nil])) | ((with_reducible refine recheck_and ?_ ?_); (focus ((conv => whnf); (try simp only [Nat.zero_add, Nat.mul_zero, Nat.mul_one, lw, Int.natCast_zero, Int.natCast_one, Int.reduceMul, Int.reduceAdd, Int.reduceToNat, Nat.reduceMul, Nat.reduceAdd, Int.mul_zero, Int.mul_one, Int.add_zero, Int.zero_add, Int.toNat_zero, Int.toNat_one, List.set_cons_zero, List.set_cons_succ, List.length_cons, List.length_nil]); (repeat (refine V.s1 ?_; (try simp only [Nat.zero_add, Nat.mul_zero, Nat.mul_one, lw, Int.natCast_zero, Int.natCast_one, Int.reduceMul, Int.reduceAdd, Int.reduceToNat, Nat.reduceMul, Nat.reduceAdd, Int.mul_zero, Int.mul_one, Int.add_zero, Int.zero_add, Int.toNat_zero, Int.toNat_one, List.set_cons_zero, List.set_cons_succ, List.length_cons, List.length_nil]))); exact ⟨rfl⟩)); (conv => whnf); (try simp only [Nat.zero_add, Nat.mul_zero, Nat.mul_one, lw, Int.natCast_zero, Int.natCast_one, Int.reduceMul, Int.reduceAdd, Int.reduceToNat, Nat.reduceMul, Nat.reduceAdd, Int.mul_zero, Int.mul_one, Int.add_zero, Int.zero_add, Int.toNat_zero, Int.toNat_one, List.set_cons_zero, List.set_cons_succ, List.length_cons, List.length_nil])) | ((try ((with_reducible refine .ext ?_); (conv => whnf); (try simp only [Nat.zero_add, Nat.mul_zero, Nat.mul_one, lw, Int.natCast_zero, Int.natCast_one, Int.reduceMul, Int.reduceAdd, Int.reduceToNat, Nat.reduceMul, Nat.reduceAdd, Int.mul_zero, Int.mul_one, Int.add_zero, Int.zero_add, Int.toNat_zero, Int.toNat_one, List.set_cons_zero, List.set_cons_succ, List.length_cons, List.length_nil]))); (with_reducible refine call_intro (r := ?_) ?_ ?_); rotate_left; (focus (first | exact (k1) | exact (k2))); (conv => whnf); (try simp only [Nat.zero_add, Nat.mul_zero, Nat.mul_one, lw, Int.natCast_zero, Int.natCast_one, Int.reduceMul, Int.reduceAdd, Int.reduceToNat, Nat.reduceMul, Nat.reduceAdd, Int.mul_zero, Int.mul_one, Int.add_zero, Int.zero_add, Int.toNat_zero, Int.toNat_one, List.set_cons_zero, List.set_cons_succ, List.length_cons, List.length_nil])))
          exact ⟨(false, lw (ev p p2 false) (ev p q2 false) (ev q p2 false) (ev q q2 false) 0, lw (ev p p2 true) (ev p q2 true) (ev q p2 true) (ev q q2 true) 0), ⟨fun h => (by cases h), fun _ => (by simp [h1, h2])⟩, V.wk⟩
        · (conv => whnf)
          (try simp only [Nat.zero_add, Nat.mul_zero, Nat.mul_one, lw, Int.natCast_zero, Int.natCast_one, Int.reduceMul, Int.reduceAdd, Int.reduceToNat, Nat.reduceMul, Nat.reduceAdd, Int.mul_zero, Int.mul_one, Int.add_zero, Int.zero_add, Int.toNat_zero, Int.toNat_one, List.set_cons_zero, List.set_cons_succ, List.length_cons, List.length_nil])
          repeat (first | (refine V.s1 ?_; (try simp only [Nat.zero_add, Nat.mul_zero, Nat.mul_one, lw, Int.natCast_zero, Int.natCast_one, Int.reduceMul, Int.reduceAdd, Int.reduceToNat, Nat.reduceMul, Nat.reduceAdd, Int.mul_zero, Int.mul_one, Int.add_zero, Int.zero_add, Int.toNat_zero, Int.toNat_one, List.set_cons_zero, List.set_cons_succ, List.length_cons, List.length_nil])) | ((with_reducible refine recheck_and ?_ ?_); (focus ((conv => whnf); (try simp only [Nat.zero_add, Nat.mul_zero, Nat.mul_one, lw, Int.natCast_zero, Int.natCast_one, Int.reduceMul, Int.reduceAdd, Int.reduceToNat, Nat.reduceMul, Nat.reduceAdd, Int.mul_zero, Int.mul_one, Int.add_zero, Int.zero_add, Int.toNat_zero, Int.toNat_one, List.set_cons_zero, List.set_cons_succ, List.length_cons, List.length_nil]); (repeat (refine V.s1 ?_; (try simp only [Nat.zero_add, Nat.mul_zero, Nat.mul_one, lw, Int.natCast_zero, Int.natCast_one, Int.reduceMul, Int.reduceAdd, Int.reduceToNat, Nat.reduceMul, Nat.reduceAdd, Int.mul_zero, Int.mul_one, Int.add_zero, Int.zero_add, Int.toNat_zero, Int.toNat_one, List.set_cons_zero, List.set_cons_succ, List.length_cons, List.length_nil]))); exact ⟨rfl⟩)); (conv => whnf); (try simp only [Nat.zero_add, Nat.mul_zero, Nat.mul_one, lw, Int.natCast_zero, Int.natCast_one, Int.reduceMul, Int.reduceAdd, Int.reduceToNat, Nat.reduceMul, Nat.reduceAdd, Int.mul_zero, Int.mul_one, Int.add_zero, Int.zero_add, Int.toNat_zero, Int.toNat_one, List.set_cons_zero, List.set_cons_succ, List.length_cons, List.length_nil])) | ((try ((with_reducible refine .ext ?_); (conv => whnf); (try simp only [Nat.zero_add, Nat.mul_zero, Nat.mul_one, lw, Int.natCast_zero, Int.natCast_one, Int.reduceMul, Int.reduceAdd, Int.reduceToNat, Nat.reduceMul, Nat.reduceAdd, Int.mul_zero, Int.mul_one, Int.add_zero, Int.zero_add, Int.toNat_zero, Int.toNat_one, List.set_cons_zero, List.set_cons_succ, List.length_cons, List.length_nil]))); (with_reducible refine call_intro (r := ?_) ?_ ?_); rotate_left; (focus (first | exact (k1) | exact (k2))); (conv => whnf); (try simp only [Nat.zero_add, Nat.mul_zero, Nat.mul_one, lw, Int.natCast_zero, Int.natCast_one, Int.reduceMul, Int.reduceAdd, Int.reduceToNat, Nat.reduceMul, Nat.reduceAdd, Int.mul_zero, Int.mul_one, Int.add_zero, Int.zero_add, Int.toNat_zero, Int.toNat_one, List.set_cons_zero, List.set_cons_succ, List.length_cons, List.length_nil])))
          exact ⟨(false, lw (ev p p2 false) (ev p q2 false) (ev q p2 false) (ev q q2 false) 0, lw (ev p p2 true) (ev p q2 true) (ev q p2 true) (ev q q2 true) 0), ⟨fun h => (by cases h), fun _ => (by simp [h1, h2])⟩, V.wk⟩
        · (conv => whnf)
          (try simp only [Nat.zero_add, Nat.mul_zero, Nat.mul_one, lw, Int.natCast_zero, Int.natCast_one, Int.reduceMul, Int.reduceAdd, Int.reduceToNat, Nat.reduceMul, Nat.reduceAdd, Int.mul_zero, Int.mul_one, Int.add_zero, Int.zero_add, Int.toNat_zero, Int.toNat_one, List.set_cons_zero, List.set_cons_succ, List.length_cons, List.length_nil])
          repeat (first | (refine V.s1 ?_; (try simp only [Nat.zero_add, Nat.mul_zero, Nat.mul_one, lw, Int.natCast_zero, Int.natCast_one, Int.reduceMul, Int.reduceAdd, Int.reduceToNat, Nat.reduceMul, Nat.reduceAdd, Int.mul_zero, Int.mul_one, Int.add_zero, Int.zero_add, Int.toNat_zero, Int.toNat_one, List.set_cons_zero, List.set_cons_succ, List.length_cons, List.length_nil])) | ((with_reducible refine recheck_and ?_ ?_); (focus ((conv => whnf); (try simp only [Nat.zero_add, Nat.mul_zero, Nat.mul_one, lw, Int.natCast_zero, Int.natCast_one, Int.reduceMul, Int.reduceAdd, Int.reduceToNat, Nat.reduceMul, Nat.reduceAdd, Int.mul_zero, Int.mul_one, Int.add_zero, Int.zero_add, Int.toNat_zero, Int.toNat_one, List.set_cons_zero, List.set_cons_succ, List.length_cons, List.length_nil]); (repeat (refine V.s1 ?_; (try simp only [Nat.zero_add, Nat.mul_zero, Nat.mul_one, lw, Int.natCast_zero, Int.natCast_one, Int.reduceMul, Int.reduceAdd, Int.reduceToNat, Nat.reduceMul, Nat.reduceAdd, Int.mul_zero, Int.mul_one, Int.add_zero, Int.zero_add, Int.toNat_zero, Int.toNat_one, List.set_cons_zero, List.set_cons_succ, List.length_cons, List.length_nil]))); exact ⟨rfl⟩)); (conv => whnf); (try simp only [Nat.zero_add, Nat.mul_zero, Nat.mul_one, lw, Int.natCast_zero, Int.natCast_one, Int.reduceMul, Int.reduceAdd, Int.reduceToNat, Nat.reduceMul, Nat.reduceAdd, Int.mul_zero, Int.mul_one, Int.add_zero, Int.zero_add, Int.toNat_zero, Int.toNat_one, List.set_cons_zero, List.set_cons_succ, List.length_cons, List.length_nil])) | ((try ((with_reducible refine .ext ?_); (conv => whnf); (try simp only [Nat.zero_add, Nat.mul_zero, Nat.mul_one, lw, Int.natCast_zero, Int.natCast_one, Int.reduceMul, Int.reduceAdd, Int.reduceToNat, Nat.reduceMul, Nat.reduceAdd, Int.mul_zero, Int.mul_one, Int.add_zero, Int.zero_add, Int.toNat_zero, Int.toNat_one, List.set_cons_zero, List.set_cons_succ, List.length_cons, List.length_nil]))); (with_reducible refine call_intro (r := ?_) ?_ ?_); rotate_left; (focus (first | exact (k1) | exact (k2))); (conv => whnf); (try simp only [Nat.zero_add, Nat.mul_zero, Nat.mul_one, lw, Int.natCast_zero, Int.natCast_one, Int.reduceMul, Int.reduceAdd, Int.reduceToNat, Nat.reduceMul, Nat.reduceAdd, Int.mul_zero, Int.mul_one, Int.add_zero, Int.zero_add, Int.toNat_zero, Int.toNat_one, List.set_cons_zero, List.set_cons_succ, List.length_cons, List.length_nil])))
          exact ⟨1, ⟨by omega, fun _ => ⟨h1, h2⟩, fun _ => by omega⟩, by omega, V.wk⟩
      · subst e
        have k1 := hg p q2 false (by simp) (by simp)
        have k2 := hg p q2 true (by simp) (by simp)
        obtain ⟨b1, h1⟩ : ∃ b, okk p q2 false = b := ⟨_, rfl⟩
        obtain ⟨b2, h2⟩ : ∃ b, okk p q2 true = b := ⟨_, rfl⟩
        rw [h1] at k1
        rw [h2] at k2
        cases b1 <;> cases b2
        · (conv => whnf)
          (try simp only [Nat.zero_add, Nat.mul_zero, Nat.mul_one, lw, Int.natCast_zero, Int.natCast_one, Int.reduceMul, Int.reduceAdd, Int.reduceToNat, Nat.reduceMul, Nat.reduceAdd, Int.mul_zero, Int.mul_one, Int.add_zero, Int.zero_add, Int.toNat_zero, Int.toNat_one, List.set_cons_zero, List.set_cons_succ, List.length_cons, List.length_nil])
          repeat (first | (refine V.s1 ?_; (try simp only [Nat.zero_add, Nat.mul_zero, Nat.mul_one, lw, Int.natCast_zero, Int.natCast_one, Int.reduceMul, Int.reduceAdd, Int.reduceToNat, Nat.reduceMul, Nat.reduceAdd, Int.mul_zero, Int.mul_one, Int.add_zero, Int.zero_add, Int.toNat_zero, Int.toNat_one, List.set_cons_zero, List.set_cons_succ, List.length_cons, List.length_nil])) | ((with_reducible refine recheck_and ?_ ?_); (focus ((conv => whnf); (try simp only [Nat.zero_add, Nat.mul_zero, Nat.mul_one, lw, Int.natCast_zero, Int.natCast_one, Int.reduceMul, Int.reduceAdd, Int.reduceToNat, Nat.reduceMul, Nat.reduceAdd, Int.mul_zero, Int.mul_one, Int.add_zero, Int.zero_add, Int.toNat_zero, Int.toNat_one, List.set_cons_zero, List.set_cons_succ, List.length_cons, List.length_nil]); (repeat (refine V.s1 ?_; (try simp only [Nat.zero_add, Nat.mul_zero, Nat.mul_one, lw, Int.natCast_zero, Int.natCast_one, Int.reduceMul, Int.reduceAdd, Int.reduceToNat, Nat.reduceMul, Nat.reduceAdd, Int.mul_zero, Int.mul_one, Int.add_zero, Int.zero_add, Int.toNat_zero, Int.toNat_one, List.set_cons_zero, List.set_cons_succ, List.length_cons, List.length_nil]))); exact ⟨rfl⟩)); (conv => whnf); (try simp only [Nat.zero_add, Nat.mul_zero, Nat.mul_one, lw, Int.natCast_zero, Int.natCast_one, Int.reduceMul, Int.reduceAdd, Int.reduceToNat, Nat.reduceMul, Nat.reduceAdd, Int.mul_zero, Int.mul_one, Int.add_zero, Int.zero_add, Int.toNat_zero, Int.toNat_one, List.set_cons_zero, List.set_cons_succ, List.length_cons, List.length_nil])) | ((try ((with_reducible refine .ext ?_); (conv => whnf); (try simp only [Nat.zero_add, Nat.mul_zero, Nat.mul_one, lw, Int.natCast_zero, Int.natCast_one, Int.reduceMul, Int.reduceAdd, Int.reduceToNat, Nat.reduceMul, Nat.reduceAdd, Int.mul_zero, Int.mul_one, Int.add_zero, Int.zero_add, Int.toNat_zero, Int.toNat_one, List.set_cons_zero, List.set_cons_succ, List.length_cons, List.length_nil]))); (with_reducible refine call_intro (r := ?_) ?_ ?_); rotate_left; (focus (first | exact (k1) | exact (k2))); (conv => whnf); (try simp only [Nat.zero_add, Nat.mul_zero, Nat.mul_one, lw, Int.natCast_zero, Int.natCast_one, Int.reduceMul, Int.reduceAdd, Int.reduceToNat, Nat.reduceMul, Nat.reduceAdd, Int.mul_zero, Int.mul_one, Int.add_zero, Int.zero_add, Int.toNat_zero, Int.toNat_one, List.set_cons_zero, List.set_cons_succ, List.length_cons, List.length_nil])))
          exact ⟨(false, lw (ev p p2 false) (ev p q2 false) (ev q p2 false) (ev q q2 false) 1, lw (ev p p2 true) (ev p q2 true) (ev q p2 true) (ev q q2 true) 1), ⟨fun h => (by cases h), fun _ => (by simp [h1, h2])⟩, V.wk⟩
        · (conv => whnf)
          (try simp only [Nat.zero_add, Nat.mul_zero, Nat.mul_one, lw, Int.natCast_zero, Int.natCast_one, Int.reduceMul, Int.reduceAdd, Int.reduceToNat, Nat.reduceMul, Nat.reduceAdd, Int.mul_zero, Int.mul_one, Int.add_zero, Int.zero_add, Int.toNat_zero, Int.toNat_one, List.set_cons_zero, List.set_cons_succ, List.length_cons, List.length_nil])
          repeat (first | (refine V.s1 ?_; (try simp only [Nat.zero_add, Nat.mul_zero, Nat.mul_one, lw, Int.natCast_zero, Int.natCast_one, Int.reduceMul, Int.reduceAdd, Int.reduceToNat, Nat.reduceMul, Nat.reduceAdd, Int.mul_zero, Int.mul_one, Int.add_zero, Int.zero_add, Int.toNat_zero, Int.toNat_one, List.set_cons_zero, List.set_cons_succ, List.length_cons, List.length_nil])) | ((with_reducible refine recheck_and ?_ ?_); (focus ((conv => whnf); (try simp only [Nat.zero_add, Nat.mul_zero, Nat.mul_one, lw, Int.natCast_zero, Int.natCast_one, Int.reduceMul, Int.reduceAdd, Int.reduceToNat, Nat.reduceMul, Nat.reduceAdd, Int.mul_zero, Int.mul_one, Int.add_zero, Int.zero_add, Int.toNat_zero, Int.toNat_one, List.set_cons_zero, List.set_cons_succ, List.length_cons, List.length_nil]); (repeat (refine V.s1 ?_; (try simp only [Nat.zero_add, Nat.mul_zero, Nat.mul_one, lw, Int.natCast_zero, Int.natCast_one, Int.reduceMul, Int.reduceAdd, Int.reduceToNat, Nat.reduceMul, Nat.reduceAdd, Int.mul_zero, Int.mul_one, Int.add_zero, Int.zero_add, Int.toNat_zero, Int.toNat_one, List.set_cons_zero, List.set_cons_succ, List.length_cons, List.length_nil]))); exact ⟨rfl⟩)); (conv => whnf); (try simp only [Nat.zero_add, Nat.mul_zero, Nat.mul_one, lw, Int.natCast_zero, Int.natCast_one, Int.reduceMul, Int.reduceAdd, Int.reduceToNat, Nat.reduceMul, Nat.reduceAdd, Int.mul_zero, Int.mul_one, Int.add_zero, Int.zero_add, Int.toNat_zero, Int.toNat_one, List.set_cons_zero, List.set_cons_succ, List.length_cons, List.length_nil])) | ((try ((with_reducible refine .ext ?_); (conv => whnf); (try simp only [Nat.zero_add, Nat.mul_zero, Nat.mul_one, lw, Int.natCast_zero, Int.natCast_one, Int.reduceMul, Int.reduceAdd, Int.reduceToNat, Nat.reduceMul, Nat.reduceAdd, Int.mul_zero, Int.mul_one, Int.add_zero, Int.zero_add, Int.toNat_zero, Int.toNat_one, List.set_cons_zero, List.set_cons_succ, List.length_cons, List.length_nil]))); (with_reducible refine call_intro (r := ?_) ?_ ?_); rotate_left; (focus (first | exact (k1) | exact (k2))); (conv => whnf); (try simp only [Nat.zero_add, Nat.mul_zero, Nat.mul_one, lw, Int.natCast_zero, Int.natCast_one, Int.reduceMul, Int.reduceAdd, Int.reduceToNat, Nat.reduceMul, Nat.reduceAdd, Int.mul_zero, Int.mul_one, Int.add_zero, Int.zero_add, Int.toNat_zero, Int.toNat_one, List.set_cons_zero, List.set_cons_succ, List.length_cons, List.length_nil])))
          exact ⟨(false, lw (ev p p2 false) (ev p q2 false) (ev q p2 false) (ev q q2 false) 1, lw (ev p p2 true) (ev p q2 true) (ev q p2 true) (ev q q2 true) 1), ⟨fun h => (by cases h), fun _ => (by simp [h1, h2])⟩, V.wk⟩
        · (conv => whnf)
          (try simp only [Nat.zero_add, Nat.mul_zero, Nat.mul_one, lw, Int.natCast_zero, Int.natCast_one, Int.reduceMul, Int.reduceAdd, Int.reduceToNat, Nat.reduceMul, Nat.reduceAdd, Int.mul_zero, Int.mul_one, Int.add_zero, Int.zero_add, Int.toNat_zero, Int.toNat_one, List.set_cons_zero, List.set_cons_succ, List.length_cons, List.length_nil])
          repeat (first | (refine V.s1 ?_; (try simp only [Nat.zero_add, Nat.mul_zero, Nat.mul_one, lw, Int.natCast_zero, Int.natCast_one, Int.reduceMul, Int.reduceAdd, Int.reduceToNat, Nat.reduceMul, Nat.reduceAdd, Int.mul_zero, Int.mul_one, Int.add_zero, Int.zero_add, Int.toNat_zero, Int.toNat_one, List.set_cons_zero, List.set_cons_succ, List.length_cons, List.length_nil])) | ((with_reducible refine recheck_and ?_ ?_); (focus ((conv => whnf); (try simp only [Nat.zero_add, Nat.mul_zero, Nat.mul_one, lw, Int.natCast_zero, Int.natCast_one, Int.reduceMul, Int.reduceAdd, Int.reduceToNat, Nat.reduceMul, Nat.reduceAdd, Int.mul_zero, Int.mul_one, Int.add_zero, Int.zero_add, Int.toNat_zero, Int.toNat_one, List.set_cons_zero, List.set_cons_succ, List.length_cons, List.length_nil]); (repeat (refine V.s1 ?_; (try simp only [Nat.zero_add, Nat.mul_zero, Nat.mul_one, lw, Int.natCast_zero, Int.natCast_one, Int.reduceMul, Int.reduceAdd, Int.reduceToNat, Nat.reduceMul, Nat.reduceAdd, Int.mul_zero, Int.mul_one, Int.add_zero, Int.zero_add, Int.toNat_zero, Int.toNat_one, List.set_cons_zero, List.set_cons_succ, List.length_cons, List.length_nil]))); exact ⟨rfl⟩)); (conv => whnf); (try simp only [Nat.zero_add, Nat.mul_zero, Nat.mul_one, lw, Int.natCast_zero, Int.natCast_one, Int.reduceMul, Int.reduceAdd, Int.reduceToNat, Nat.reduceMul, Nat.reduceAdd, Int.mul_zero, Int.mul_one, Int.add_zero, Int.zero_add, Int.toNat_zero, Int.toNat_one, List.set_cons_zero, List.set_cons_succ, List.length_cons, List.length_nil])) | ((try ((with_reducible refine .ext ?_); (conv => whnf); (try simp only [Nat.zero_add, Nat.mul_zero, Nat.mul_one, lw, Int.natCast_zero, Int.natCast_one, Int.reduceMul, Int.reduceAdd, Int.reduceToNat, Nat.reduceMul, Nat.reduceAdd, Int.mul_zero, Int.mul_one, Int.add_zero, Int.zero_add, Int.toNat_zero, Int.toNat_one, List.set_cons_zero, List.set_cons_succ, List.length_cons, List.length_nil]))); (with_reducible refine call_intro (r := ?_) ?_ ?_); rotate_left; (focus (first | exact (k1) | exact (k2))); (conv => whnf); (try simp only [Nat.zero_add, Nat.mul_zero, Nat.mul_one, lw, Int.natCast_zero, Int.natCast_one, Int.reduceMul, Int.reduceAdd, Int.reduceToNat, Nat.reduceMul, Nat.reduceAdd, Int.mul_zero, Int.mul_one, Int.add_zero, Int.zero_add, Int.toNat_zero, Int.toNat_one, List.set_cons_zero, List.set_cons_succ, List.length_cons, List.length_nil])))
          exact ⟨(false, lw (ev p p2 false) (ev p q2 false) (ev q p2 false) (ev q q2 false) 1, lw (ev p p2 true) (ev p q2 true) (ev q p2 true) (ev q q2 true) 1), ⟨fun h => (by cases h), fun _ => (by simp [h1, h2])⟩, V.wk⟩
        · (conv => whnf)
          (try simp only [Nat.zero_add, Nat.mul_zero, Nat.mul_one, lw, Int.natCast_zero, Int.natCast_one, Int.reduceMul, Int.reduceAdd, Int.reduceToNat, Nat.reduceMul, Nat.reduceAdd, Int.mul_zero, Int.mul_one, Int.add_zero, Int.zero_add, Int.toNat_zero, Int.toNat_one, List.set_cons_zero, List.set_cons_succ, List.length_cons, List.length_nil])
          repeat (first | (refine V.s1 ?_; (try simp only [Nat.zero_add, Nat.mul_zero, Nat.mul_one, lw, Int.natCast_zero, Int.natCast_one, Int.reduceMul, Int.reduceAdd, Int.reduceToNat, Nat.reduceMul, Nat.reduceAdd, Int.mul_zero, Int.mul_one, Int.add_zero, Int.zero_add, Int.toNat_zero, Int.toNat_one, List.set_cons_zero, List.set_cons_succ, List.length_cons, List.length_nil])) | ((with_reducible refine recheck_and ?_ ?_); (focus ((conv => whnf); (try simp only [Nat.zero_add, Nat.mul_zero, Nat.mul_one, lw, Int.natCast_zero, Int.natCast_one, Int.reduceMul, Int.reduceAdd, Int.reduceToNat, Nat.reduceMul, Nat.reduceAdd, Int.mul_zero, Int.mul_one, Int.add_zero, Int.zero_add, Int.toNat_zero, Int.toNat_one, List.set_cons_zero, List.set_cons_succ, List.length_cons, List.length_nil]); (repeat (refine V.s1 ?_; (try simp only [Nat.zero_add, Nat.mul_zero, Nat.mul_one, lw, Int.natCast_zero, Int.natCast_one, Int.reduceMul, Int.reduceAdd, Int.reduceToNat, Nat.reduceMul, Nat.reduceAdd, Int.mul_zero, Int.mul_one, Int.add_zero, Int.zero_add, Int.toNat_zero, Int.toNat_one, List.set_cons_zero, List.set_cons_succ, List.length_cons, List.length_nil]))); exact ⟨rfl⟩)); (conv => whnf); (try simp only [Nat.zero_add, Nat.mul_zero, Nat.mul_one, lw, Int.natCast_zero, Int.natCast_one, Int.reduceMul, Int.reduceAdd, Int.reduceToNat, Nat.reduceMul, Nat.reduceAdd, Int.mul_zero, Int.mul_one, Int.add_zero, Int.zero_add, Int.toNat_zero, Int.toNat_one, List.set_cons_zero, List.set_cons_succ, List.length_cons, List.length_nil])) | ((try ((with_reducible refine .ext ?_); (conv => whnf); (try simp only [Nat.zero_add, Nat.mul_zero, Nat.mul_one, lw, Int.natCast_zero, Int.natCast_one, Int.reduceMul, Int.reduceAdd, Int.reduceToNat, Nat.reduceMul, Nat.reduceAdd, Int.mul_zero, Int.mul_one, Int.add_zero, Int.zero_add, Int.toNat_zero, Int.toNat_one, List.set_cons_zero, List.set_cons_succ, List.length_cons, List.length_nil]))); (with_reducible refine call_intro (r := ?_) ?_ ?_); rotate_left; (focus (first | exact (k1) | exact (k2))); (conv => whnf); (try simp only [Nat.zero_add, Nat.mul_zero, Nat.mul_one, lw, Int.natCast_zero, Int.natCast_one, Int.reduceMul, Int.reduceAdd, Int.reduceToNat, Nat.reduceMul, Nat.reduceAdd, Int.mul_zero, Int.mul_one, Int.add_zero, Int.zero_add, Int.toNat_zero, Int.toNat_one, List.set_cons_zero, List.set_cons_succ, List.length_cons, List.length_nil])))
          exact ⟨2, ⟨by omega, fun _ => hj.2.1 (by omega), fun _ => ⟨h1, h2⟩⟩, by omega, V.wk⟩
      · subst e
        have o1 := hj.2.1 (by omega)
        have o2 := hj.2.2 (by omega)
        (conv => whnf)
        refine V.st ?_
        exact ⟨1, ⟨by omega, fun _ => ⟨o1.1, o1.2, o2.1, o2.2⟩, fun _ => by omega⟩, by omega, V.wk⟩
    · subst e
      (conv => whnf)
      refine V.st ?_
      refine lp_any (0 : Nat) (fun j => j ≤ 2 ∧ (1 ≤ j → okk q p2 false = true ∧ okk q p2 true = true) ∧ (2 ≤ j → okk q q2 false = true ∧ okk q q2 true = true)) (fun j => 2 - j)
        (fun j => [(33, .int .i64 j)]) (fun j => [(8, .arr .i64 (lw (ev p p2 false) (ev p q2 false) (ev q p2 false) (ev q q2 false) (2 + j))), (9, .arr .i64 (lw (ev p p2 true) (ev p q2 true) (ev q p2 true) (ev q q2 true) (2 + j)))]) ?_ ?_ ?_
      · exact V.wk
      · exact ⟨by omega, fun h => by omega, fun h => by omega⟩
      intro j hj
      rcases (by omega : j = 0 ∨ j = 1 ∨ j = 2) with e | e | e
      · subst e
        have k1 := hg q p2 false (by simp) (by simp)
        have k2 := hg q p2 true (by simp) (by simp)
        obtain ⟨b1, h1⟩ : ∃ b, okk q p2 false = b := ⟨_, rfl⟩
        obtain ⟨b2, h2⟩ : ∃ b, okk q p2 true = b := ⟨_, rfl⟩
        rw [h1] at k1
        rw [h2] at k2
        cases b1 <;> cases b2
        · (conv => whnf)
          (try simp only [Nat.zero_add, Nat.mul_zero, Nat.mul_one, lw, Int.natCast_zero, Int.natCast_one, Int.reduceMul, Int.reduceAdd, Int.reduceToNat, Nat.reduceMul, Nat.reduceAdd, Int.mul_zero, Int.mul_one, Int.add_zero, Int.zero_add, Int.toNat_zero, Int.toNat_one, List.set_cons_zero, List.set_cons_succ, List.length_cons, List.length_nil])
          repeat (first | (refine V.s1 ?_; (try simp only [Nat.zero_add, Nat.mul_zero, Nat.mul_one, lw, Int.natCast_zero, Int.natCast_one, Int.reduceMul, Int.reduceAdd, Int.reduceToNat, Nat.reduceMul, Nat.reduceAdd, Int.mul_zero, Int.mul_one, Int.add_zero, Int.zero_add, Int.toNat_zero, Int.toNat_one, List.set_cons_zero, List.set_cons_succ, List.length_cons, List.length_nil])) | ((with_reducible refine recheck_and ?_ ?_); (focus ((conv => whnf); (try simp only [Nat.zero_add, Nat.mul_zero, Nat.mul_one, lw, Int.natCast_zero, Int.natCast_one, Int.reduceMul, Int.reduceAdd, Int.reduceToNat, Nat.reduceMul, Nat.reduceAdd, Int.mul_zero, Int.mul_one, Int.add_zero, Int.zero_add, Int.toNat_zero, Int.toNat_one, List.set_cons_zero, List.set_cons_succ, List.length_cons, List.length_nil]); (repeat (refine V.s1 ?_; (try simp only [Nat.zero_add, Nat.mul_zero, Nat.mul_one, lw, Int.natCast_zero, Int.natCast_one, Int.reduceMul, Int.reduceAdd, Int.reduceToNat, Nat.reduceMul, Nat.reduceAdd, Int.mul_zero, Int.mul_one, Int.add_zero, Int.zero_add, Int.toNat_zero, Int.toNat_one, List.set_cons_zero, List.set_cons_succ, List.length_cons, List.length_nil]))); exact ⟨rfl⟩)); (conv => whnf); (try simp only [Nat.zero_add, Nat.mul_zero, Nat.mul_one, lw, Int.natCast_zero, Int.natCast_one, Int.reduceMul, Int.reduceAdd, Int.reduceToNat, Nat.reduceMul, Nat.reduceAdd, Int.mul_zero, Int.mul_one, Int.add_zero, Int.zero_add, Int.toNat_zero, Int.toNat_one, List.set_cons_zero, List.set_cons_succ, List.length_cons, List.length_nil])) | ((try ((with_reducible refine .ext ?_); (conv => whnf); (try simp only [Nat.zero_add, Nat.mul_zero, Nat.mul_one, lw, Int.natCast_zero, Int.natCast_one, Int.reduceMul, Int.reduceAdd, Int.reduceToNat, Nat.reduceMul, Nat.reduceAdd, Int.mul_zero, Int.mul_one, Int.add_zero, Int.zero_add, Int.toNat_zero, Int.toNat_one, List.set_cons_zero, List.set_cons_succ, List.length_cons, List.length_nil]))); (with_reducible refine call_intro (r := ?_) ?_ ?_); rotate_left; (focus (first | exact (k1) | exact (k2))); (conv => whnf); (try simp only [Nat.zero_add, Nat.mul_zero, Nat.mul_one, lw, Int.natCast_zero, Int.natCast_one, Int.reduceMul, Int.reduceAdd, Int.reduceToNat, Nat.reduceMul, Nat.reduceAdd, Int.mul_zero, Int.mul_one, Int.add_zero, Int.zero_add, Int.toNat_zero, Int.toNat_one, List.set_cons_zero, List.set_cons_succ, List.length_cons, List.length_nil])))
          exact ⟨(false, lw (ev p p2 false) (ev p q2 false) (ev q p2 false) (ev q q2 false) 2, lw (ev p p2 true) (ev p q2 true) (ev q p2 true) (ev q q2 true) 2), ⟨fun h => (by cases h), fun _ => (by simp [h1, h2])⟩, V.wk⟩
        · (conv => whnf)
          (try simp only [Nat.zero_add, Nat.mul_zero, Nat.mul_one, lw, Int.natCast_zero, Int.natCast_one, Int.reduceMul, Int.reduceAdd, Int.reduceToNat, Nat.reduceMul, Nat.reduceAdd, Int.mul_zero, Int.mul_one, Int.add_zero, Int.zero_add, Int.toNat_zero, Int.toNat_one, List.set_cons_zero, List.set_cons_succ, List.length_cons, List.length_nil])
          repeat (first | (refine V.s1 ?_; (try simp only [Nat.zero_add, Nat.mul_zero, Nat.mul_one, lw, Int.natCast_zero, Int.natCast_one, Int.reduceMul, Int.reduceAdd, Int.reduceToNat, Nat.reduceMul, Nat.reduceAdd, Int.mul_zero, Int.mul_one, Int.add_zero, Int.zero_add, Int.toNat_zero, Int.toNat_one, List.set_cons_zero, List.set_cons_succ, List.length_cons, List.length_nil])) | ((with_reducible refine recheck_and ?_ ?_); (focus ((conv => whnf); (try simp only [Nat.zero_add, Nat.mul_zero, Nat.mul_one, lw, Int.natCast_zero, Int.natCast_one, Int.reduceMul, Int.reduceAdd, Int.reduceToNat, Nat.reduceMul, Nat.reduceAdd, Int.mul_zero, Int.mul_one, Int.add_zero, Int.zero_add, Int.toNat_zero, Int.toNat_one, List.set_cons_zero, List.set_cons_succ, List.length_cons, List.length_nil]); (repeat (refine V.s1 ?_; (try simp only [Nat.zero_add, Nat.mul_zero, Nat.mul_one, lw, Int.natCast_zero, Int.natCast_one, Int.reduceMul, Int.reduceAdd, Int.reduceToNat, Nat.reduceMul, Nat.reduceAdd, Int.mul_zero, Int.mul_one, Int.add_zero, Int.zero_add, Int.toNat_zero, Int.toNat_one, List.set_cons_zero, List.set_cons_succ, List.length_cons, List.length_nil]))); exact ⟨rfl⟩)); (conv => whnf); (try simp only [Nat.zero_add, Nat.mul_zero, Nat.mul_one, lw, Int.natCast_zero, Int.natCast_one, Int.reduceMul, Int.reduceAdd, Int.reduceToNat, Nat.reduceMul, Nat.reduceAdd, Int.mul_zero, Int.mul_one, Int.add_zero, Int.zero_add, Int.toNat_zero, Int.toNat_one, List.set_cons_zero, List.set_cons_succ, List.length_cons, List.length_nil])) | ((try ((with_reducible refine .ext ?_); (conv => whnf); (try simp only [Nat.zero_add, Nat.mul_zero, Nat.mul_one, lw, Int.natCast_zero, Int.natCast_one, Int.reduceMul, Int.reduceAdd, Int.reduceToNat, Nat.reduceMul, Nat.reduceAdd, Int.mul_zero, Int.mul_one, Int.add_zero, Int.zero_add, Int.toNat_zero, Int.toNat_one, List.set_cons_zero, List.set_cons_succ, List.length_cons, List.length_nil]))); (with_reducible refine call_intro (r := ?_) ?_ ?_); rotate_left; (focus (first | exact (k1) | exact (k2))); (conv => whnf); (try simp only [Nat.zero_add, Nat.mul_zero, Nat.mul_one, lw, Int.natCast_zero, Int.natCast_one, Int.reduceMul, Int.reduceAdd, Int.reduceToNat, Nat.reduceMul, Nat.reduceAdd, Int.mul_zero, Int.mul_one, Int.add_zero, Int.zero_add, Int.toNat_zero, Int.toNat_one, List.set_cons_zero, List.set_cons_succ, List.length_cons, List.length_nil])))
          exact ⟨(false, lw (ev p p2 false) (ev p q2 false) (ev q p2 false) (ev q q2 false) 2, lw (ev p p2 true) (ev p q2 true) (ev q p2 true) (ev q q2 true) 2), ⟨fun h => (by cases h), fun _ => (by simp [h1, h2])⟩, V.wk⟩
        · (conv => whnf)
          (try simp only [Nat.zero_add, Nat.mul_zero, Nat.mul_one, lw, Int.natCast_zero, Int.natCast_one, Int.reduceMul, Int.reduceAdd, Int.reduceToNat, Nat.reduceMul, Nat.reduceAdd, Int.mul_zero, Int.mul_one, Int.add_zero, Int.zero_add, Int.toNat_zero, Int.toNat_one, List.set_cons_zero, List.set_cons_succ, List.length_cons, List.length_nil])
          repeat (first | (refine V.s1 ?_; (try simp only [Nat.zero_add, Nat.mul_zero, Nat.mul_one, lw, Int.natCast_zero, Int.natCast_one, Int.reduceMul, Int.reduceAdd, Int.reduceToNat, Nat.reduceMul, Nat.reduceAdd, Int.mul_zero, Int.mul_one, Int.add_zero, Int.zero_add, Int.toNat_zero, Int.toNat_one, List.set_cons_zero, List.set_cons_succ, List.length_cons, List.length_nil])) | ((with_reducible refine recheck_and ?_ ?_); (focus ((conv => whnf); (try simp only [Nat.zero_add, Nat.mul_zero, Nat.mul_one, lw, Int.natCast_zero, Int.natCast_one, Int.reduceMul, Int.reduceAdd, Int.reduceToNat, Nat.reduceMul, Nat.reduceAdd, Int.mul_zero, Int.mul_one, Int.add_zero, Int.zero_add, Int.toNat_zero, Int.toNat_one, List.set_cons_zero, List.set_cons_succ, List.length_cons, List.length_nil]); (repeat (refine V.s1 ?_; (try simp only [Nat.zero_add, Nat.mul_zero, Nat.mul_one, lw, Int.natCast_zero, Int.natCast_one, Int.reduceMul, Int.reduceAdd, Int.reduceToNat, Nat.reduceMul, Nat.reduceAdd, Int.mul_zero, Int.mul_one, Int.add_zero, Int.zero_add, Int.toNat_zero, Int.toNat_one, List.set_cons_zero, List.set_cons_succ, List.length_cons, List.length_nil]))); exact ⟨rfl⟩)); (conv => whnf); (try simp only [Nat.zero_add, Nat.mul_zero, Nat.mul_one, lw, Int.natCast_zero, Int.natCast_one, Int.reduceMul, Int.reduceAdd, Int.reduceToNat, Nat.reduceMul, Nat.reduceAdd, Int.mul_zero, Int.mul_one, Int.add_zero, Int.zero_add, Int.toNat_zero, Int.toNat_one, List.set_cons_zero, List.set_cons_succ, List.length_cons, List.length_nil])) | ((try ((with_reducible refine .ext ?_); (conv => whnf); (try simp only [Nat.zero_add, Nat.mul_zero, Nat.mul_one, lw, Int.natCast_zero, Int.natCast_one, Int.reduceMul, Int.reduceAdd, Int.reduceToNat, Nat.reduceMul, Nat.reduceAdd, Int.mul_zero, Int.mul_one, Int.add_zero, Int.zero_add, Int.toNat_zero, Int.toNat_one, List.set_cons_zero, List.set_cons_succ, List.length_cons, List.length_nil]))); (with_reducible refine call_intro (r := ?_) ?_ ?_); rotate_left; (focus (first | exact (k1) | exact (k2))); (conv => whnf); (try simp only [Nat.zero_add, Nat.mul_zero, Nat.mul_one, lw, Int.natCast_zero, Int.natCast_one, Int.reduceMul, Int.reduceAdd, Int.reduceToNat, Nat.reduceMul, Nat.reduceAdd, Int.mul_zero, Int.mul_one, Int.add_zero, Int.zero_add, Int.toNat_zero, Int.toNat_one, List.set_cons_zero, List.set_cons_succ, List.length_cons, List.length_nil])))
          exact ⟨(false, lw (ev p p2 false) (ev p q2 false) (ev q p2 false) (ev q q2 false) 2, lw (ev p p2 true) (ev p q2 true) (ev q p2 true) (ev q q2 true) 2), ⟨fun h => (by cases h), fun _ => (by simp [h1, h2])⟩, V.wk⟩
        · (conv => whnf)
          (try simp only [Nat.zero_add, Nat.mul_zero, Nat.mul_one, lw, Int.natCast_zero, Int.natCast_one, Int.reduceMul, Int.reduceAdd, Int.reduceToNat, Nat.reduceMul, Nat.reduceAdd, Int.mul_zero, Int.mul_one, Int.add_zero, Int.zero_add, Int.toNat_zero, Int.toNat_one, List.set_cons_zero, List.set_cons_succ, List.length_cons, List.length_nil])
          repeat (first | (refine V.s1 ?_; (try simp only [Nat.zero_add, Nat.mul_zero, Nat.mul_one, lw, Int.natCast_zero, Int.natCast_one, Int.reduceMul, Int.reduceAdd, Int.reduceToNat, Nat.reduceMul, Nat.reduceAdd, Int.mul_zero, Int.mul_one, Int.add_zero, Int.zero_add, Int.toNat_zero, Int.toNat_one, List.set_cons_zero, List.set_cons_succ, List.length_cons, List.length_nil])) | ((with_reducible refine recheck_and ?_ ?_); (focus ((conv => whnf); (try simp only [Nat.zero_add, Nat.mul_zero, Nat.mul_one, lw, Int.natCast_zero, Int.natCast_one, Int.reduceMul, Int.reduceAdd, Int.reduceToNat, Nat.reduceMul, Nat.reduceAdd, Int.mul_zero, Int.mul_one, Int.add_zero, Int.zero_add, Int.toNat_zero, Int.toNat_one, List.set_cons_zero, List.set_cons_succ, List.length_cons, List.length_nil]); (repeat (refine V.s1 ?_; (try simp only [Nat.zero_add, Nat.mul_zero, Nat.mul_one, lw, Int.natCast_zero, Int.natCast_one, Int.reduceMul, Int.reduceAdd, Int.reduceToNat, Nat.reduceMul, Nat.reduceAdd, Int.mul_zero, Int.mul_one, Int.add_zero, Int.zero_add, Int.toNat_zero, Int.toNat_one, List.set_cons_zero, List.set_cons_succ, List.length_cons, List.length_nil]))); exact ⟨rfl⟩)); (conv => whnf); (try simp only [Nat.zero_add, Nat.mul_zero, Nat.mul_one, lw, Int.natCast_zero, Int.natCast_one, Int.reduceMul, Int.reduceAdd, Int.reduceToNat, Nat.reduceMul, Nat.reduceAdd, Int.mul_zero, Int.mul_one, Int.add_zero, Int.zero_add, Int.toNat_zero, Int.toNat_one, List.set_cons_zero, List.set_cons_succ, List.length_cons, List.length_nil])) | ((try ((with_reducible refine .ext ?_); (conv => whnf); (try simp only [Nat.zero_add, Nat.mul_zero, Nat.mul_one, lw, Int.natCast_zero, Int.natCast_one, Int.reduceMul, Int.reduceAdd, Int.reduceToNat, Nat.reduceMul, Nat.reduceAdd, Int.mul_zero, Int.mul_one, Int.add_zero, Int.zero_add, Int.toNat_zero, Int.toNat_one, List.set_cons_zero, List.set_cons_succ, List.length_cons, List.length_nil]))); (with_reducible refine call_intro (r := ?_) ?_ ?_); rotate_left; (focus (first | exact (k1) | exact (k2))); (conv => whnf); (try simp only [Nat.zero_add, Nat.mul_zero, Nat.mul_one, lw, Int.natCast_zero, Int.natCast_one, Int.reduceMul, Int.reduceAdd, Int.reduceToNat, Nat.reduceMul, Nat.reduceAdd, Int.mul_zero, Int.mul_one, Int.add_zero, Int.zero_add, Int.toNat_zero, Int.toNat_one, List.set_cons_zero, List.set_cons_succ, List.length_cons, List.length_nil])))
          exact ⟨1, ⟨by omega, fun _ => ⟨h1, h2⟩, fun _ => by omega⟩, by omega, V.wk⟩
      · subst e
        have k1 := hg q q2 false (by simp) (by simp)
        have k2 := hg q q2 true (by simp) (by simp)
        obtain ⟨b1, h1⟩ : ∃ b, okk q q2 false = b := ⟨_, rfl⟩
        obtain ⟨b2, h2⟩ : ∃ b, okk q q2 true = b := ⟨_, rfl⟩
        rw [h1] at k1
        rw [h2] at k2
        cases b1 <;> cases b2
        · (conv => whnf)
          (try simp only [Nat.zero_add, Nat.mul_zero, Nat.mul_one, lw, Int.natCast_zero, Int.natCast_one, Int.reduceMul, Int.reduceAdd, Int.reduceToNat, Nat.reduceMul, Nat.reduceAdd, Int.mul_zero, Int.mul_one, Int.add_zero, Int.zero_add, Int.toNat_zero, Int.toNat_one, List.set_cons_zero, List.set_cons_succ, List.length_cons, List.length_nil])
          repeat (first | (refine V.s1 ?_; (try simp only [Nat.zero_add, Nat.mul_zero, Nat.mul_one, lw, Int.natCast_zero, Int.natCast_one, Int.reduceMul, Int.reduceAdd, Int.reduceToNat, Nat.reduceMul, Nat.reduceAdd, Int.mul_zero, Int.mul_one, Int.add_zero, Int.zero_add, Int.toNat_zero, Int.toNat_one, List.set_cons_zero, List.set_cons_succ, List.length_cons, List.length_nil])) | ((with_reducible refine recheck_and ?_ ?_); (focus ((conv => whnf); (try simp only [Nat.zero_add, Nat.mul_zero, Nat.mul_one, lw, Int.natCast_zero, Int.natCast_one, Int.reduceMul, Int.reduceAdd, Int.reduceToNat, Nat.reduceMul, Nat.reduceAdd, Int.mul_zero, Int.mul_one, Int.add_zero, Int.zero_add, Int.toNat_zero, Int.toNat_one, List.set_cons_zero, List.set_cons_succ, List.length_cons, List.length_nil]); (repeat (refine V.s1 ?_; (try simp only [Nat.zero_add, Nat.mul_zero, Nat.mul_one, lw, Int.natCast_zero, Int.natCast_one, Int.reduceMul, Int.reduceAdd, Int.reduceToNat, Nat.reduceMul, Nat.reduceAdd, Int.mul_zero, Int.mul_one, Int.add_zero, Int.zero_add, Int.toNat_zero, Int.toNat_one, List.set_cons_zero, List.set_cons_succ, List.length_cons, List.length_nil]))); exact ⟨rfl⟩)); (conv => whnf); (try simp only [Nat.zero_add, Nat.mul_zero, Nat.mul_one, lw, Int.natCast_zero, Int.natCast_one, Int.reduceMul, Int.reduceAdd, Int.reduceToNat, Nat.reduceMul, Nat.reduceAdd, Int.mul_zero, Int.mul_one, Int.add_zero, Int.zero_add, Int.toNat_zero, Int.toNat_one, List.set_cons_zero, List.set_cons_succ, List.length_cons, List.length_nil])) | ((try ((with_reducible refine .ext ?_); (conv => whnf); (try simp only [Nat.zero_add, Nat.mul_zero, Nat.mul_one, lw, Int.natCast_zero, Int.natCast_one, Int.reduceMul, Int.reduceAdd, Int.reduceToNat, Nat.reduceMul, Nat.reduceAdd, Int.mul_zero, Int.mul_one, Int.add_zero, Int.zero_add, Int.toNat_zero, Int.toNat_one, List.set_cons_zero, List.set_cons_succ, List.length_cons, List.length_nil]))); (with_reducible refine call_intro (r := ?_) ?_ ?_); rotate_left; (focus (first | exact (k1) | exact (k2))); (conv => whnf); (try simp only [Nat.zero_add, Nat.mul_zero, Nat.mul_one, lw, Int.natCast_zero, Int.natCast_one, Int.reduceMul, Int.reduceAdd, Int.reduceToNat, Nat.reduceMul, Nat.reduceAdd, Int.mul_zero, Int.mul_one, Int.add_zero, Int.zero_add, Int.toNat_zero, Int.toNat_one, List.set_cons_zero, List.set_cons_succ, List.length_cons, List.length_nil])))
          exact ⟨(false, lw (ev p p2 false) (ev p q2 false) (ev q p2 false) (ev q q2 false) 3, lw (ev p p2 true) (ev p q2 true) (ev q p2 true) (ev q q2 true) 3), ⟨fun h => (by cases h), fun _ => (by simp [h1, h2])⟩, V.wk⟩
        · (conv => whnf)
          (try simp only [Nat.zero_add, Nat.mul_zero, Nat.mul_one, lw, Int.natCast_zero, Int.natCast_one, Int.reduceMul, Int.reduceAdd, Int.reduceToNat, Nat.reduceMul, Nat.reduceAdd, Int.mul_zero, Int.mul_one, Int.add_zero, Int.zero_add, Int.toNat_zero, Int.toNat_one, List.set_cons_zero, List.set_cons_succ, List.length_cons, List.length_nil])
          repeat (first | (refine V.s1 ?_; (try simp only [Nat.zero_add, Nat.mul_zero, Nat.mul_one, lw, Int.natCast_zero, Int.natCast_one, Int.reduceMul, Int.reduceAdd, Int.reduceToNat, Nat.reduceMul, Nat.reduceAdd, Int.mul_zero, Int.mul_one, Int.add_zero, Int.zero_add, Int.toNat_zero, Int.toNat_one, List.set_cons_zero, List.set_cons_succ, List.length_cons, List.length_nil])) | ((with_reducible refine recheck_and ?_ ?_); (focus ((conv => whnf); (try simp only [Nat.zero_add, Nat.mul_zero, Nat.mul_one, lw, Int.natCast_zero, Int.natCast_one, Int.reduceMul, Int.reduceAdd, Int.reduceToNat, Nat.reduceMul, Nat.reduceAdd, Int.mul_zero, Int.mul_one, Int.add_zero, Int.zero_add, Int.toNat_zero, Int.toNat_one, List.set_cons_zero, List.set_cons_succ, List.length_cons, List.length_nil]); (repeat (refine V.s1 ?_; (try simp only [Nat.zero_add, Nat.mul_zero, Nat.mul_one, lw, Int.natCast_zero, Int.natCast_one, Int.reduceMul, Int.reduceAdd, Int.reduceToNat, Nat.reduceMul, Nat.reduceAdd, Int.mul_zero, Int.mul_one, Int.add_zero, Int.zero_add, Int.toNat_zero, Int.toNat_one, List.set_cons_zero, List.set_cons_succ, List.length_cons, List.length_nil]))); exact ⟨rfl⟩)); (conv => whnf); (try simp only [Nat.zero_add, Nat.mul_zero, Nat.mul_one, lw, Int.natCast_zero, Int.natCast_one, Int.reduceMul, Int.reduceAdd, Int.reduceToNat, Nat.reduceMul, Nat.reduceAdd, Int.mul_zero, Int.mul_one, Int.add_zero, Int.zero_add, Int.toNat_zero, Int.toNat_one, List.set_cons_zero, List.set_cons_succ, List.length_cons, List.length_nil])) | ((try ((with_reducible refine .ext ?_); (conv => whnf); (try simp only [Nat.zero_add, Nat.mul_zero, Nat.mul_one, lw, Int.natCast_zero, Int.natCast_one, Int.reduceMul, Int.reduceAdd, Int.reduceToNat, Nat.reduceMul, Nat.reduceAdd, Int.mul_zero, Int.mul_one, Int.add_zero, Int.zero_add, Int.toNat_zero, Int.toNat_one, List.set_cons_zero, List.set_cons_succ, List.length_cons, List.length_nil]))); (with_reducible refine call_intro (r := ?_) ?_ ?_); rotate_left; (focus (first | exact (k1) | exact (k2))); (conv => whnf); (try simp only [Nat.zero_add, Nat.mul_zero, Nat.mul_one, lw, Int.natCast_zero, Int.natCast_one, Int.reduceMul, Int.reduceAdd, Int.reduceToNat, Nat.reduceMul, Nat.reduceAdd, Int.mul_zero, Int.mul_one, Int.add_zero, Int.zero_add, Int.toNat_zero, Int.toNat_one, List.set_cons_zero, List.set_cons_succ, List.length_cons, List.length_nil])))
          exact ⟨(false, lw (ev p p2 false) (ev p q2 false) (ev q p2 false) (ev q q2 false) 3, lw (ev p p2 true) (ev p q2 true) (ev q p2 true) (ev q q2 true) 3), ⟨fun h => (by cases h), fun _ => (by simp [h1, h2])⟩, V.wk⟩
        · (conv => whnf)
          (try simp only [Nat.zero_add, Nat.mul_zero, Nat.mul_one, lw, Int.natCast_zero, Int.natCast_one, Int.reduceMul, Int.reduceAdd, Int.reduceToNat, Nat.reduceMul, Nat.reduceAdd, Int.mul_zero, Int.mul_one, Int.add_zero, Int.zero_add, Int.toNat_zero, Int.toNat_one, List.set_cons_zero, List.set_cons_succ, List.length_cons, List.length_nil])
          repeat (first | (refine V.s1 ?_; (try simp only [Nat.zero_add, Nat.mul_zero, Nat.mul_one, lw, Int.natCast_zero, Int.natCast_one, Int.reduceMul, Int.reduceAdd, Int.reduceToNat, Nat.reduceMul, Nat.reduceAdd, Int.mul_zero, Int.mul_one, Int.add_zero, Int.zero_add, Int.toNat_zero, Int.toNat_one, List.set_cons_zero, List.set_cons_succ, List.length_cons, List.length_nil])) | ((with_reducible refine recheck_and ?_ ?_); (focus ((conv => whnf); (try simp only [Nat.zero_add, Nat.mul_zero, Nat.mul_one, lw, Int.natCast_zero, Int.natCast_one, Int.reduceMul, Int.reduceAdd, Int.reduceToNat, Nat.reduceMul, Nat.reduceAdd, Int.mul_zero, Int.mul_one, Int.add_zero, Int.zero_add, Int.toNat_zero, Int.toNat_one, List.set_cons_zero, List.set_cons_succ, List.length_cons, List.length_nil]); (repeat (refine V.s1 ?_; (try simp only [Nat.zero_add, Nat.mul_zero, Nat.mul_one, lw, Int.natCast_zero, Int.natCast_one, Int.reduceMul, Int.reduceAdd, Int.reduceToNat, Nat.reduceMul, Nat.reduceAdd, Int.mul_zero, Int.mul_one, Int.add_zero, Int.zero_add, Int.toNat_zero, Int.toNat_one, List.set_cons_zero, List.set_cons_succ, List.length_cons, List.length_nil]))); exact ⟨rfl⟩)); (conv => whnf); (try simp only [Nat.zero_add, Nat.mul_zero, Nat.mul_one, lw, Int.natCast_zero, Int.natCast_one, Int.reduceMul, Int.reduceAdd, Int.reduceToNat, Nat.reduceMul, Nat.reduceAdd, Int.mul_zero, Int.mul_one, Int.add_zero, Int.zero_add, Int.toNat_zero, Int.toNat_one, List.set_cons_zero, List.set_cons_succ, List.length_cons, List.length_nil])) | ((try ((with_reducible refine .ext ?_); (conv => whnf); (try simp only [Nat.zero_add, Nat.mul_zero, Nat.mul_one, lw, Int.natCast_zero, Int.natCast_one, Int.reduceMul, Int.reduceAdd, Int.reduceToNat, Nat.reduceMul, Nat.reduceAdd, Int.mul_zero, Int.mul_one, Int.add_zero, Int.zero_add, Int.toNat_zero, Int.toNat_one, List.set_cons_zero, List.set_cons_succ, List.length_cons, List.length_nil]))); (with_reducible refine call_intro (r := ?_) ?_ ?_); rotate_left; (focus (first | exact (k1) | exact (k2))); (conv => whnf); (try simp only [Nat.zero_add, Nat.mul_zero, Nat.mul_one, lw, Int.natCast_zero, Int.natCast_one, Int.reduceMul, Int.reduceAdd, Int.reduceToNat, Nat.reduceMul, Nat.reduceAdd, Int.mul_zero, Int.mul_one, Int.add_zero, Int.zero_add, Int.toNat_zero, Int.toNat_one, List.set_cons_zero, List.set_cons_succ, List.length_cons, List.length_nil])))
          exact ⟨(false, lw (ev p p2 false) (ev p q2 false) (ev q p2 false) (ev q q2 false) 3, lw (ev p p2 true) (ev p q2 true) (ev q p2 true) (ev q q2 true) 3), ⟨fun h => (by cases h), fun _ => (by simp [h1, h2])⟩, V.wk⟩
        · (conv => whnf)
          (try simp only [Nat.zero_add, Nat.mul_zero, Nat.mul_one, lw, Int.natCast_zero, Int.natCast_one, Int.reduceMul, Int.reduceAdd, Int.reduceToNat, Nat.reduceMul, Nat.reduceAdd, Int.mul_zero, Int.mul_one, Int.add_zero, Int.zero_add, Int.toNat_zero, Int.toNat_one, List.set_cons_zero, List.set_cons_succ, List.length_cons, List.length_nil])
          repeat (first | (refine V.s1 ?_; (try simp only [Nat.zero_add, Nat.mul_zero, Nat.mul_one, lw, Int.natCast_zero, Int.natCast_one, Int.reduceMul, Int.reduceAdd, Int.reduceToNat, Nat.reduceMul, Nat.reduceAdd, Int.mul_zero, Int.mul_one, Int.add_zero, Int.zero_add, Int.toNat_zero, Int.toNat_one, List.set_cons_zero, List.set_cons_succ, List.length_cons, List.length_nil])) | ((with_reducible refine recheck_and ?_ ?_); (focus ((conv => whnf); (try simp only [Nat.zero_add, Nat.mul_zero, Nat.mul_one, lw, Int.natCast_zero, Int.natCast_one, Int.reduceMul, Int.reduceAdd, Int.reduceToNat, Nat.reduceMul, Nat.reduceAdd, Int.mul_zero, Int.mul_one, Int.add_zero, Int.zero_add, Int.toNat_zero, Int.toNat_one, List.set_cons_zero, List.set_cons_succ, List.length_cons, List.length_nil]); (repeat (refine V.s1 ?_; (try simp only [Nat.zero_add, Nat.mul_zero, Nat.mul_one, lw, Int.natCast_zero, Int.natCast_one, Int.reduceMul, Int.reduceAdd, Int.reduceToNat, Nat.reduceMul, Nat.reduceAdd, Int.mul_zero, Int.mul_one, Int.add_zero, Int.zero_add, Int.toNat_zero, Int.toNat_one, List.set_cons_zero, List.set_cons_succ, List.length_cons, List.length_nil]))); exact ⟨rfl⟩)); (conv => whnf); (try simp only [Nat.zero_add, Nat.mul_zero, Nat.mul_one, lw, Int.natCast_zero, Int.natCast_one, Int.reduceMul, Int.reduceAdd, Int.reduceToNat, Nat.reduceMul, Nat.reduceAdd, Int.mul_zero, Int.mul_one, Int.add_zero, Int.zero_add, Int.toNat_zero, Int.toNat_one, List.set_cons_zero, List.set_cons_succ, List.length_cons, List.length_nil])) | ((try ((with_reducible refine .ext ?_); (conv => whnf); (try simp only [Nat.zero_add, Nat.mul_zero, Nat.mul_one, lw, Int.natCast_zero, Int.natCast_one, Int.reduceMul, Int.reduceAdd, Int.reduceToNat, Nat.reduceMul, Nat.reduceAdd, Int.mul_zero, Int.mul_one, Int.add_zero, Int.zero_add, Int.toNat_zero, Int.toNat_one, List.set_cons_zero, List.set_cons_succ, List.length_cons, List.length_nil]))); (with_reducible refine call_intro (r := ?_) ?_ ?_); rotate_left; (focus (first | exact (k1) | exact (k2))); (conv => whnf); (try simp only [Nat.zero_add, Nat.mul_zero, Nat.mul_one, lw, Int.natCast_zero, Int.natCast_one, Int.reduceMul, Int.reduceAdd, Int.reduceToNat, Nat.reduceMul, Nat.reduceAdd, Int.mul_zero, Int.mul_one, Int.add_zero, Int.zero_add, Int.toNat_zero, Int.toNat_one, List.set_cons_zero, List.set_cons_succ, List.length_cons, List.length_nil])))
          exact ⟨2, ⟨by omega, fun _ => hj.2.1 (by omega), fun _ => ⟨h1, h2⟩⟩, by omega, V.wk⟩
      · subst e
        have o1 := hj.2.1 (by omega)
        have o2 := hj.2.2 (by omega)
        (conv => whnf)
        refine V.st ?_
        exact ⟨2, ⟨by omega, fun _ => hi.2.1 (by omega), fun _ => ⟨o1.1, o1.2, o2.1, o2.2⟩⟩, by omega, V.wk⟩
    · subst e
      have o1 := hi.2.1 (by omega)
      have o2 := hi.2.2 (by omega)
      (conv => whnf)
      refine V.st ?_
      exact ⟨(true, lw (ev p p2 false) (ev p q2 false) (ev q p2 false) (ev q q2 false) 4, lw (ev p p2 true) (ev p q2 true) (ev q p2 true) (ev q q2 true) 4), ⟨fun _ => ⟨by simp [o1.1, o1.2.1, o1.2.2.1, o1.2.2.2, o2.1, o2.2.1, o2.2.2.1, o2.2.2.2], rfl, rfl⟩, fun h => (by cases h)⟩, V.wk⟩
  · rintro ⟨b, ls, hs⟩ hy
    cases b
    · rw [if_neg (by rw [hy.2 rfl]; simp)]
      clear hy
      dsimp only
      (conv => whnf)
      refine V.st ?_
      exact Fin.of rfl
    · obtain ⟨a1, a2, a3⟩ := hy.1 rfl
      dsimp only at a2 a3
      rw [if_pos a1]
      subst a2 a3
      clear hy
      dsimp only
      have kl := least_c (ev p p2 false) [ev p q2 false, ev q p2 false, ev q q2 false] (by simp)
      have kg := greatest_c (ev p p2 true) [ev p q2 true, ev q p2 true, ev q q2 true] (by simp)
      rw [show [ev p q2 false, ev q p2 false, ev q q2 false].foldl min (ev p p2 false) = min (min (min (ev p p2 false) (ev p q2 false)) (ev q p2 false)) (ev q q2 false) from rfl] at kl
      rw [show [ev p q2 true, ev q p2 true, ev q q2 true].foldl max (ev p p2 true) = max (max (max (ev p p2 true) (ev p q2 true)) (ev q p2 true)) (ev q q2 true) from rfl] at kg
      have km := made_b (min (min (min (ev p p2 false) (ev p q2 false)) (ev q p2 false)) (ev q q2 false)) (max (max (max (ev p p2 true) (ev p q2 true)) (ev q p2 true)) (ev q q2 true))
      generalize min (min (min (ev p p2 false) (ev p q2 false)) (ev q p2 false)) (ev q q2 false) = lo at *
      generalize max (max (max (ev p p2 true) (ev p q2 true)) (ev q p2 true)) (ev q q2 true) = hi at *
      generalize mk lo hi = r at *
      (conv => whnf)
      refine V.st ?_
      refine ⟨(.take 0 (.take 2 (.ev (.cons 1 [2] (.ev (.cons 3 [] (.ev (.cons 4 [] (.take 5 (.take 6 (.ev (.cons 7 [] (.take 8 (.done)) (.nil))))) (.nil))) (.nil))) (.nil))))), ⟨by kernel_rfl, by kernel_rfl, by kernel_rfl⟩, .go ?_⟩
      (conv => whnf)
      refine V.st ?_
      repeat ((try ((with_reducible refine .ext ?_); (conv => whnf))); (with_reducible refine call_intro (r := ?_) ?_ ?_); rotate_left; (focus (first | exact (kl) | exact (kg) | exact (km))); (conv => whnf); refine V.st ?_)
      exact Fin.of rfl
theorem spread_1 (p q p2 q2 : Int) (g : Nat) (d : Int) (ev : Int → Int → Bool → Int) (okk : Int → Int → Bool → Bool)
    (hg : ∀ x y u, (x = p ∨ x = q) → (y = p2 ∨ y = q2) → Called Tryz.prog g ([.int .i64 x, .int .i64 y, .bool u] ++ [.ref [.int .i64 d]]) (.tup [.int .i64 (ev x y u), .bool (okk x y u)])) :
    Called Tryz.prog 48 [bA p q, bA p2 q2, .fn g [] [.ref [.int .i64 d]]] (bD (if (okk p p2 false && okk p p2 true && okk p q2 false && okk p q2 true && okk q p2 false && okk q p2 true && okk q q2 false && okk q q2 true) = true then mk (min (min (min (ev p p2 false) (ev p q2 false)) (ev q p2 false)) (ev q q2 false)) (max (max (max (ev p p2 true) (ev p q2 true)) (ev q p2 true)) (ev q q2 true)) else (0, 0, 6))) := by
  refine called_of_run tbOk 6 ⟨Tryz.func48, rfl, rfl, Nat.le_of_ble_eq_true rfl⟩ ?_
  (conv => whnf)
  refine V.st ?_
  refine lp_exit (β := Bool × List Int × List Int) 0 (fun y => (y.1 = true → (okk p p2 false && okk p p2 true && okk p q2 false && okk p q2 true && okk q p2 false && okk q p2 true && okk q q2 false && okk q q2 true) = true ∧ y.2.1 = lw (ev p p2 false) (ev p q2 false) (ev q p2 false) (ev q q2 false) 4 ∧ y.2.2 = lw (ev p p2 true) (ev p q2 true) (ev q p2 true) (ev q q2 true) 4) ∧ (y.1 = false → (okk p p2 false && okk p p2 true && okk p q2 false && okk p q2 true && okk q p2 false && okk q p2 true && okk q q2 false && okk q q2 true) = false))
    (fun y => [(10, .bool y.1), (24, .any)]) (fun y => [(8, .arr .i64 y.2.1), (9, .arr .i64 y.2.2)]) ?_ ?_
  · refine lp_any (0 : Nat) (fun i => i ≤ 2 ∧ (1 ≤ i → okk p p2 false = true ∧ okk p p2 true = true ∧ okk p q2 false = true ∧ okk p q2 true = true) ∧ (2 ≤ i → okk q p2 false = true ∧ okk q p2 true = true ∧ okk q q2 false = true ∧ okk q q2 true = true)) (fun i => 2 - i)
      (fun i => [(24, .int .i64 i)]) (fun i => [(8, .arr .i64 (lw (ev p p2 false) (ev p q2 false) (ev q p2 false) (ev q q2 false) (2 * i))), (9, .arr .i64 (lw (ev p p2 true) (ev p q2 true) (ev q p2 true) (ev q q2 true) (2 * i)))]) ?_ ?_ ?_
    · exact V.wk
    · exact ⟨by omega, fun h => by omega, fun h => by omega⟩
    intro i hi
    rcases (by omega : i = 0 ∨ i = 1 ∨ i = 2) with e | e | e
    · subst e
      (conv => whnf)
      refine V.st ?_
      refine lp_any (0 : Nat) (fun j => j ≤ 2 ∧ (1 ≤ j → okk p p2 false = true ∧ okk p p2 true = true) ∧ (2 ≤ j → okk p q2 false = true ∧ okk p q2 true = true)) (fun j => 2 - j)
        (fun j => [(33, .int .i64 j)]) (fun j => [(8, .arr .i64 (lw (ev p p2 false) (ev p q2 false) (ev q p2 false) (ev q q2 false) (0 + j))), (9, .arr .i64 (lw (ev p p2 true) (ev p q2 true) (ev q p2 true) (ev q q2 true) (0 + j)))]) ?_ ?_ ?_
      · exact V.wk
      · exact ⟨by omega, fun h => by omega, fun h => by omega⟩
      intro j hj
      rcases (by omega : j = 0 ∨ j = 1 ∨ j = 2) with e | e | e
      · subst e
        have k1 := hg p p2 false (by simp) (by simp)
        have k2 := hg p p2 true (by simp) (by simp)
        obtain ⟨b1, h1⟩ : ∃ b, okk p p2 false = b := ⟨_, rfl⟩
        obtain ⟨b2, h2⟩ : ∃ b, okk p p2 true = b := ⟨_, rfl⟩
        rw [h1] at k1
        rw [h2] at k2
        cases b1 <;> cases b2
        · (conv => whnf)
          (try simp only [Nat.zero_add, Nat.mul_zero, Nat.mul_one, lw, Int.natCast_zero, Int.natCast_one, Int.reduceMul, Int.reduceAdd, Int.reduceToNat, Nat.reduceMul, Nat.reduceAdd, Int.mul_zero, Int.mul_one, Int.add_zero, Int.zero_add, Int.toNat_zero, Int.toNat_one, List.set_cons_zero, List.set_cons_succ, List.length_cons, List.length_nil])
          repeat (first | (refine V.s1 ?_; (try simp only [Nat.zero_add, Nat.mul_zero, Nat.mul_one, lw, Int.natCast_zero, Int.natCast_one, Int.reduceMul, Int.reduceAdd, Int.reduceToNat, Nat.reduceMul, Nat.reduceAdd, Int.mul_zero, Int.mul_one, Int.add_zero, Int.zero_add, Int.toNat_zero, Int.toNat_one, List.set_cons_zero, List.set_cons_succ, List.length_cons, List.length_nil])) | ((with_reducible refine recheck_and ?_ ?_); (focus ((conv => whnf); (try simp only [Nat.zero_add, Nat.mul_zero, Nat.mul_one, lw, Int.natCast_zero, Int.natCast_one, Int.reduceMul, Int.reduceAdd, Int.reduceToNat, Nat.reduceMul, Nat.reduceAdd, Int.mul_zero, Int.mul_one, Int.add_zero, Int.zero_add, Int.toNat_zero, Int.toNat_one, List.set_cons_zero, List.set_cons_succ, List.length_cons, List.length_nil]); (repeat (refine V.s1 ?_; (try simp only [Nat.zero_add, Nat.mul_zero, Nat.mul_one, lw, Int.natCast_zero, Int.natCast_one, Int.reduceMul, Int.reduceAdd, Int.reduceToNat, Nat.reduceMul, Nat.reduceAdd, Int.mul_zero, Int.mul_one, Int.add_zero, Int.zero_add, Int.toNat_zero, Int.toNat_one, List.set_cons_zero, List.set_cons_succ, List.length_cons, List.length_nil]))); exact ⟨rfl⟩)); (conv => whnf); (try simp only [Nat.zero_add, Nat.mul_zero, Nat.mul_one, lw, Int.natCast_zero, Int.natCast_one, Int.reduceMul, Int.reduceAdd, Int.reduceToNat, Nat.reduceMul, Nat.reduceAdd, Int.mul_zero, Int.mul_one, Int.add_zero, Int.zero_add, Int.toNat_zero, Int.toNat_one, List.set_cons_zero, List.set_cons_succ, List.length_cons, List.length_nil])) | ((try ((with_reducible refine .ext ?_); (conv => whnf); (try simp only [Nat.zero_add, Nat.mul_zero, Nat.mul_one, lw, Int.natCast_zero, Int.natCast_one, Int.reduceMul, Int.reduceAdd, Int.reduceToNat, Nat.reduceMul, Nat.reduceAdd, Int.mul_zero, Int.mul_one, Int.add_zero, Int.zero_add, Int.toNat_zero, Int.toNat_one, List.set_cons_zero, List.set_cons_succ, List.length_cons, List.length_nil]))); (with_reducible refine call_intro (r := ?_) ?_ ?_); rotate_left; (focus (first | exact (k1) | exact (k2))); (conv => whnf); (try simp only [Nat.zero_add, Nat.mul_zero, Nat.mul_one, lw, Int.natCast_zero, Int.natCast_one, Int.reduceMul, Int.reduceAdd, Int.reduceToNat, Nat.reduceMul, Nat.reduceAdd, Int.mul_zero, Int.mul_one, Int.add_zero, Int.zero_add, Int.toNat_zero, Int.toNat_one, List.set_cons_zero, List.set_cons_succ, List.length_cons, List.length_nil])))
          exact ⟨(false, lw (ev p p2 false) (ev p q2 false) (ev q p2 false) (ev q q2 false) 0, lw (ev p p2 true) (ev p q2 true) (ev q p2 true) (ev q q2 true) 0), ⟨fun h => (by cases h), fun _ => (by simp [h1, h2])⟩, V.wk⟩
        · (conv => whnf)
          (try simp only [Nat.zero_add, Nat.mul_zero, Nat.mul_one, lw, Int.natCast_zero, Int.natCast_one, Int.reduceMul, Int.reduceAdd, Int.reduceToNat, Nat.reduceMul, Nat.reduceAdd, Int.mul_zero, Int.mul_one, Int.add_zero, Int.zero_add, Int.toNat_zero, Int.toNat_one, List.set_cons_zero, List.set_cons_succ, List.length_cons, List.length_nil])
          repeat (first | (refine V.s1 ?_; (try simp only [Nat.zero_add, Nat.mul_zero, Nat.mul_one, lw, Int.natCast_zero, Int.natCast_one, Int.reduceMul, Int.reduceAdd, Int.reduceToNat, Nat.reduceMul, Nat.reduceAdd, Int.mul_zero, Int.mul_one, Int.add_zero, Int.zero_add, Int.toNat_zero, Int.toNat_one, List.set_cons_zero, List.set_cons_succ, List.length_cons, List.length_nil])) | ((with_reducible refine recheck_and ?_ ?_); (focus ((conv => whnf); (try simp only [Nat.zero_add, Nat.mul_zero, Nat.mul_one, lw, Int.natCast_zero, Int.natCast_one, Int.reduceMul, Int.reduceAdd, Int.reduceToNat, Nat.reduceMul, Nat.reduceAdd, Int.mul_zero, Int.mul_one, Int.add_zero, Int.zero_add, Int.toNat_zero, Int.toNat_one, List.set_cons_zero, List.set_cons_succ, List.length_cons, List.length_nil]); (repeat (refine V.s1 ?_; (try simp only [Nat.zero_add, Nat.mul_zero, Nat.mul_one, lw, Int.natCast_zero, Int.natCast_one, Int.reduceMul, Int.reduceAdd, Int.reduceToNat, Nat.reduceMul, Nat.reduceAdd, Int.mul_zero, Int.mul_one, Int.add_zero, Int.zero_add, Int.toNat_zero, Int.toNat_one, List.set_cons_zero, List.set_cons_succ, List.length_cons, List.length_nil]))); exact ⟨rfl⟩)); (conv => whnf); (try simp only [Nat.zero_add, Nat.mul_zero, Nat.mul_one, lw, Int.natCast_zero, Int.natCast_one, Int.reduceMul, Int.reduceAdd, Int.reduceToNat, Nat.reduceMul, Nat.reduceAdd, Int.mul_zero, Int.mul_one, Int.add_zero, Int.zero_add, Int.toNat_zero, Int.toNat_one, List.set_cons_zero, List.set_cons_succ, List.length_cons, List.length_nil])) | ((try ((with_reducible refine .ext ?_); (conv => whnf); (try simp only [Nat.zero_add, Nat.mul_zero, Nat.mul_one, lw, Int.natCast_zero, Int.natCast_one, Int.reduceMul, Int.reduceAdd, Int.reduceToNat, Nat.reduceMul, Nat.reduceAdd, Int.mul_zero, Int.mul_one, Int.add_zero, Int.zero_add, Int.toNat_zero, Int.toNat_one, List.set_cons_zero, List.set_cons_succ, List.length_cons, List.length_nil]))); (with_reducible refine call_intro (r := ?_) ?_ ?_); rotate_left; (focus (first | exact (k1) | exact (k2))); (conv => whnf); (try simp only [Nat.zero_add, Nat.mul_zero, Nat.mul_one, lw, Int.natCast_zero, Int.natCast_one, Int.reduceMul, Int.reduceAdd, Int.reduceToNat, Nat.reduceMul, Nat.reduceAdd, Int.mul_zero, Int.mul_one, Int.add_zero, Int.zero_add, Int.toNat_zero, Int.toNat_one, List.set_cons_zero, List.set_cons_succ, List.length_cons, List.length_nil])))
          exact ⟨(false, lw (ev p p2 false) (ev p q2 false) (ev q p2 false) (ev q q2 false) 0, lw (ev p p2 true) (ev p q2 true) (ev q p2 true) (ev q q2 true) 0), ⟨fun h => (by cases h), fun _ => (by simp [h1, h2])⟩, V.wk⟩
        · (conv => whnf)
          (try simp only [Nat.zero_add, Nat.mul_zero, Nat.mul_one, lw, Int.natCast_zero, Int.natCast_one, Int.reduceMul, Int.reduceAdd, Int.reduceToNat, Nat.reduceMul, Nat.reduceAdd, Int.mul_zero, Int.mul_one, Int.add_zero, Int.zero_add, Int.toNat_zero, Int.toNat_one, List.set_cons_zero, List.set_cons_succ, List.length_cons, List.length_nil])
          repeat (first | (refine V.s1 ?_; (try simp only [Nat.zero_add, Nat.mul_zero, Nat.mul_one, lw, Int.natCast_zero, Int.natCast_one, Int.reduceMul, Int.reduceAdd, Int.reduceToNat, Nat.reduceMul, Nat.reduceAdd, Int.mul_zero, Int.mul_one, Int.add_zero, Int.zero_add, Int.toNat_zero, Int.toNat_one, List.set_cons_zero, List.set_cons_succ, List.length_cons, List.length_nil])) | ((with_reducible refine recheck_and ?_ ?_); (focus ((conv => whnf); (try simp only [Nat.zero_add, Nat.mul_zero, Nat.mul_one, lw, Int.natCast_zero, Int.natCast_one, Int.reduceMul, Int.reduceAdd, Int.reduceToNat, Nat.reduceMul, Nat.reduceAdd, Int.mul_zero, Int.mul_one, Int.add_zero, Int.zero_add, Int.toNat_zero, Int.toNat_one, List.set_cons_zero, List.set_cons_succ, List.length_cons, List.length_nil]); (repeat (refine V.s1 ?_; (try simp only [Nat.zero_add, Nat.mul_zero, Nat.mul_one, lw, Int.natCast_zero, Int.natCast_one, Int.reduceMul, Int.reduceAdd, Int.reduceToNat, Nat.reduceMul, Nat.reduceAdd, Int.mul_zero, Int.mul_one, Int.add_zero, Int.zero_add, Int.toNat_zero, Int.toNat_one, List.set_cons_zero, List.set_cons_succ, List.length_cons, List.length_nil]))); exact ⟨rfl⟩)); (conv => whnf); (try simp only [Nat.zero_add, Nat.mul_zero, Nat.mul_one, lw, Int.natCast_zero, Int.natCast_one, Int.reduceMul, Int.reduceAdd, Int.reduceToNat, Nat.reduceMul, Nat.reduceAdd, Int.mul_zero, Int.mul_one, Int.add_zero, Int.zero_add, Int.toNat_zero, Int.toNat_one, List.set_cons_zero, List.set_cons_succ, List.length_cons, List.length_nil])) | ((try ((with_reducible refine .ext ?_); (conv => whnf); (try simp only [Nat.zero_add, Nat.mul_zero, Nat.mul_one, lw, Int.natCast_zero, Int.natCast_one, Int.reduceMul, Int.reduceAdd, Int.reduceToNat, Nat.reduceMul, Nat.reduceAdd, Int.mul_zero, Int.mul_one, Int.add_zero, Int.zero_add, Int.toNat_zero, Int.toNat_one, List.set_cons_zero, List.set_cons_succ, List.length_cons, List.length_nil]))); (with_reducible refine call_intro (r := ?_) ?_ ?_); rotate_left; (focus (first | exact (k1) | exact (k2))); (conv => whnf); (try simp only [Nat.zero_add, Nat.mul_zero, Nat.mul_one, lw, Int.natCast_zero, Int.natCast_one, Int.reduceMul, Int.reduceAdd, Int.reduceToNat, Nat.reduceMul, Nat.reduceAdd, Int.mul_zero, Int.mul_one, Int.add_zero, Int.zero_add, Int.toNat_zero, Int.toNat_one, List.set_cons_zero, List.set_cons_succ, List.length_cons, List.length_nil])))
          exact ⟨(false, lw (ev p p2 false) (ev p q2 false) (ev q p2 false) (ev q q2 false) 0, lw (ev p p2 true) (ev p q2 true) (ev q p2 true) (ev q q2 true) 0), ⟨fun h => (by cases h), fun _ => (by simp [h1, h2])⟩, V.wk⟩
        · (conv => whnf)
          (try simp only [Nat.zero_add, Nat.mul_zero, Nat.mul_one, lw, Int.natCast_zero, Int.natCast_one, Int.reduceMul, Int.reduceAdd, Int.reduceToNat, Nat.reduceMul, Nat.reduceAdd, Int.mul_zero, Int.mul_one, Int.add_zero, Int.zero_add, Int.toNat_zero, Int.toNat_one, List.set_cons_zero, List.set_cons_succ, List.length_cons, List.length_nil])
          repeat (first | (refine V.s1 ?_; (try simp only [Nat.zero_add, Nat.mul_zero, Nat.mul_one, lw, Int.natCast_zero, Int.natCast_one, Int.reduceMul, Int.reduceAdd, Int.reduceToNat, Nat.reduceMul, Nat.reduceAdd, Int.mul_zero, Int.mul_one, Int.add_zero, Int.zero_add, Int.toNat_zero, Int.toNat_one, List.set_cons_zero, List.set_cons_succ, List.length_cons, List.length_nil])) | ((with_reducible refine recheck_and ?_ ?_); (focus ((conv => whnf); (try simp only [Nat.zero_add, Nat.mul_zero, Nat.mul_one, lw, Int.natCast_zero, Int.natCast_one, Int.reduceMul, Int.reduceAdd, Int.reduceToNat, Nat.reduceMul, Nat.reduceAdd, Int.mul_zero, Int.mul_one, Int.add_zero, Int.zero_add, Int.toNat_zero, Int.toNat_one, List.set_cons_zero, List.set_cons_succ, List.length_cons, List.length_nil]); (repeat (refine V.s1 ?_; (try simp only [Nat.zero_add, Nat.mul_zero, Nat.mul_one, lw, Int.natCast_zero, Int.natCast_one, Int.reduceMul, Int.reduceAdd, Int.reduceToNat, Nat.reduceMul, Nat.reduceAdd, Int.mul_zero, Int.mul_one, Int.add_zero, Int.zero_add, Int.toNat_zero, Int.toNat_one, List.set_cons_zero, List.set_cons_succ, List.length_cons, List.length_nil]))); exact ⟨rfl⟩)); (conv => whnf); (try simp only [Nat.zero_add, Nat.mul_zero, Nat.mul_one, lw, Int.natCast_zero, Int.natCast_one, Int.reduceMul, Int.reduceAdd, Int.reduceToNat, Nat.reduceMul, Nat.reduceAdd, Int.mul_zero, Int.mul_one, Int.add_zero, Int.zero_add, Int.toNat_zero, Int.toNat_one, List.set_cons_zero, List.set_cons_succ, List.length_cons, List.length_nil])) | ((try ((with_reducible refine .ext ?_); (conv => whnf); (try simp only [Nat.zero_add, Nat.mul_zero, Nat.mul_one, lw, Int.natCast_zero, Int.natCast_one, Int.reduceMul, Int.reduceAdd, Int.reduceToNat, Nat.reduceMul, Nat.reduceAdd, Int.mul_zero, Int.mul_one, Int.add_zero, Int.zero_add, Int.toNat_zero, Int.toNat_one, List.set_cons_zero, List.set_cons_succ, List.length_cons, List.length_nil]))); (with_reducible refine call_intro (r := ?_) ?_ ?_); rotate_left; (focus (first | exact (k1) | exact (k2))); (conv => whnf); (try simp only [Nat.zero_add, Nat.mul_zero, Nat.mul_one, lw, Int.natCast_zero, Int.natCast_one, Int.reduceMul, Int.reduceAdd, Int.reduceToNat, Nat.reduceMul, Nat.reduceAdd, Int.mul_zero, Int.mul_one, Int.add_zero, Int.zero_add, Int.toNat_zero, Int.toNat_one, List.set_cons_zero, List.set_cons_succ, List.length_cons, List.length_nil])))
          exact ⟨1, ⟨by omega, fun _ => ⟨h1, h2⟩, fun _ => by omega⟩, by omega, V.wk⟩
      · subst e
        have k1 := hg p q2 false (by simp) (by simp)
        have k2 := hg p q2 true (by simp) (by simp)
        obtain ⟨b1, h1⟩ : ∃ b, okk p q2 false = b := ⟨_, rfl⟩
        obtain ⟨b2, h2⟩ : ∃ b, okk p q2 true = b := ⟨_, rfl⟩
        rw [h1] at k1
        rw [h2] at k2
        cases b1 <;> cases b2
        · (conv => whnf)
          (try simp only [Nat.zero_add, Nat.mul_zero, Nat.mul_one, lw, Int.natCast_zero, Int.natCast_one, Int.reduceMul, Int.reduceAdd, Int.reduceToNat, Nat.reduceMul, Nat.reduceAdd, Int.mul_zero, Int.mul_one, Int.add_zero, Int.zero_add, Int.toNat_zero, Int.toNat_one, List.set_cons_zero, List.set_cons_succ, List.length_cons, List.length_nil])
          repeat (first | (refine V.s1 ?_; (try simp only [Nat.zero_add, Nat.mul_zero, Nat.mul_one, lw, Int.natCast_zero, Int.natCast_one, Int.reduceMul, Int.reduceAdd, Int.reduceToNat, Nat.reduceMul, Nat.reduceAdd, Int.mul_zero, Int.mul_one, Int.add_zero, Int.zero_add, Int.toNat_zero, Int.toNat_one, List.set_cons_zero, List.set_cons_succ, List.length_cons, List.length_nil])) | ((with_reducible refine recheck_and ?_ ?_); (focus ((conv => whnf); (try simp only [Nat.zero_add, Nat.mul_zero, Nat.mul_one, lw, Int.natCast_zero, Int.natCast_one, Int.reduceMul, Int.reduceAdd, Int.reduceToNat, Nat.reduceMul, Nat.reduceAdd, Int.mul_zero, Int.mul_one, Int.add_zero, Int.zero_add, Int.toNat_zero, Int.toNat_one, List.set_cons_zero, List.set_cons_succ, List.length_cons, List.length_nil]); (repeat (refine V.s1 ?_; (try simp only [Nat.zero_add, Nat.mul_zero, Nat.mul_one, lw, Int.natCast_zero, Int.natCast_one, Int.reduceMul, Int.reduceAdd, Int.reduceToNat, Nat.reduceMul, Nat.reduceAdd, Int.mul_zero, Int.mul_one, Int.add_zero, Int.zero_add, Int.toNat_zero, Int.toNat_one, List.set_cons_zero, List.set_cons_succ, List.length_cons, List.length_nil]))); exact ⟨rfl⟩)); (conv => whnf); (try simp only [Nat.zero_add, Nat.mul_zero, Nat.mul_one, lw, Int.natCast_zero, Int.natCast_one, Int.reduceMul, Int.reduceAdd, Int.reduceToNat, Nat.reduceMul, Nat.reduceAdd, Int.mul_zero, Int.mul_one, Int.add_zero, Int.zero_add, Int.toNat_zero, Int.toNat_one, List.set_cons_zero, List.set_cons_succ, List.length_cons, List.length_nil])) | ((try ((with_reducible refine .ext ?_); (conv => whnf); (try simp only [Nat.zero_add, Nat.mul_zero, Nat.mul_one, lw, Int.natCast_zero, Int.natCast_one, Int.reduceMul, Int.reduceAdd, Int.reduceToNat, Nat.reduceMul, Nat.reduceAdd, Int.mul_zero, Int.mul_one, Int.add_zero, Int.zero_add, Int.toNat_zero, Int.toNat_one, List.set_cons_zero, List.set_cons_succ, List.length_cons, List.length_nil]))); (with_reducible refine call_intro (r := ?_) ?_ ?_); rotate_left; (focus (first | exact (k1) | exact (k2))); (conv => whnf); (try simp only [Nat.zero_add, Nat.mul_zero, Nat.mul_one, lw, Int.natCast_zero, Int.natCast_one, Int.reduceMul, Int.reduceAdd, Int.reduceToNat, Nat.reduceMul, Nat.reduceAdd, Int.mul_zero, Int.mul_one, Int.add_zero, Int.zero_add, Int.toNat_zero, Int.toNat_one, List.set_cons_zero, List.set_cons_succ, List.length_cons, List.length_nil])))
          exact ⟨(false, lw (ev p p2 false) (ev p q2 false) (ev q p2 false) (ev q q2 false) 1, lw (ev p p2 true) (ev p q2 true) (ev q p2 true) (ev q q2 true) 1), ⟨fun h => (by cases h), fun _ => (by simp [h1, h2])⟩, V.wk⟩
        · (conv => whnf)
          (try simp only [Nat.zero_add, Nat.mul_zero, Nat.mul_one, lw, Int.natCast_zero, Int.natCast_one, Int.reduceMul, Int.reduceAdd, Int.reduceToNat, Nat.reduceMul, Nat.reduceAdd, Int.mul_zero, Int.mul_one, Int.add_zero, Int.zero_add, Int.toNat_zero, Int.toNat_one, List.set_cons_zero, List.set_cons_succ, List.length_cons, List.length_nil])
          repeat (first | (refine V.s1 ?_; (try simp only [Nat.zero_add, Nat.mul_zero, Nat.mul_one, lw, Int.natCast_zero, Int.natCast_one, Int.reduceMul, Int.reduceAdd, Int.reduceToNat, Nat.reduceMul, Nat.reduceAdd, Int.mul_zero, Int.mul_one, Int.add_zero, Int.zero_add, Int.toNat_zero, Int.toNat_one, List.set_cons_zero, List.set_cons_succ, List.length_cons, List.length_nil])) | ((with_reducible refine recheck_and ?_ ?_); (focus ((conv => whnf); (try simp only [Nat.zero_add, Nat.mul_zero, Nat.mul_one, lw, Int.natCast_zero, Int.natCast_one, Int.reduceMul, Int.reduceAdd, Int.reduceToNat, Nat.reduceMul, Nat.reduceAdd, Int.mul_zero, Int.mul_one, Int.add_zero, Int.zero_add, Int.toNat_zero, Int.toNat_one, List.set_cons_zero, List.set_cons_succ, List.length_cons, List.length_nil]); (repeat (refine V.s1 ?_; (try simp only [Nat.zero_add, Nat.mul_zero, Nat.mul_one, lw, Int.natCast_zero, Int.natCast_one, Int.reduceMul, Int.reduceAdd, Int.reduceToNat, Nat.reduceMul, Nat.reduceAdd, Int.mul_zero, Int.mul_one, Int.add_zero, Int.zero_add, Int.toNat_zero, Int.toNat_one, List.set_cons_zero, List.set_cons_succ, List.length_cons, List.length_nil]))); exact ⟨rfl⟩)); (conv => whnf); (try simp only [Nat.zero_add, Nat.mul_zero, Nat.mul_one, lw, Int.natCast_zero, Int.natCast_one, Int.reduceMul, Int.reduceAdd, Int.reduceToNat, Nat.reduceMul, Nat.reduceAdd, Int.mul_zero, Int.mul_one, Int.add_zero, Int.zero_add, Int.toNat_zero, Int.toNat_one, List.set_cons_zero, List.set_cons_succ, List.length_cons, List.length_nil])) | ((try ((with_reducible refine .ext ?_); (conv => whnf); (try simp only [Nat.zero_add, Nat.mul_zero, Nat.mul_one, lw, Int.natCast_zero, Int.natCast_one, Int.reduceMul, Int.reduceAdd, Int.reduceToNat, Nat.reduceMul, Nat.reduceAdd, Int.mul_zero, Int.mul_one, Int.add_zero, Int.zero_add, Int.toNat_zero, Int.toNat_one, List.set_cons_zero, List.set_cons_succ, List.length_cons, List.length_nil]))); (with_reducible refine call_intro (r := ?_) ?_ ?_); rotate_left; (focus (first | exact (k1) | exact (k2))); (conv => whnf); (try simp only [Nat.zero_add, Nat.mul_zero, Nat.mul_one, lw, Int.natCast_zero, Int.natCast_one, Int.reduceMul, Int.reduceAdd, Int.reduceToNat, Nat.reduceMul, Nat.reduceAdd, Int.mul_zero, Int.mul_one, Int.add_zero, Int.zero_add, Int.toNat_zero, Int.toNat_one, List.set_cons_zero, List.set_cons_succ, List.length_cons, List.length_nil])))
          exact ⟨(false, lw (ev p p2 false) (ev p q2 false) (ev q p2 false) (ev q q2 false) 1, lw (ev p p2 true) (ev p q2 true) (ev q p2 true) (ev q q2 true) 1), ⟨fun h => (by cases h), fun _ => (by simp [h1, h2])⟩, V.wk⟩
        · (conv => whnf)
          (try simp only [Nat.zero_add, Nat.mul_zero, Nat.mul_one, lw, Int.natCast_zero, Int.natCast_one, Int.reduceMul, Int.reduceAdd, Int.reduceToNat, Nat.reduceMul, Nat.reduceAdd, Int.mul_zero, Int.mul_one, Int.add_zero, Int.zero_add, Int.toNat_zero, Int.toNat_one, List.set_cons_zero, List.set_cons_succ, List.length_cons, List.length_nil])
          repeat (first | (refine V.s1 ?_; (try simp only [Nat.zero_add, Nat.mul_zero, Nat.mul_one, lw, Int.natCast_zero, Int.natCast_one, Int.reduceMul, Int.reduceAdd, Int.reduceToNat, Nat.reduceMul, Nat.reduceAdd, Int.mul_zero, Int.mul_one, Int.add_zero, Int.zero_add, Int.toNat_zero, Int.toNat_one, List.set_cons_zero, List.set_cons_succ, List.length_cons, List.length_nil])) | ((with_reducible refine recheck_and ?_ ?_); (focus ((conv => whnf); (try simp only [Nat.zero_add, Nat.mul_zero, Nat.mul_one, lw, Int.natCast_zero, Int.natCast_one, Int.reduceMul, Int.reduceAdd, Int.reduceToNat, Nat.reduceMul, Nat.reduceAdd, Int.mul_zero, Int.mul_one, Int.add_zero, Int.zero_add, Int.toNat_zero, Int.toNat_one, List.set_cons_zero, List.set_cons_succ, List.length_cons, List.length_nil]); (repeat (refine V.s1 ?_; (try simp only [Nat.zero_add, Nat.mul_zero, Nat.mul_one, lw, Int.natCast_zero, Int.natCast_one, Int.reduceMul, Int.reduceAdd, Int.reduceToNat, Nat.reduceMul, Nat.reduceAdd, Int.mul_zero, Int.mul_one, Int.add_zero, Int.zero_add, Int.toNat_zero, Int.toNat_one, List.set_cons_zero, List.set_cons_succ, List.length_cons, List.length_nil]))); exact ⟨rfl⟩)); (conv => whnf); (try simp only [Nat.zero_add, Nat.mul_zero, Nat.mul_one, lw, Int.natCast_zero, Int.natCast_one, Int.reduceMul, Int.reduceAdd, Int.reduceToNat, Nat.reduceMul, Nat.reduceAdd, Int.mul_zero, Int.mul_one, Int.add_zero, Int.zero_add, Int.toNat_zero, Int.toNat_one, List.set_cons_zero, List.set_cons_succ, List.length_cons, List.length_nil])) | ((try ((with_reducible refine .ext ?_); (conv => whnf); (try simp only [Nat.zero_add, Nat.mul_zero, Nat.mul_one, lw, Int.natCast_zero, Int.natCast_one, Int.reduceMul, Int.reduceAdd, Int.reduceToNat, Nat.reduceMul, Nat.reduceAdd, Int.mul_zero, Int.mul_one, Int.add_zero, Int.zero_add, Int.toNat_zero, Int.toNat_one, List.set_cons_zero, List.set_cons_succ, List.length_cons, List.length_nil]))); (with_reducible refine call_intro (r := ?_) ?_ ?_); rotate_left; (focus (first | exact (k1) | exact (k2))); (conv => whnf); (try simp only [Nat.zero_add, Nat.mul_zero, Nat.mul_one, lw, Int.natCast_zero, Int.natCast_one, Int.reduceMul, Int.reduceAdd, Int.reduceToNat, Nat.reduceMul, Nat.reduceAdd, Int.mul_zero, Int.mul_one, Int.add_zero, Int.zero_add, Int.toNat_zero, Int.toNat_one, List.set_cons_zero, List.set_cons_succ, List.length_cons, List.length_nil])))
          exact ⟨(false, lw (ev p p2 false) (ev p q2 false) (ev q p2 false) (ev q q2 false) 1, lw (ev p p2 true) (ev p q2 true) (ev q p2 true) (ev q q2 true) 1), ⟨fun h => (by cases h), fun _ => (by simp [h1, h2])⟩, V.wk⟩
        · (conv => whnf)
          (try simp only [Nat.zero_add, Nat.mul_zero, Nat.mul_one, lw, Int.natCast_zero, Int.natCast_one, Int.reduceMul, Int.reduceAdd, Int.reduceToNat, Nat.reduceMul, Nat.reduceAdd, Int.mul_zero, Int.mul_one, Int.add_zero, Int.zero_add, Int.toNat_zero, Int.toNat_one, List.set_cons_zero, List.set_cons_succ, List.length_cons, List.length_nil])
          repeat (first | (refine V.s1 ?_; (try simp only [Nat.zero_add, Nat.mul_zero, Nat.mul_one, lw, Int.natCast_zero, Int.natCast_one, Int.reduceMul, Int.reduceAdd, Int.reduceToNat, Nat.reduceMul, Nat.reduceAdd, Int.mul_zero, Int.mul_one, Int.add_zero, Int.zero_add, Int.toNat_zero, Int.toNat_one, List.set_cons_zero, List.set_cons_succ, List.length_cons, List.length_nil])) | ((with_reducible refine recheck_and ?_ ?_); (focus ((conv => whnf); (try simp only [Nat.zero_add, Nat.mul_zero, Nat.mul_one, lw, Int.natCast_zero, Int.natCast_one, Int.reduceMul, Int.reduceAdd, Int.reduceToNat, Nat.reduceMul, Nat.reduceAdd, Int.mul_zero, Int.mul_one, Int.add_zero, Int.zero_add, Int.toNat_zero, Int.toNat_one, List.set_cons_zero, List.set_cons_succ, List.length_cons, List.length_nil]); (repeat (refine V.s1 ?_; (try simp only [Nat.zero_add, Nat.mul_zero, Nat.mul_one, lw, Int.natCast_zero, Int.natCast_one, Int.reduceMul, Int.reduceAdd, Int.reduceToNat, Nat.reduceMul, Nat.reduceAdd, Int.mul_zero, Int.mul_one, Int.add_zero, Int.zero_add, Int.toNat_zero, Int.toNat_one, List.set_cons_zero, List.set_cons_succ, List.length_cons, List.length_nil]))); exact ⟨rfl⟩)); (conv => whnf); (try simp only [Nat.zero_add, Nat.mul_zero, Nat.mul_one, lw, Int.natCast_zero, Int.natCast_one, Int.reduceMul, Int.reduceAdd, Int.reduceToNat, Nat.reduceMul, Nat.reduceAdd, Int.mul_zero, Int.mul_one, Int.add_zero, Int.zero_add, Int.toNat_zero, Int.toNat_one, List.set_cons_zero, List.set_cons_succ, List.length_cons, List.length_nil])) | ((try ((with_reducible refine .ext ?_); (conv => whnf); (try simp only [Nat.zero_add, Nat.mul_zero, Nat.mul_one, lw, Int.natCast_zero, Int.natCast_one, Int.reduceMul, Int.reduceAdd, Int.reduceToNat, Nat.reduceMul, Nat.reduceAdd, Int.mul_zero, Int.mul_one, Int.add_zero, Int.zero_add, Int.toNat_zero, Int.toNat_one, List.set_cons_zero, List.set_cons_succ, List.length_cons, List.length_nil]))); (with_reducible refine call_intro (r := ?_) ?_ ?_); rotate_left; (focus (first | exact (k1) | exact (k2))); (conv => whnf); (try simp only [Nat.zero_add, Nat.mul_zero, Nat.mul_one, lw, Int.natCast_zero, Int.natCast_one, Int.reduceMul, Int.reduceAdd, Int.reduceToNat, Nat.reduceMul, Nat.reduceAdd, Int.mul_zero, Int.mul_one, Int.add_zero, Int.zero_add, Int.toNat_zero, Int.toNat_one, List.set_cons_zero, List.set_cons_succ, List.length_cons, List.length_nil])))
          exact ⟨2, ⟨by omega, fun _ => hj.2.1 (by omega), fun _ => ⟨h1, h2⟩⟩, by omega, V.wk⟩
      · subst e
        have o1 := hj.2.1 (by omega)
        have o2 := hj.2.2 (by omega)
        (conv => whnf)
        refine V.st ?_
        exact ⟨1, ⟨by omega, fun _ => ⟨o1.1, o1.2, o2.1, o2.2⟩, fun _ => by omega⟩, by omega, V.wk⟩
    · subst e
      (conv => whnf)
      refine V.st ?_
      refine lp_any (0 : Nat) (fun j => j ≤ 2 ∧ (1 ≤ j → okk q p2 false = true ∧ okk q p2 true = true) ∧ (2 ≤ j → okk q q2 false = true ∧ okk q q2 true = true)) (fun j => 2 - j)
        (fun j => [(33, .int .i64 j)]) (fun j => [(8, .arr .i64 (lw (ev p p2 false) (ev p q2 false) (ev q p2 false) (ev q q2 false) (2 + j))), (9, .arr .i64 (lw (ev p p2 true) (ev p q2 true) (ev q p2 true) (ev q q2 true) (2 + j)))]) ?_ ?_ ?_
      · exact V.wk
      · exact ⟨by omega, fun h => by omega, fun h => by omega⟩
      intro j hj
      rcases (by omega : j = 0 ∨ j = 1 ∨ j = 2) with e | e | e
      · subst e
        have k1 := hg q p2 false (by simp) (by simp)
        have k2 := hg q p2 true (by simp) (by simp)
        obtain ⟨b1, h1⟩ : ∃ b, okk q p2 false = b := ⟨_, rfl⟩
        obtain ⟨b2, h2⟩ : ∃ b, okk q p2 true = b := ⟨_, rfl⟩
        rw [h1] at k1
        rw [h2] at k2
        cases b1 <;> cases b2
        · (conv => whnf)
          (try simp only [Nat.zero_add, Nat.mul_zero, Nat.mul_one, lw, Int.natCast_zero, Int.natCast_one, Int.reduceMul, Int.reduceAdd, Int.reduceToNat, Nat.reduceMul, Nat.reduceAdd, Int.mul_zero, Int.mul_one, Int.add_zero, Int.zero_add, Int.toNat_zero, Int.toNat_one, List.set_cons_zero, List.set_cons_succ, List.length_cons, List.length_nil])
          repeat (first | (refine V.s1 ?_; (try simp only [Nat.zero_add, Nat.mul_zero, Nat.mul_one, lw, Int.natCast_zero, Int.natCast_one, Int.reduceMul, Int.reduceAdd, Int.reduceToNat, Nat.reduceMul, Nat.reduceAdd, Int.mul_zero, Int.mul_one, Int.add_zero, Int.zero_add, Int.toNat_zero, Int.toNat_one, List.set_cons_zero, List.set_cons_succ, List.length_cons, List.length_nil])) | ((with_reducible refine recheck_and ?_ ?_); (focus ((conv => whnf); (try simp only [Nat.zero_add, Nat.mul_zero, Nat.mul_one, lw, Int.natCast_zero, Int.natCast_one, Int.reduceMul, Int.reduceAdd, Int.reduceToNat, Nat.reduceMul, Nat.reduceAdd, Int.mul_zero, Int.mul_one, Int.add_zero, Int.zero_add, Int.toNat_zero, Int.toNat_one, List.set_cons_zero, List.set_cons_succ, List.length_cons, List.length_nil]); (repeat (refine V.s1 ?_; (try simp only [Nat.zero_add, Nat.mul_zero, Nat.mul_one, lw, Int.natCast_zero, Int.natCast_one, Int.reduceMul, Int.reduceAdd, Int.reduceToNat, Nat.reduceMul, Nat.reduceAdd, Int.mul_zero, Int.mul_one, Int.add_zero, Int.zero_add, Int.toNat_zero, Int.toNat_one, List.set_cons_zero, List.set_cons_succ, List.length_cons, List.length_nil]))); exact ⟨rfl⟩)); (conv => whnf); (try simp only [Nat.zero_add, Nat.mul_zero, Nat.mul_one, lw, Int.natCast_zero, Int.natCast_one, Int.reduceMul, Int.reduceAdd, Int.reduceToNat, Nat.reduceMul, Nat.reduceAdd, Int.mul_zero, Int.mul_one, Int.add_zero, Int.zero_add, Int.toNat_zero, Int.toNat_one, List.set_cons_zero, List.set_cons_succ, List.length_cons, List.length_nil])) | ((try ((with_reducible refine .ext ?_); (conv => whnf); (try simp only [Nat.zero_add, Nat.mul_zero, Nat.mul_one, lw, Int.natCast_zero, Int.natCast_one, Int.reduceMul, Int.reduceAdd, Int.reduceToNat, Nat.reduceMul, Nat.reduceAdd, Int.mul_zero, Int.mul_one, Int.add_zero, Int.zero_add, Int.toNat_zero, Int.toNat_one, List.set_cons_zero, List.set_cons_succ, List.length_cons, List.length_nil]))); (with_reducible refine call_intro (r := ?_) ?_ ?_); rotate_left; (focus (first | exact (k1) | exact (k2))); (conv => whnf); (try simp only [Nat.zero_add, Nat.mul_zero, Nat.mul_one, lw, Int.natCast_zero, Int.natCast_one, Int.reduceMul, Int.reduceAdd, Int.reduceToNat, Nat.reduceMul, Nat.reduceAdd, Int.mul_zero, Int.mul_one, Int.add_zero, Int.zero_add, Int.toNat_zero, Int.toNat_one, List.set_cons_zero, List.set_cons_succ, List.length_cons, List.length_nil])))
          exact ⟨(false, lw (ev p p2 false) (ev p q2 false) (ev q p2 false) (ev q q2 false) 2, lw (ev p p2 true) (ev p q2 true) (ev q p2 true) (ev q q2 true) 2), ⟨fun h => (by cases h), fun _ => (by simp [h1, h2])⟩, V.wk⟩
        · (conv => whnf)
          (try simp only [Nat.zero_add, Nat.mul_zero, Nat.mul_one, lw, Int.natCast_zero, Int.natCast_one, Int.reduceMul, Int.reduceAdd, Int.reduceToNat, Nat.reduceMul, Nat.reduceAdd, Int.mul_zero, Int.mul_one, Int.add_zero, Int.zero_add, Int.toNat_zero, Int.toNat_one, List.set_cons_zero, List.set_cons_succ, List.length_cons, List.length_nil])
          repeat (first | (refine V.s1 ?_; (try simp only [Nat.zero_add, Nat.mul_zero, Nat.mul_one, lw, Int.natCast_zero, Int.natCast_one, Int.reduceMul, Int.reduceAdd, Int.reduceToNat, Nat.reduceMul, Nat.reduceAdd, Int.mul_zero, Int.mul_one, Int.add_zero, Int.zero_add, Int.toNat_zero, Int.toNat_one, List.set_cons_zero, List.set_cons_succ, List.length_cons, List.length_nil])) | ((with_reducible refine recheck_and ?_ ?_); (focus ((conv => whnf); (try simp only [Nat.zero_add, Nat.mul_zero, Nat.mul_one, lw, Int.natCast_zero, Int.natCast_one, Int.reduceMul, Int.reduceAdd, Int.reduceToNat, Nat.reduceMul, Nat.reduceAdd, Int.mul_zero, Int.mul_one, Int.add_zero, Int.zero_add, Int.toNat_zero, Int.toNat_one, List.set_cons_zero, List.set_cons_succ, List.length_cons, List.length_nil]); (repeat (refine V.s1 ?_; (try simp only [Nat.zero_add, Nat.mul_zero, Nat.mul_one, lw, Int.natCast_zero, Int.natCast_one, Int.reduceMul, Int.reduceAdd, Int.reduceToNat, Nat.reduceMul, Nat.reduceAdd, Int.mul_zero, Int.mul_one, Int.add_zero, Int.zero_add, Int.toNat_zero, Int.toNat_one, List.set_cons_zero, List.set_cons_succ, List.length_cons, List.length_nil]))); exact ⟨rfl⟩)); (conv => whnf); (try simp only [Nat.zero_add, Nat.mul_zero, Nat.mul_one, lw, Int.natCast_zero, Int.natCast_one, Int.reduceMul, Int.reduceAdd, Int.reduceToNat, Nat.reduceMul, Nat.reduceAdd, Int.mul_zero, Int.mul_one, Int.add_zero, Int.zero_add, Int.toNat_zero, Int.toNat_one, List.set_cons_zero, List.set_cons_succ, List.length_cons, List.length_nil])) | ((try ((with_reducible refine .ext ?_); (conv => whnf); (try simp only [Nat.zero_add, Nat.mul_zero, Nat.mul_one, lw, Int.natCast_zero, Int.natCast_one, Int.reduceMul, Int.reduceAdd, Int.reduceToNat, Nat.reduceMul, Nat.reduceAdd, Int.mul_zero, Int.mul_one, Int.add_zero, Int.zero_add, Int.toNat_zero, Int.toNat_one, List.set_cons_zero, List.set_cons_succ, List.length_cons, List.length_nil]))); (with_reducible refine call_intro (r := ?_) ?_ ?_); rotate_left; (focus (first | exact (k1) | exact (k2))); (conv => whnf); (try simp only [Nat.zero_add, Nat.mul_zero, Nat.mul_one, lw, Int.natCast_zero, Int.natCast_one, Int.reduceMul, Int.reduceAdd, Int.reduceToNat, Nat.reduceMul, Nat.reduceAdd, Int.mul_zero, Int.mul_one, Int.add_zero, Int.zero_add, Int.toNat_zero, Int.toNat_one, List.set_cons_zero, List.set_cons_succ, List.length_cons, List.length_nil])))
          exact ⟨(false, lw (ev p p2 false) (ev p q2 false) (ev q p2 false) (ev q q2 false) 2, lw (ev p p2 true) (ev p q2 true) (ev q p2 true) (ev q q2 true) 2), ⟨fun h => (by cases h), fun _ => (by simp [h1, h2])⟩, V.wk⟩
        · (conv => whnf)
          (try simp only [Nat.zero_add, Nat.mul_zero, Nat.mul_one, lw, Int.natCast_zero, Int.natCast_one, Int.reduceMul, Int.reduceAdd, Int.reduceToNat, Nat.reduceMul, Nat.reduceAdd, Int.mul_zero, Int.mul_one, Int.add_zero, Int.zero_add, Int.toNat_zero, Int.toNat_one, List.set_cons_zero, List.set_cons_succ, List.length_cons, List.length_nil])
          repeat (first | (refine V.s1 ?_; (try simp only [Nat.zero_add, Nat.mul_zero, Nat.mul_one, lw, Int.natCast_zero, Int.natCast_one, Int.reduceMul, Int.reduceAdd, Int.reduceToNat, Nat.reduceMul, Nat.reduceAdd, Int.mul_zero, Int.mul_one, Int.add_zero, Int.zero_add, Int.toNat_zero, Int.toNat_one, List.set_cons_zero, List.set_cons_succ, List.length_cons, List.length_nil])) | ((with_reducible refine recheck_and ?_ ?_); (focus ((conv => whnf); (try simp only [Nat.zero_add, Nat.mul_zero, Nat.mul_one, lw, Int.natCast_zero, Int.natCast_one, Int.reduceMul, Int.reduceAdd, Int.reduceToNat, Nat.reduceMul, Nat.reduceAdd, Int.mul_zero, Int.mul_one, Int.add_zero, Int.zero_add, Int.toNat_zero, Int.toNat_one, List.set_cons_zero, List.set_cons_succ, List.length_cons, List.length_nil]); (repeat (refine V.s1 ?_; (try simp only [Nat.zero_add, Nat.mul_zero, Nat.mul_one, lw, Int.natCast_zero, Int.natCast_one, Int.reduceMul, Int.reduceAdd, Int.reduceToNat, Nat.reduceMul, Nat.reduceAdd, Int.mul_zero, Int.mul_one, Int.add_zero, Int.zero_add, Int.toNat_zero, Int.toNat_one, List.set_cons_zero, List.set_cons_succ, List.length_cons, List.length_nil]))); exact ⟨rfl⟩)); (conv => whnf); (try simp only [Nat.zero_add, Nat.mul_zero, Nat.mul_one, lw, Int.natCast_zero, Int.natCast_one, Int.reduceMul, Int.reduceAdd, Int.reduceToNat, Nat.reduceMul, Nat.reduceAdd, Int.mul_zero, Int.mul_one, Int.add_zero, Int.zero_add, Int.toNat_zero, Int.toNat_one, List.set_cons_zero, List.set_cons_succ, List.length_cons, List.length_nil])) | ((try ((with_reducible refine .ext ?_); (conv => whnf); (try simp only [Nat.zero_add, Nat.mul_zero, Nat.mul_one, lw, Int.natCast_zero, Int.natCast_one, Int.reduceMul, Int.reduceAdd, Int.reduceToNat, Nat.reduceMul, Nat.reduceAdd, Int.mul_zero, Int.mul_one, Int.add_zero, Int.zero_add, Int.toNat_zero, Int.toNat_one, List.set_cons_zero, List.set_cons_succ, List.length_cons, List.length_nil]))); (with_reducible refine call_intro (r := ?_) ?_ ?_); rotate_left; (focus (first | exact (k1) | exact (k2))); (conv => whnf); (try simp only [Nat.zero_add, Nat.mul_zero, Nat.mul_one, lw, Int.natCast_zero, Int.natCast_one, Int.reduceMul, Int.reduceAdd, Int.reduceToNat, Nat.reduceMul, Nat.reduceAdd, Int.mul_zero, Int.mul_one, Int.add_zero, Int.zero_add, Int.toNat_zero, Int.toNat_one, List.set_cons_zero, List.set_cons_succ, List.length_cons, List.length_nil])))
          exact ⟨(false, lw (ev p p2 false) (ev p q2 false) (ev q p2 false) (ev q q2 false) 2, lw (ev p p2 true) (ev p q2 true) (ev q p2 true) (ev q q2 true) 2), ⟨fun h => (by cases h), fun _ => (by simp [h1, h2])⟩, V.wk⟩
        · (conv => whnf)
          (try simp only [Nat.zero_add, Nat.mul_zero, Nat.mul_one, lw, Int.natCast_zero, Int.natCast_one, Int.reduceMul, Int.reduceAdd, Int.reduceToNat, Nat.reduceMul, Nat.reduceAdd, Int.mul_zero, Int.mul_one, Int.add_zero, Int.zero_add, Int.toNat_zero, Int.toNat_one, List.set_cons_zero, List.set_cons_succ, List.length_cons, List.length_nil])
          repeat (first | (refine V.s1 ?_; (try simp only [Nat.zero_add, Nat.mul_zero, Nat.mul_one, lw, Int.natCast_zero, Int.natCast_one, Int.reduceMul, Int.reduceAdd, Int.reduceToNat, Nat.reduceMul, Nat.reduceAdd, Int.mul_zero, Int.mul_one, Int.add_zero, Int.zero_add, Int.toNat_zero, Int.toNat_one, List.set_cons_zero, List.set_cons_succ, List.length_cons, List.length_nil])) | ((with_reducible refine recheck_and ?_ ?_); (focus ((conv => whnf); (try simp only [Nat.zero_add, Nat.mul_zero, Nat.mul_one, lw, Int.natCast_zero, Int.natCast_one, Int.reduceMul, Int.reduceAdd, Int.reduceToNat, Nat.reduceMul, Nat.reduceAdd, Int.mul_zero, Int.mul_one, Int.add_zero, Int.zero_add, Int.toNat_zero, Int.toNat_one, List.set_cons_zero, List.set_cons_succ, List.length_cons, List.length_nil]); (repeat (refine V.s1 ?_; (try simp only [Nat.zero_add, Nat.mul_zero, Nat.mul_one, lw, Int.natCast_zero, Int.natCast_one, Int.reduceMul, Int.reduceAdd, Int.reduceToNat, Nat.reduceMul, Nat.reduceAdd, Int.mul_zero, Int.mul_one, Int.add_zero, Int.zero_add, Int.toNat_zero, Int.toNat_one, List.set_cons_zero, List.set_cons_succ, List.length_cons, List.length_nil]))); exact ⟨rfl⟩)); (conv => whnf); (try simp only [Nat.zero_add, Nat.mul_zero, Nat.mul_one, lw, Int.natCast_zero, Int.natCast_one, Int.reduceMul, Int.reduceAdd, Int.reduceToNat, Nat.reduceMul, Nat.reduceAdd, Int.mul_zero, Int.mul_one, Int.add_zero, Int.zero_add, Int.toNat_zero, Int.toNat_one, List.set_cons_zero, List.set_cons_succ, List.length_cons, List.length_nil])) | ((try ((with_reducible refine .ext ?_); (conv => whnf); (try simp only [Nat.zero_add, Nat.mul_zero, Nat.mul_one, lw, Int.natCast_zero, Int.natCast_one, Int.reduceMul, Int.reduceAdd, Int.reduceToNat, Nat.reduceMul, Nat.reduceAdd, Int.mul_zero, Int.mul_one, Int.add_zero, Int.zero_add, Int.toNat_zero, Int.toNat_one, List.set_cons_zero, List.set_cons_succ, List.length_cons, List.length_nil]))); (with_reducible refine call_intro (r := ?_) ?_ ?_); rotate_left; (focus (first | exact (k1) | exact (k2))); (conv => whnf); (try simp only [Nat.zero_add, Nat.mul_zero, Nat.mul_one, lw, Int.natCast_zero, Int.natCast_one, Int.reduceMul, Int.reduceAdd, Int.reduceToNat, Nat.reduceMul, Nat.reduceAdd, Int.mul_zero, Int.mul_one, Int.add_zero, Int.zero_add, Int.toNat_zero, Int.toNat_one, List.set_cons_zero, List.set_cons_succ, List.length_cons, List.length_nil])))
          exact ⟨1, ⟨by omega, fun _ => ⟨h1, h2⟩, fun _ => by omega⟩, by omega, V.wk⟩
      · subst e
        have k1 := hg q q2 false (by simp) (by simp)
        have k2 := hg q q2 true (by simp) (by simp)
        obtain ⟨b1, h1⟩ : ∃ b, okk q q2 false = b := ⟨_, rfl⟩
        obtain ⟨b2, h2⟩ : ∃ b, okk q q2 true = b := ⟨_, rfl⟩
        rw [h1] at k1
        rw [h2] at k2
        cases b1 <;> cases b2
        · (conv => whnf)
          (try simp only [Nat.zero_add, Nat.mul_zero, Nat.mul_one, lw, Int.natCast_zero, Int.natCast_one, Int.reduceMul, Int.reduceAdd, Int.reduceToNat, Nat.reduceMul, Nat.reduceAdd, Int.mul_zero, Int.mul_one, Int.add_zero, Int.zero_add, Int.toNat_zero, Int.toNat_one, List.set_cons_zero, List.set_cons_succ, List.length_cons, List.length_nil])
          repeat (first | (refine V.s1 ?_; (try simp only [Nat.zero_add, Nat.mul_zero, Nat.mul_one, lw, Int.natCast_zero, Int.natCast_one, Int.reduceMul, Int.reduceAdd, Int.reduceToNat, Nat.reduceMul, Nat.reduceAdd, Int.mul_zero, Int.mul_one, Int.add_zero, Int.zero_add, Int.toNat_zero, Int.toNat_one, List.set_cons_zero, List.set_cons_succ, List.length_cons, List.length_nil])) | ((with_reducible refine recheck_and ?_ ?_); (focus ((conv => whnf); (try simp only [Nat.zero_add, Nat.mul_zero, Nat.mul_one, lw, Int.natCast_zero, Int.natCast_one, Int.reduceMul, Int.reduceAdd, Int.reduceToNat, Nat.reduceMul, Nat.reduceAdd, Int.mul_zero, Int.mul_one, Int.add_zero, Int.zero_add, Int.toNat_zero, Int.toNat_one, List.set_cons_zero, List.set_cons_succ, List.length_cons, List.length_nil]); (repeat (refine V.s1 ?_; (try simp only [Nat.zero_add, Nat.mul_zero, Nat.mul_one, lw, Int.natCast_zero, Int.natCast_one, Int.reduceMul, Int.reduceAdd, Int.reduceToNat, Nat.reduceMul, Nat.reduceAdd, Int.mul_zero, Int.mul_one, Int.add_zero, Int.zero_add, Int.toNat_zero, Int.toNat_one, List.set_cons_zero, List.set_cons_succ, List.length_cons, List.length_nil]))); exact ⟨rfl⟩)); (conv => whnf); (try simp only [Nat.zero_add, Nat.mul_zero, Nat.mul_one, lw, Int.natCast_zero, Int.natCast_one, Int.reduceMul, Int.reduceAdd, Int.reduceToNat, Nat.reduceMul, Nat.reduceAdd, Int.mul_zero, Int.mul_one, Int.add_zero, Int.zero_add, Int.toNat_zero, Int.toNat_one, List.set_cons_zero, List.set_cons_succ, List.length_cons, List.length_nil])) | ((try ((with_reducible refine .ext ?_); (conv => whnf); (try simp only [Nat.zero_add, Nat.mul_zero, Nat.mul_one, lw, Int.natCast_zero, Int.natCast_one, Int.reduceMul, Int.reduceAdd, Int.reduceToNat, Nat.reduceMul, Nat.reduceAdd, Int.mul_zero, Int.mul_one, Int.add_zero, Int.zero_add, Int.toNat_zero, Int.toNat_one, List.set_cons_zero, List.set_cons_succ, List.length_cons, List.length_nil]))); (with_reducible refine call_intro (r := ?_) ?_ ?_); rotate_left; (focus (first | exact (k1) | exact (k2))); (conv => whnf); (try simp only [Nat.zero_add, Nat.mul_zero, Nat.mul_one, lw, Int.natCast_zero, Int.natCast_one, Int.reduceMul, Int.reduceAdd, Int.reduceToNat, Nat.reduceMul, Nat.reduceAdd, Int.mul_zero, Int.mul_one, Int.add_zero, Int.zero_add, Int.toNat_zero, Int.toNat_one, List.set_cons_zero, List.set_cons_succ, List.length_cons, List.length_nil])))
          exact ⟨(false, lw (ev p p2 false) (ev p q2 false) (ev q p2 false) (ev q q2 false) 3, lw (ev p p2 true) (ev p q2 true) (ev q p2 true) (ev q q2 true) 3), ⟨fun h => (by cases h), fun _ => (by simp [h1, h2])⟩, V.wk⟩
        · (conv => whnf)
          (try simp only [Nat.zero_add, Nat.mul_zero, Nat.mul_one, lw, Int.natCast_zero, Int.natCast_one, Int.reduceMul, Int.reduceAdd, Int.reduceToNat, Nat.reduceMul, Nat.reduceAdd, Int.mul_zero, Int.mul_one, Int.add_zero, Int.zero_add, Int.toNat_zero, Int.toNat_one, List.set_cons_zero, List.set_cons_succ, List.length_cons, List.length_nil])
          repeat (first | (refine V.s1 ?_; (try simp only [Nat.zero_add, Nat.mul_zero, Nat.mul_one, lw, Int.natCast_zero, Int.natCast_one, Int.reduceMul, Int.reduceAdd, Int.reduceToNat, Nat.reduceMul, Nat.reduceAdd, Int.mul_zero, Int.mul_one, Int.add_zero, Int.zero_add, Int.toNat_zero, Int.toNat_one, List.set_cons_zero, List.set_cons_succ, List.length_cons, List.length_nil])) | ((with_reducible refine recheck_and ?_ ?_); (focus ((conv => whnf); (try simp only [Nat.zero_add, Nat.mul_zero, Nat.mul_one, lw, Int.natCast_zero, Int.natCast_one, Int.reduceMul, Int.reduceAdd, Int.reduceToNat, Nat.reduceMul, Nat.reduceAdd, Int.mul_zero, Int.mul_one, Int.add_zero, Int.zero_add, Int.toNat_zero, Int.toNat_one, List.set_cons_zero, List.set_cons_succ, List.length_cons, List.length_nil]); (repeat (refine V.s1 ?_; (try simp only [Nat.zero_add, Nat.mul_zero, Nat.mul_one, lw, Int.natCast_zero, Int.natCast_one, Int.reduceMul, Int.reduceAdd, Int.reduceToNat, Nat.reduceMul, Nat.reduceAdd, Int.mul_zero, Int.mul_one, Int.add_zero, Int.zero_add, Int.toNat_zero, Int.toNat_one, List.set_cons_zero, List.set_cons_succ, List.length_cons, List.length_nil]))); exact ⟨rfl⟩)); (conv => whnf); (try simp only [Nat.zero_add, Nat.mul_zero, Nat.mul_one, lw, Int.natCast_zero, Int.natCast_one, Int.reduceMul, Int.reduceAdd, Int.reduceToNat, Nat.reduceMul, Nat.reduceAdd, Int.mul_zero, Int.mul_one, Int.add_zero, Int.zero_add, Int.toNat_zero, Int.toNat_one, List.set_cons_zero, List.set_cons_succ, List.length_cons, List.length_nil])) | ((try ((with_reducible refine .ext ?_); (conv => whnf); (try simp only [Nat.zero_add, Nat.mul_zero, Nat.mul_one, lw, Int.natCast_zero, Int.natCast_one, Int.reduceMul, Int.reduceAdd, Int.reduceToNat, Nat.reduceMul, Nat.reduceAdd, Int.mul_zero, Int.mul_one, Int.add_zero, Int.zero_add, Int.toNat_zero, Int.toNat_one, List.set_cons_zero, List.set_cons_succ, List.length_cons, List.length_nil]))); (with_reducible refine call_intro (r := ?_) ?_ ?_); rotate_left; (focus (first | exact (k1) | exact (k2))); (conv => whnf); (try simp only [Nat.zero_add, Nat.mul_zero, Nat.mul_one, lw, Int.natCast_zero, Int.natCast_one, Int.reduceMul, Int.reduceAdd, Int.reduceToNat, Nat.reduceMul, Nat.reduceAdd, Int.mul_zero, Int.mul_one, Int.add_zero, Int.zero_add, Int.toNat_zero, Int.toNat_one, List.set_cons_zero, List.set_cons_succ, List.length_cons, List.length_nil])))
          exact ⟨(false, lw (ev p p2 false) (ev p q2 false) (ev q p2 false) (ev q q2 false) 3, lw (ev p p2 true) (ev p q2 true) (ev q p2 true) (ev q q2 true) 3), ⟨fun h => (by cases h), fun _ => (by simp [h1, h2])⟩, V.wk⟩
        · (conv => whnf)
          (try simp only [Nat.zero_add, Nat.mul_zero, Nat.mul_one, lw, Int.natCast_zero, Int.natCast_one, Int.reduceMul, Int.reduceAdd, Int.reduceToNat, Nat.reduceMul, Nat.reduceAdd, Int.mul_zero, Int.mul_one, Int.add_zero, Int.zero_add, Int.toNat_zero, Int.toNat_one, List.set_cons_zero, List.set_cons_succ, List.length_cons, List.length_nil])
          repeat (first | (refine V.s1 ?_; (try simp only [Nat.zero_add, Nat.mul_zero, Nat.mul_one, lw, Int.natCast_zero, Int.natCast_one, Int.reduceMul, Int.reduceAdd, Int.reduceToNat, Nat.reduceMul, Nat.reduceAdd, Int.mul_zero, Int.mul_one, Int.add_zero, Int.zero_add, Int.toNat_zero, Int.toNat_one, List.set_cons_zero, List.set_cons_succ, List.length_cons, List.length_nil])) | ((with_reducible refine recheck_and ?_ ?_); (focus ((conv => whnf); (try simp only [Nat.zero_add, Nat.mul_zero, Nat.mul_one, lw, Int.natCast_zero, Int.natCast_one, Int.reduceMul, Int.reduceAdd, Int.reduceToNat, Nat.reduceMul, Nat.reduceAdd, Int.mul_zero, Int.mul_one, Int.add_zero, Int.zero_add, Int.toNat_zero, Int.toNat_one, List.set_cons_zero, List.set_cons_succ, List.length_cons, List.length_nil]); (repeat (refine V.s1 ?_; (try simp only [Nat.zero_add, Nat.mul_zero, Nat.mul_one, lw, Int.natCast_zero, Int.natCast_one, Int.reduceMul, Int.reduceAdd, Int.reduceToNat, Nat.reduceMul, Nat.reduceAdd, Int.mul_zero, Int.mul_one, Int.add_zero, Int.zero_add, Int.toNat_zero, Int.toNat_one, List.set_cons_zero, List.set_cons_succ, List.length_cons, List.length_nil]))); exact ⟨rfl⟩)); (conv => whnf); (try simp only [Nat.zero_add, Nat.mul_zero, Nat.mul_one, lw, Int.natCast_zero, Int.natCast_one, Int.reduceMul, Int.reduceAdd, Int.reduceToNat, Nat.reduceMul, Nat.reduceAdd, Int.mul_zero, Int.mul_one, Int.add_zero, Int.zero_add, Int.toNat_zero, Int.toNat_one, List.set_cons_zero, List.set_cons_succ, List.length_cons, List.length_nil])) | ((try ((with_reducible refine .ext ?_); (conv => whnf); (try simp only [Nat.zero_add, Nat.mul_zero, Nat.mul_one, lw, Int.natCast_zero, Int.natCast_one, Int.reduceMul, Int.reduceAdd, Int.reduceToNat, Nat.reduceMul, Nat.reduceAdd, Int.mul_zero, Int.mul_one, Int.add_zero, Int.zero_add, Int.toNat_zero, Int.toNat_one, List.set_cons_zero, List.set_cons_succ, List.length_cons, List.length_nil]))); (with_reducible refine call_intro (r := ?_) ?_ ?_); rotate_left; (focus (first | exact (k1) | exact (k2))); (conv => whnf); (try simp only [Nat.zero_add, Nat.mul_zero, Nat.mul_one, lw, Int.natCast_zero, Int.natCast_one, Int.reduceMul, Int.reduceAdd, Int.reduceToNat, Nat.reduceMul, Nat.reduceAdd, Int.mul_zero, Int.mul_one, Int.add_zero, Int.zero_add, Int.toNat_zero, Int.toNat_one, List.set_cons_zero, List.set_cons_succ, List.length_cons, List.length_nil])))
          exact ⟨(false, lw (ev p p2 false) (ev p q2 false) (ev q p2 false) (ev q q2 false) 3, lw (ev p p2 true) (ev p q2 true) (ev q p2 true) (ev q q2 true) 3), ⟨fun h => (by cases h), fun _ => (by simp [h1, h2])⟩, V.wk⟩
        · (conv => whnf)
          (try simp only [Nat.zero_add, Nat.mul_zero, Nat.mul_one, lw, Int.natCast_zero, Int.natCast_one, Int.reduceMul, Int.reduceAdd, Int.reduceToNat, Nat.reduceMul, Nat.reduceAdd, Int.mul_zero, Int.mul_one, Int.add_zero, Int.zero_add, Int.toNat_zero, Int.toNat_one, List.set_cons_zero, List.set_cons_succ, List.length_cons, List.length_nil])
          repeat (first | (refine V.s1 ?_; (try simp only [Nat.zero_add, Nat.mul_zero, Nat.mul_one, lw, Int.natCast_zero, Int.natCast_one, Int.reduceMul, Int.reduceAdd, Int.reduceToNat, Nat.reduceMul, Nat.reduceAdd, Int.mul_zero, Int.mul_one, Int.add_zero, Int.zero_add, Int.toNat_zero, Int.toNat_one, List.set_cons_zero, List.set_cons_succ, List.length_cons, List.length_nil])) | ((with_reducible refine recheck_and ?_ ?_); (focus ((conv => whnf); (try simp only [Nat.zero_add, Nat.mul_zero, Nat.mul_one, lw, Int.natCast_zero, Int.natCast_one, Int.reduceMul, Int.reduceAdd, Int.reduceToNat, Nat.reduceMul, Nat.reduceAdd, Int.mul_zero, Int.mul_one, Int.add_zero, Int.zero_add, Int.toNat_zero, Int.toNat_one, List.set_cons_zero, List.set_cons_succ, List.length_cons, List.length_nil]); (repeat (refine V.s1 ?_; (try simp only [Nat.zero_add, Nat.mul_zero, Nat.mul_one, lw, Int.natCast_zero, Int.natCast_one, Int.reduceMul, Int.reduceAdd, Int.reduceToNat, Nat.reduceMul, Nat.reduceAdd, Int.mul_zero, Int.mul_one, Int.add_zero, Int.zero_add, Int.toNat_zero, Int.toNat_one, List.set_cons_zero, List.set_cons_succ, List.length_cons, List.length_nil]))); exact ⟨rfl⟩)); (conv => whnf); (try simp only [Nat.zero_add, Nat.mul_zero, Nat.mul_one, lw, Int.natCast_zero, Int.natCast_one, Int.reduceMul, Int.reduceAdd, Int.reduceToNat, Nat.reduceMul, Nat.reduceAdd, Int.mul_zero, Int.mul_one, Int.add_zero, Int.zero_add, Int.toNat_zero, Int.toNat_one, List.set_cons_zero, List.set_cons_succ, List.length_cons, List.length_nil])) | ((try ((with_reducible refine .ext ?_); (conv => whnf); (try simp only [Nat.zero_add, Nat.mul_zero, Nat.mul_one, lw, Int.natCast_zero, Int.natCast_one, Int.reduceMul, Int.reduceAdd, Int.reduceToNat, Nat.reduceMul, Nat.reduceAdd, Int.mul_zero, Int.mul_one, Int.add_zero, Int.zero_add, Int.toNat_zero, Int.toNat_one, List.set_cons_zero, List.set_cons_succ, List.length_cons, List.length_nil]))); (with_reducible refine call_intro (r := ?_) ?_ ?_); rotate_left; (focus (first | exact (k1) | exact (k2))); (conv => whnf); (try simp only [Nat.zero_add, Nat.mul_zero, Nat.mul_one, lw, Int.natCast_zero, Int.natCast_one, Int.reduceMul, Int.reduceAdd, Int.reduceToNat, Nat.reduceMul, Nat.reduceAdd, Int.mul_zero, Int.mul_one, Int.add_zero, Int.zero_add, Int.toNat_zero, Int.toNat_one, List.set_cons_zero, List.set_cons_succ, List.length_cons, List.length_nil])))
          exact ⟨2, ⟨by omega, fun _ => hj.2.1 (by omega), fun _ => ⟨h1, h2⟩⟩, by omega, V.wk⟩
      · subst e
        have o1 := hj.2.1 (by omega)
        have o2 := hj.2.2 (by omega)
        (conv => whnf)
        refine V.st ?_
        exact ⟨2, ⟨by omega, fun _ => hi.2.1 (by omega), fun _ => ⟨o1.1, o1.2, o2.1, o2.2⟩⟩, by omega, V.wk⟩
    · subst e
      have o1 := hi.2.1 (by omega)
      have o2 := hi.2.2 (by omega)
      (conv => whnf)
      refine V.st ?_
      exact ⟨(true, lw (ev p p2 false) (ev p q2 false) (ev q p2 false) (ev q q2 false) 4, lw (ev p p2 true) (ev p q2 true) (ev q p2 true) (ev q q2 true) 4), ⟨fun _ => ⟨by simp [o1.1, o1.2.1, o1.2.2.1, o1.2.2.2, o2.1, o2.2.1, o2.2.2.1, o2.2.2.2], rfl, rfl⟩, fun h => (by cases h)⟩, V.wk⟩
  · rintro ⟨b, ls, hs⟩ hy
    cases b
    · rw [if_neg (by rw [hy.2 rfl]; simp)]
      clear hy
      dsimp only
      (conv => whnf)
      refine V.st ?_
      exact Fin.of rfl
    · obtain ⟨a1, a2, a3⟩ := hy.1 rfl
      dsimp only at a2 a3
      rw [if_pos a1]
      subst a2 a3
      clear hy
      dsimp only
      have kl := least_c (ev p p2 false) [ev p q2 false, ev q p2 false, ev q q2 false] (by simp)
      have kg := greatest_c (ev p p2 true) [ev p q2 true, ev q p2 true, ev q q2 true] (by simp)
      rw [show [ev p q2 false, ev q p2 false, ev q q2 false].foldl min (ev p p2 false) = min (min (min (ev p p2 false) (ev p q2 false)) (ev q p2 false)) (ev q q2 false) from rfl] at kl
      rw [show [ev p q2 true, ev q p2 true, ev q q2 true].foldl max (ev p p2 true) = max (max (max (ev p p2 true) (ev p q2 true)) (ev q p2 true)) (ev q q2 true) from rfl] at kg
      have km := made_b (min (min (min (ev p p2 false) (ev p q2 false)) (ev q p2 false)) (ev q q2 false)) (max (max (max (ev p p2 true) (ev p q2 true)) (ev q p2 true)) (ev q q2 true))
      generalize min (min (min (ev p p2 false) (ev p q2 false)) (ev q p2 false)) (ev q q2 false) = lo at *
      generalize max (max (max (ev p p2 true) (ev p q2 true)) (ev q p2 true)) (ev q q2 true) = hi at *
      generalize mk lo hi = r at *
      (conv => whnf)
      refine V.st ?_
      refine ⟨(.take 0 (.take 2 (.ev (.cons 1 [2] (.ev (.cons 3 [] (.ev (.cons 4 [] (.take 5 (.take 6 (.ev (.cons 7 [] (.take 8 (.done)) (.nil))))) (.nil))) (.nil))) (.nil))))), ⟨by kernel_rfl, by kernel_rfl, by kernel_rfl⟩, .go ?_⟩
      (conv => whnf)
      refine V.st ?_
      repeat ((try ((with_reducible refine .ext ?_); (conv => whnf))); (with_reducible refine call_intro (r := ?_) ?_ ?_); rotate_left; (focus (first | exact (kl) | exact (kg) | exact (km))); (conv => whnf); refine V.st ?_)
      exact Fin.of rfl
end Go.Proofs.YtoiaoofgnnhocaaGreatDoor
end
section
/-! a digit of a quotient of two digits, found by trial: exact -/
namespace Go.Nb
structure Tr (B top v2 head u2 : Int) : Prop where
  hB : 2 ≤ B
  t1 : 1 ≤ top
  tB : top < B
  v0 : 0 ≤ v2
  vB : v2 < B
  u0 : 0 ≤ u2
  uB : u2 < B
  h0 : 0 ≤ head
  lt : head * B + u2 < B * (top * B + v2)
section
variable {B top v2 head u2 : Int}
theorem Tr.kn (T : Tr B top v2 head u2) : Kn B top v2 0 u2 0 head (head * B + u2) (top * B + v2) 1 :=
  { hB := T.hB, hP := by omega, ht := T.t1, hv := by omega, hu := by omega, v20 := T.v0, v2B := T.vB, u20 := T.u0, u2B := T.uB, vr0 := by omega, vrP := by omega, ur0 := by omega, urP := by omega, hh := T.h0, htB := T.tB, lt := T.lt }
theorem Tr.vpos (T : Tr B top v2 head u2) : 0 < top * B + v2 := T.kn.vpos
theorem Tr.qnn (T : Tr B top v2 head u2) : 0 ≤ (head * B + u2) / (top * B + v2) := by
  have h1 : 0 ≤ head * B := Int.mul_nonneg T.h0 (by have := T.hB; omega)
  exact Int.ediv_nonneg (by have := T.u0; omega) (by have := T.vpos; omega)
theorem Tr.qmul (T : Tr B top v2 head u2) : (head * B + u2) / (top * B + v2) * (top * B + v2) ≤ head * B + u2 := Int.ediv_mul_le _ (by have := T.vpos; omega)
theorem Tr.init (T : Tr B top v2 head u2) : (head * B + u2) / (top * B + v2) ≤ head / top := T.kn.init T.qnn T.qmul
theorem Tr.step (T : Tr B top v2 head u2) {q r : Int} (hq : (head * B + u2) / (top * B + v2) ≤ q) (hr : head = q * top + r) (hc : B ≤ q ∨ r * B + u2 < q * v2) :
    (head * B + u2) / (top * B + v2) ≤ q - 1 ∧ head = (q - 1) * top + (r + top) :=
  ⟨T.kn.step T.qnn T.qmul hq hr hc, by rw [Int.sub_mul, Int.one_mul]; omega⟩
theorem Tr.fin (T : Tr B top v2 head u2) {q : Int} (hq : (head * B + u2) / (top * B + v2) ≤ q) (h : q * (top * B + v2) ≤ head * B + u2) : q = (head * B + u2) / (top * B + v2) := by
  have := (Int.le_ediv_iff_mul_le T.vpos).2 h
  omega
theorem Tr.exit1 (T : Tr B top v2 head u2) {q r : Int} (hq : (head * B + u2) / (top * B + v2) ≤ q) (hr : head = q * top + r) (h2 : q * v2 ≤ r * B + u2) : q = (head * B + u2) / (top * B + v2) := by
  refine T.fin hq ?_
  have e : head * B = q * (top * B) + r * B := by rw [hr, Int.add_mul, Int.mul_assoc]
  rw [Int.mul_add, e]
  omega
theorem Tr.exit2 (T : Tr B top v2 head u2) {q r : Int} (hq : (head * B + u2) / (top * B + v2) ≤ q) (hr : head = q * top + r) (h2 : B ≤ r) : q < B ∧ q = (head * B + u2) / (top * B + v2) := by
  have hq0 : 0 ≤ q := Int.le_trans T.qnn hq
  have hqB := (T.kn.out2 hq0 hr h2).1
  refine ⟨hqB, T.fin hq ?_⟩
  have e : head * B = q * (top * B) + r * B := by rw [hr, Int.add_mul, Int.mul_assoc]
  have h3 : B * B ≤ r * B := Int.mul_le_mul_of_nonneg_right h2 (by have := T.hB; omega)
  have h4 : q * v2 ≤ B * B := Int.mul_le_mul (by omega) (by have := T.vB; omega) T.v0 (by have := T.hB; omega)
  have := T.u0
  rw [Int.mul_add, e]
  omega
theorem Tr.lt' (T : Tr B top v2 head u2) : (head * B + u2) / (top * B + v2) < B := T.kn.qlt T.qmul
end
/-- the digit by its name -/
structure Tq (B top v2 head u2 Q : Int) : Prop where
  T : Tr B top v2 head u2
  e : (head * B + u2) / (top * B + v2) = Q
section
variable {B top v2 head u2 Q : Int}
theorem Tq.init (T : Tq B top v2 head u2 Q) : Q ≤ head / top := by rw [← T.e]; exact T.T.init
theorem Tq.step (T : Tq B top v2 head u2 Q) {q r : Int} (hq : Q ≤ q) (hr : head = q * top + r) (hc : B ≤ q ∨ r * B + u2 < q * v2) : Q ≤ q - 1 ∧ head = (q - 1) * top + (r + top) := by
  rw [← T.e] at hq ⊢; exact T.T.step hq hr hc
theorem Tq.exit1 (T : Tq B top v2 head u2 Q) {q r : Int} (hq : Q ≤ q) (hr : head = q * top + r) (h2 : q * v2 ≤ r * B + u2) : q = Q := by
  rw [← T.e] at hq ⊢; exact T.T.exit1 hq hr h2
theorem Tq.exit2 (T : Tq B top v2 head u2 Q) {q r : Int} (hq : Q ≤ q) (hr : head = q * top + r) (h2 : B ≤ r) : q = Q := by
  rw [← T.e] at hq ⊢; exact (T.T.exit2 hq hr h2).2
theorem Tq.lt (T : Tq B top v2 head u2 Q) : Q < B := by rw [← T.e]; exact T.T.lt'
end
/-- two digits of a quotient, one after the other -/
theorem two_digits {B V u1 u0 h : Nat} (hV : 0 < V) (hu : u0 < B) :
    ((h * B + u1) * B + u0) / V = (h * B + u1) / V * B + ((h * B + u1) % V * B + u0) / V ∧ ((h * B + u1) * B + u0) % V = ((h * B + u1) % V * B + u0) % V := by
  generalize h * B + u1 = U
  have e : U * B + u0 = U % V * B + u0 + V * (U / V * B) := by
    have h1 := Nat.div_add_mod U V
    have h2 : U * B = (V * (U / V) + U % V) * B := by rw [h1]
    rw [h2, Nat.add_mul, Nat.mul_assoc]
    omega
  constructor
  · rw [e, Nat.add_mul_div_left _ _ hV]; omega
  · rw [e, Nat.add_mul_mod_self_left]
/-- the bits that go from the lower word to the upper one -/
theorem shl_or {hi lo s : Nat} (hs : s ≤ 64) (hl : lo < 18446744073709551616) : (hi * 2 ^ s ||| lo / 2 ^ (64 - s)) = (hi * 18446744073709551616 + lo) * 2 ^ s / 18446744073709551616 := by
  have hp : 2 ^ s * 2 ^ (64 - s) = 18446744073709551616 := by rw [← Nat.pow_add, show s + (64 - s) = 64 by omega]
  have hlt : lo / 2 ^ (64 - s) < 2 ^ s := by
    refine Nat.div_lt_of_lt_mul ?_
    rw [Nat.mul_comm, hp]; exact hl
  rw [Nat.mul_comm hi, ← Nat.two_pow_add_eq_or_of_lt hlt, Nat.add_mul]
  have e1 : hi * 18446744073709551616 * 2 ^ s = 18446744073709551616 * (2 ^ s * hi) := by ac_rfl
  rw [e1, Nat.add_comm, Nat.add_comm _ (lo * 2 ^ s), Nat.add_mul_div_left _ _ (by omega)]
  congr 1
  have e2 : lo * 2 ^ s / (2 ^ s * 2 ^ (64 - s)) = lo / 2 ^ (64 - s) := by
    rw [← Nat.div_div_eq_div_mul, Nat.mul_div_cancel _ (Nat.pow_pos (by omega))]
  rw [hp] at e2
  exact e2.symm
end Go.Nb
end
section
/-! bits.Div64 -/
set_option linter.unusedSimpArgs false
set_option linter.unusedVariables false
set_option maxHeartbeats 8000000
set_option maxRecDepth 100000
namespace Go.Nb
theorem bla_lt : ∀ (f x : Nat), x < 2 ^ f → x < 2 ^ Go.Lib.bitLenAux f x
  | 0, x, h => by simpa [Go.Lib.bitLenAux] using h
  | f + 1, x, h => by
    unfold Go.Lib.bitLenAux
    split
    · rename_i h0; subst h0; exact Nat.pow_pos (by omega)
    · have h2 := bla_lt f (x / 2) (by rw [Nat.pow_succ] at h; omega)
      rw [Nat.add_comm, Nat.pow_succ]
      omega
theorem bla_ge : ∀ (f x : Nat), x < 2 ^ f → x ≠ 0 → 2 ^ Go.Lib.bitLenAux f x ≤ 2 * x
  | 0, x, h, h0 => by simp at h; exact absurd h h0
  | f + 1, x, h, h0 => by
    unfold Go.Lib.bitLenAux
    rw [if_neg h0, Nat.add_comm, Nat.pow_succ]
    by_cases h1 : x / 2 = 0
    · rw [h1]
      have : Go.Lib.bitLenAux f 0 = 0 := by cases f <;> simp [Go.Lib.bitLenAux]
      rw [this]; omega
    · have h2 := bla_ge f (x / 2) (by rw [Nat.pow_succ] at h; omega) h1
      omega
/-- how far a number is shifted to the left until its highest bit is set -/
theorem lz_spec (y : Nat) (h0 : 0 < y) (h : y < 18446744073709551616) : ∃ s : Nat, (64 - (Go.Lib.bitLen y : Int)) = s ∧ s ≤ 63 ∧ 9223372036854775808 ≤ y * 2 ^ s ∧ y * 2 ^ s < 18446744073709551616 := by
  have h1 := bla_lt 64 y h
  have h2 := bla_ge 64 y h (by omega)
  have h3 := Go.Lib.bitLenAux_le 64 y 64 h
  have h4 : Go.Lib.bitLenAux 64 y ≠ 0 := fun e => by rw [e] at h1; omega
  unfold Go.Lib.bitLen
  generalize Go.Lib.bitLenAux 64 y = l at *
  refine ⟨64 - l, by omega, by omega, ?_, ?_⟩
  · have e : 2 ^ l * 2 ^ (64 - l) = 18446744073709551616 := by rw [← Nat.pow_add, show l + (64 - l) = 64 by omega]
    have h5 : 2 ^ l * 2 ^ (64 - l) ≤ 2 * y * 2 ^ (64 - l) := Nat.mul_le_mul_right _ h2
    rw [e, Nat.mul_assoc] at h5
    omega
  · have e : 2 ^ l * 2 ^ (64 - l) = 18446744073709551616 := by rw [← Nat.pow_add, show l + (64 - l) = 64 by omega]
    have h5 : y * 2 ^ (64 - l) < 2 ^ l * 2 ^ (64 - l) := Nat.mul_lt_mul_of_pos_right h1 (Nat.pow_pos (by omega))
    omega
theorem wrapN (a : Nat) (ha : a < 18446744073709551616) : IntKind.u64.wrap (a : Int) = (a : Int) := by rw [IntKind.wrap_u64]; omega
theorem maskN (a : Nat) (ha : a < 18446744073709551616) : bits .and .u64 (a : Int) 4294967295 = ((a % 4294967296 : Nat) : Int) := by
  have h := bits_and_u64_nat a 4294967295 ha (by omega)
  have e : a &&& 4294967295 = a % 4294967296 := Nat.and_two_pow_sub_one_eq_mod a 32
  rw [e] at h
  exact h
end Go.Nb
namespace Go.Proofs.YtoiaoofgnnhocaaGreatDoor
open Go Go.V Go.Nb
theorem lz_c (x : Nat) (h0 : 0 < x) (hx : x < 18446744073709551616) : Called Tryz.prog 103 [.int .u64 x] (.int .i64 (64 - (Lib.bitLen x : Int))) := by
  refine called_of_grown Tryz.func103 rfl rfl rfl fun w hp vs ha hd => ?_
  simp only [DenL, Den] at hd
  obtain ⟨v, _, rfl, ⟨rfl, h1⟩, rfl⟩ := hd
  refine (Tryz.bits_LeadingZeros64 x w (by omega) (by omega)).mono fun e w' ⟨he, hw⟩ => ⟨⟨_, he, fun hp => ?_⟩, ?_⟩
  · rw [Int.toNat_natCast]
    obtain ⟨s, hs, _⟩ := lz_spec x h0 hx
    rw [hs]
    simp only [Den]
    exact ⟨trivial, by simp only [V.lo]; omega, by simp only [V.hi]; omega⟩
  · rw [hw]; exact RowKit.Below.refl _ _
/-- the numbers of Div64 -/
structure Dv (hi lo y s Y yn1 yn0 t A C un32 un10 un1 un0 : Nat) : Prop where
  s63 : s ≤ 63
  tt : (64 - (s : Int)).toNat = t
  Yl : 9223372036854775808 ≤ Y
  Yu : Y < 18446744073709551616
  Ye : Y = y * 2 ^ s
  y1 : Y / 4294967296 = yn1
  y0 : Y % 4294967296 = yn0
  Ae : hi * 2 ^ s = A
  Al : A < 18446744073709551616
  Ce : lo / 2 ^ t = C
  Cl : C < 18446744073709551616
  u32 : A ||| C = un32
  u32e : un32 = (hi * 18446744073709551616 + lo) * 2 ^ s / 18446744073709551616
  u32l : un32 < Y
  u10 : lo * 2 ^ s % 18446744073709551616 = un10
  u1 : un10 / 4294967296 = un1
  u0 : un10 % 4294967296 = un0
theorem dv_of (hi lo y s : Nat) (h1 : hi < y) (h2 : lo < 18446744073709551616) (h3 : y < 18446744073709551616) (hs : s ≤ 63) (hl : 9223372036854775808 ≤ y * 2 ^ s) (hu : y * 2 ^ s < 18446744073709551616) :
    ∃ Y yn1 yn0 t A C un32 un10 un1 un0, Dv hi lo y s Y yn1 yn0 t A C un32 un10 un1 un0 := by
  have hA : (hi + 1) * 2 ^ s ≤ y * 2 ^ s := Nat.mul_le_mul_right _ h1
  have hp : 0 < 2 ^ s := Nat.pow_pos (by omega)
  have e0 : hi * 2 ^ s ||| lo / 2 ^ (64 - s) = (hi * 18446744073709551616 + lo) * 2 ^ s / 18446744073709551616 := shl_or (by omega) h2
  have hlt : (hi * 18446744073709551616 + lo) * 2 ^ s / 18446744073709551616 < y * 2 ^ s := by
    refine Nat.div_lt_of_lt_mul ?_
    have h5 : (hi * 18446744073709551616 + lo) * 2 ^ s < (hi * 18446744073709551616 + 18446744073709551616) * 2 ^ s := Nat.mul_lt_mul_of_pos_right (by omega) hp
    have h6 : (hi * 18446744073709551616 + 18446744073709551616) * 2 ^ s = 18446744073709551616 * ((hi + 1) * 2 ^ s) := by
      rw [← Nat.mul_assoc]; congr 1; omega
    have h7 : 18446744073709551616 * ((hi + 1) * 2 ^ s) ≤ 18446744073709551616 * (y * 2 ^ s) := Nat.mul_le_mul_left _ hA
    omega
  exact ⟨_, _, _, _, _, _, _, _, _, _, { s63 := hs, tt := rfl, Yl := hl, Yu := hu, Ye := rfl, y1 := rfl, y0 := rfl, Ae := rfl, Al := by rw [Nat.add_mul] at hA; omega, Ce := rfl, Cl := Nat.lt_of_le_of_lt (Nat.div_le_self _ _) h2, u32 := rfl, u32e := by rw [show (64 - (s : Int)).toNat = 64 - s by omega]; exact e0, u32l := by rw [show (64 - (s : Int)).toNat = 64 - s by omega, e0]; exact hlt, u10 := rfl, u1 := rfl, u0 := rfl }⟩
theorem div64_c : DivOk := by
  intro hi lo y h1 h2 h3
  have hy : 0 < y := by omega
  have kl := lz_c y hy h3
  obtain ⟨s, hs, hs63, hsl, hsu⟩ := lz_spec y hy h3
  rw [hs] at kl
  by_cases hz : hi = 0
  · subst hz
    rw [show 0 * 18446744073709551616 + lo = lo by omega]
    clear kl
    refine called_of_run tbOk 6 ⟨Tryz.func82, rfl, rfl, Nat.le_of_ble_eq_true rfl⟩ ?_
    (conv => whnf)
    refine V.st ?_
    refine Cnd.split (CondB.mk (fun q1 => ?_) (fun q1 => ?_))
    · rw [decide_eq_true_eq] at q1; omega
    (conv => whnf)
    refine V.st ?_
    refine Cnd.split (CondB.mk (fun q2 => ?_) (fun q2 => ?_))
    · rw [decide_eq_true_eq] at q2; omega
    (conv => whnf)
    refine V.st ?_
    refine ⟨(.take 0 (.take 1 (.take 2 (.take 3 (.take 4 (.take 5 (.take 6 (.take 7 (.done))))))))), ⟨by kernel_rfl, by kernel_rfl, by kernel_rfl⟩, .go ?_⟩
    (conv => whnf)
    refine V.st ?_
    exact Fin.of (by simp only [Int.natCast_ediv, Int.natCast_emod])
  · obtain ⟨Y, yn1, yn0, t, A, C, un32, un10, un1, un0, Z⟩ := dv_of hi lo y s h1 h2 h3 hs63 hsl hsu
    obtain ⟨_, ht, Yl, Yu, Ye, y1, y0, Ae, Al, Ce, Cl, u32, u32e, u32l, u10, u1, u0⟩ := Z
    have r1 : IntKind.u64.wrap ((y : Int) * 2 ^ s) = (Y : Int) := by rw [Ye, ← wrapN (y * 2 ^ s) (by omega)]; congr 1
    have r2 : (Y : Int) / 4294967296 = (yn1 : Int) := by omega
    have r3 : bits .and .u64 (Y : Int) 4294967295 = (yn0 : Int) := by rw [maskN Y Yu, y0]
    have r4 : IntKind.u64.wrap ((hi : Int) * 2 ^ s) = (A : Int) := by rw [← Ae, ← wrapN (hi * 2 ^ s) (by omega)]; congr 1
    have r5 : (lo : Int) / 2 ^ t = (C : Int) := by rw [← Ce]; exact_mod_cast rfl
    have r6 : bits .or .u64 (A : Int) (C : Int) = (un32 : Int) := by rw [bits_or_u64_nat A C Al Cl, u32]
    have r7 : IntKind.u64.wrap ((lo : Int) * 2 ^ s) = (un10 : Int) := by rw [IntKind.wrap_u64, ← u10, Int.natCast_emod, Int.natCast_mul, Int.natCast_pow]; rfl
    have r8 : (un10 : Int) / 4294967296 = (un1 : Int) := by omega
    have hu10 : un10 < 18446744073709551616 := by rw [← u10]; exact Nat.mod_lt _ (by omega)
    have r9 : bits .and .u64 (un10 : Int) 4294967295 = (un0 : Int) := by rw [maskN un10 hu10, u0]
    obtain ⟨q0, hq0⟩ : ∃ q0, un32 / yn1 = q0 := ⟨_, rfl⟩
    obtain ⟨p0, hp0⟩ : ∃ p0, q0 * yn1 = p0 := ⟨_, rfl⟩
    have hdm := Nat.div_add_mod un32 yn1
    have hml := Nat.mod_lt un32 (show yn1 > 0 by omega)
    rw [hq0, Nat.mul_comm, hp0] at hdm
    have hq0l : q0 ≤ un32 := by rw [← hq0]; exact Nat.div_le_self _ _
    have r10 : (un32 : Int) / (yn1 : Int) = (q0 : Int) := by rw [← hq0, Int.natCast_ediv]
    have r11 : (q0 : Int) * (yn1 : Int) = (p0 : Int) := by rw [← hp0, Int.natCast_mul]
    have hTY : (yn1 : Int) * 4294967296 + yn0 = Y := by omega
    have T1 : Tr 4294967296 (yn1 : Int) yn0 un32 un1 := { hB := by omega, t1 := by omega, tB := by omega, v0 := by omega, vB := by omega, u0 := by omega, uB := by omega, h0 := by omega, lt := by rw [hTY]; omega }
    obtain ⟨Q1, hQn1⟩ : ∃ Q1 : Nat, (un32 * 4294967296 + un1) / Y = Q1 := ⟨_, rfl⟩
    have hQ1 : ((un32 : Int) * 4294967296 + un1) / ((yn1 : Int) * 4294967296 + yn0) = (Q1 : Int) := by rw [hTY, ← hQn1, Int.natCast_ediv, Int.natCast_add, Int.natCast_mul]; rfl
    have T1 : Tq 4294967296 (yn1 : Int) yn0 un32 un1 Q1 := ⟨T1, hQ1⟩
    have hQ1l : Q1 < 4294967296 := by have := T1.lt; omega
    obtain ⟨m1, hm1⟩ : ∃ m1 : Nat, Q1 * Y = m1 := ⟨_, rfl⟩
    obtain ⟨v1, hv1⟩ : ∃ v1 : Nat, (un32 * 4294967296 + un1) % Y = v1 := ⟨_, rfl⟩
    have hdm1 := Nat.div_add_mod (un32 * 4294967296 + un1) Y
    have hml1 := Nat.mod_lt (un32 * 4294967296 + un1) (show Y > 0 by omega)
    rw [hQn1, hv1, Nat.mul_comm, hm1] at hdm1
    rw [hv1] at hml1
    obtain ⟨W1, hW1⟩ : ∃ W1 : Nat, un32 * 4294967296 % 18446744073709551616 = W1 := ⟨_, rfl⟩
    have s1 : IntKind.u64.wrap ((un32 : Int) * 4294967296) = (W1 : Int) := by rw [IntKind.wrap_u64]; omega
    have s2 : (Q1 : Int) * (Y : Int) = (m1 : Int) := by rw [← hm1, Int.natCast_mul]
    obtain ⟨W2, hW2⟩ : ∃ W2 : Nat, m1 % 18446744073709551616 = W2 := ⟨_, rfl⟩
    have s3 : IntKind.u64.wrap (m1 : Int) = (W2 : Int) := by rw [IntKind.wrap_u64]; omega
    have s4 : IntKind.u64.wrap ((W1 : Int) + un1 - W2) = (v1 : Int) := by rw [IntKind.wrap_u64]; omega
    obtain ⟨q1, hq1⟩ : ∃ q0, v1 / yn1 = q0 := ⟨_, rfl⟩
    obtain ⟨p1, hp1⟩ : ∃ p0, q1 * yn1 = p0 := ⟨_, rfl⟩
    have hdn := Nat.div_add_mod v1 yn1
    have hnl := Nat.mod_lt v1 (show yn1 > 0 by omega)
    rw [hq1, Nat.mul_comm, hp1] at hdn
    have hq1l : q1 ≤ v1 := by rw [← hq1]; exact Nat.div_le_self _ _
    have r12 : (v1 : Int) / (yn1 : Int) = (q1 : Int) := by rw [← hq1, Int.natCast_ediv]
    have r13 : (q1 : Int) * (yn1 : Int) = (p1 : Int) := by rw [← hp1, Int.natCast_mul]
    have T2 : Tr 4294967296 (yn1 : Int) yn0 v1 un0 := { hB := by omega, t1 := by omega, tB := by omega, v0 := by omega, vB := by omega, u0 := by omega, uB := by omega, h0 := by omega, lt := by rw [hTY]; omega }
    obtain ⟨Q2, hQn2⟩ : ∃ Q2 : Nat, (v1 * 4294967296 + un0) / Y = Q2 := ⟨_, rfl⟩
    have hQ2 : ((v1 : Int) * 4294967296 + un0) / ((yn1 : Int) * 4294967296 + yn0) = (Q2 : Int) := by rw [hTY, ← hQn2, Int.natCast_ediv, Int.natCast_add, Int.natCast_mul]; rfl
    have T2 : Tq 4294967296 (yn1 : Int) yn0 v1 un0 Q2 := ⟨T2, hQ2⟩
    have hQ2l : Q2 < 4294967296 := by have := T2.lt; omega
    obtain ⟨m2, hm2⟩ : ∃ m2 : Nat, Q2 * Y = m2 := ⟨_, rfl⟩
    obtain ⟨v2, hv2⟩ : ∃ v2 : Nat, (v1 * 4294967296 + un0) % Y = v2 := ⟨_, rfl⟩
    have hdm2 := Nat.div_add_mod (v1 * 4294967296 + un0) Y
    have hml2 := Nat.mod_lt (v1 * 4294967296 + un0) (show Y > 0 by omega)
    rw [hQn2, hv2, Nat.mul_comm, hm2] at hdm2
    rw [hv2] at hml2
    obtain ⟨W3, hW3⟩ : ∃ W3 : Nat, v1 * 4294967296 % 18446744073709551616 = W3 := ⟨_, rfl⟩
    have s5 : IntKind.u64.wrap ((v1 : Int) * 4294967296) = (W3 : Int) := by rw [IntKind.wrap_u64]; omega
    have s6 : (Q2 : Int) * (Y : Int) = (m2 : Int) := by rw [← hm2, Int.natCast_mul]
    obtain ⟨W4, hW4⟩ : ∃ W4 : Nat, m2 % 18446744073709551616 = W4 := ⟨_, rfl⟩
    have s7 : IntKind.u64.wrap (m2 : Int) = (W4 : Int) := by rw [IntKind.wrap_u64]; omega
    have s8 : IntKind.u64.wrap ((W3 : Int) + un0 - W4) = (v2 : Int) := by rw [IntKind.wrap_u64]; omega
    have hps : 0 < 2 ^ s := Nat.pow_pos (by omega)
    have hN : (un32 * 4294967296 + un1) * 4294967296 + un0 = (hi * 18446744073709551616 + lo) * 2 ^ s := by
      have e1 : (hi * 18446744073709551616 + lo) * 2 ^ s = 18446744073709551616 * (hi * 2 ^ s) + lo * 2 ^ s := by rw [Nat.add_mul]; congr 1; ac_rfl
      rw [e1] at u32e ⊢
      generalize lo * 2 ^ s = z at *
      generalize hi * 2 ^ s = x at *
      omega
    have td := two_digits (B := 4294967296) (V := Y) (u1 := un1) (u0 := un0) (h := un32) (by omega) (by omega)
    rw [hN, Ye, Nat.mul_div_mul_right _ _ hps, Nat.mul_mod_mul_right, ← Ye, hQn1, hv1, hQn2, hv2] at td
    have fin1 : (((hi * 18446744073709551616 + lo) / y : Nat) : Int) = (Q1 : Int) * 4294967296 + Q2 := by rw [td.1]; omega
    have fin2 : (((hi * 18446744073709551616 + lo) % y : Nat) : Int) = (v2 : Int) / 2 ^ s := by
      rw [← td.2, Int.natCast_mul, Int.natCast_pow]
      exact (Int.mul_ediv_cancel _ (Int.ne_of_gt (Int.pow_pos (by decide)))).symm
    obtain ⟨K1, hK1⟩ : ∃ K1 : Nat, Q1 * 4294967296 = K1 := ⟨_, rfl⟩
    have s9 : (Q1 : Int) * 4294967296 = (K1 : Int) := by omega
    have b3 : K1 + Q2 < 18446744073709551616 := by omega
    have fin1' : (((hi * 18446744073709551616 + lo) / y : Nat) : Int) = (K1 : Int) + Q2 := by rw [fin1, s9]
    have b1 : W1 + un1 < 18446744073709551616 := by omega
    have b2 : W3 + un0 < 18446744073709551616 := by omega
    refine called_of_run tbOk 6 ⟨Tryz.func82, rfl, rfl, Nat.le_of_ble_eq_true rfl⟩ ?_
    (conv => whnf)
    refine V.st ?_
    refine Cnd.split (CondB.mk (fun g1 => ?_) (fun g1 => ?_))
    · rw [decide_eq_true_eq] at g1; omega
    (conv => whnf)
    refine V.st ?_
    refine Cnd.split (CondB.mk (fun g2 => ?_) (fun g2 => ?_))
    · rw [decide_eq_true_eq] at g2; omega
    (conv => whnf)
    refine V.st ?_
    refine Cnd.split (CondB.mk (fun g3 => ?_) (fun g3 => ?_))
    · rw [decide_eq_true_eq] at g3; omega
    clear g1 g2 g3 hK1 fin1 hQ1 hQ2 hTY hdm1 hdm2 hW1 hW2 hW3 hW4 hs hsl hsu Ye Ae Ce u32 u32e u10 hQn1 hv1 hm1 hQn2 hv2 hm2 hp0 hp1 hq0 hq1 hN td hps
    (conv => whnf)
    (try simp only [Int.toNat_natCast, r1])
    repeat (first | (refine V.s1 ?_; (try simp only [Int.toNat_natCast, r1])) | ((with_reducible refine recheck_and ?_ ?_); (focus ((conv => whnf); (try simp only [Int.toNat_natCast, r1]); (repeat (refine V.s1 ?_; (try simp only [Int.toNat_natCast, r1]))); exact ⟨rfl⟩)); (conv => whnf); (try simp only [Int.toNat_natCast, r1])) | ((try ((with_reducible refine .ext ?_); (conv => whnf); (try simp only [Int.toNat_natCast, r1]))); (with_reducible refine call_intro (r := ?_) ?_ ?_); rotate_left; (focus (first | exact (kl))); (conv => whnf); (try simp only [Int.toNat_natCast, r1])))
    refine And.intro (fun _ _ => ⟨by omega, by show _ ≤ (64 : Int); omega⟩) ?_
    (conv => whnf)
    (try simp only [Int.toNat_natCast, Int.reduceToNat, Int.reducePow, r1, r2, r3, r4])
    repeat (first | (refine V.s1 ?_; (try simp only [Int.toNat_natCast, Int.reduceToNat, Int.reducePow, r1, r2, r3, r4])) | ((with_reducible refine recheck_and ?_ ?_); (focus ((conv => whnf); (try simp only [Int.toNat_natCast, Int.reduceToNat, Int.reducePow, r1, r2, r3, r4]); (repeat (refine V.s1 ?_; (try simp only [Int.toNat_natCast, Int.reduceToNat, Int.reducePow, r1, r2, r3, r4]))); exact ⟨rfl⟩)); (conv => whnf); (try simp only [Int.toNat_natCast, Int.reduceToNat, Int.reducePow, r1, r2, r3, r4])))
    refine And.intro (fun _ _ => ⟨by omega, by show _ ≤ (64 : Int); omega⟩) ?_
    (conv => whnf)
    (try simp only [Int.toNat_natCast, Int.reduceToNat, Int.reducePow, r1, r2, r3, r4, ht, r5, r6, r7])
    repeat (first | (refine V.s1 ?_; (try simp only [Int.toNat_natCast, Int.reduceToNat, Int.reducePow, r1, r2, r3, r4, ht, r5, r6, r7])) | ((with_reducible refine recheck_and ?_ ?_); (focus ((conv => whnf); (try simp only [Int.toNat_natCast, Int.reduceToNat, Int.reducePow, r1, r2, r3, r4, ht, r5, r6, r7]); (repeat (refine V.s1 ?_; (try simp only [Int.toNat_natCast, Int.reduceToNat, Int.reducePow, r1, r2, r3, r4, ht, r5, r6, r7]))); exact ⟨rfl⟩)); (conv => whnf); (try simp only [Int.toNat_natCast, Int.reduceToNat, Int.reducePow, r1, r2, r3, r4, ht, r5, r6, r7])))
    refine And.intro (fun _ _ => ⟨by omega, by show _ ≤ (64 : Int); omega⟩) ?_
    (conv => whnf)
    (try simp only [Int.toNat_natCast, Int.reduceToNat, Int.reducePow, r1, r2, r3, r4, ht, r5, r6, r7])
    repeat (first | (refine V.s1 ?_; (try simp only [Int.toNat_natCast, Int.reduceToNat, Int.reducePow, r1, r2, r3, r4, ht, r5, r6, r7])) | ((with_reducible refine recheck_and ?_ ?_); (focus ((conv => whnf); (try simp only [Int.toNat_natCast, Int.reduceToNat, Int.reducePow, r1, r2, r3, r4, ht, r5, r6, r7]); (repeat (refine V.s1 ?_; (try simp only [Int.toNat_natCast, Int.reduceToNat, Int.reducePow, r1, r2, r3, r4, ht, r5, r6, r7]))); exact ⟨rfl⟩)); (conv => whnf); (try simp only [Int.toNat_natCast, Int.reduceToNat, Int.reducePow, r1, r2, r3, r4, ht, r5, r6, r7])))
    refine And.intro (fun _ _ => ⟨by omega, by show _ ≤ (64 : Int); omega⟩) ?_
    (conv => whnf)
    (try simp only [Int.toNat_natCast, Int.reduceToNat, Int.reducePow, r1, r2, r3, r4, ht, r5, r6, r7, r8, r9, r10, r11])
    repeat (first | (refine V.s1 ?_; (try simp only [Int.toNat_natCast, Int.reduceToNat, Int.reducePow, r1, r2, r3, r4, ht, r5, r6, r7, r8, r9, r10, r11])) | ((with_reducible refine recheck_and ?_ ?_); (focus ((conv => whnf); (try simp only [Int.toNat_natCast, Int.reduceToNat, Int.reducePow, r1, r2, r3, r4, ht, r5, r6, r7, r8, r9, r10, r11]); (repeat (refine V.s1 ?_; (try simp only [Int.toNat_natCast, Int.reduceToNat, Int.reducePow, r1, r2, r3, r4, ht, r5, r6, r7, r8, r9, r10, r11]))); exact ⟨rfl⟩)); (conv => whnf); (try simp only [Int.toNat_natCast, Int.reduceToNat, Int.reducePow, r1, r2, r3, r4, ht, r5, r6, r7, r8, r9, r10, r11])))
    refine And.intro (fun _ _ => ⟨by omega, by show _ ≤ (64 : Int); omega⟩) ?_
    (conv => whnf)
    (try simp only [Int.toNat_natCast, Int.reduceToNat, Int.reducePow, r1, r2, r3, r4, ht, r5, r6, r7, r8, r9, r10, r11])
    repeat (first | (refine V.s1 ?_; (try simp only [Int.toNat_natCast, Int.reduceToNat, Int.reducePow, r1, r2, r3, r4, ht, r5, r6, r7, r8, r9, r10, r11])) | ((with_reducible refine recheck_and ?_ ?_); (focus ((conv => whnf); (try simp only [Int.toNat_natCast, Int.reduceToNat, Int.reducePow, r1, r2, r3, r4, ht, r5, r6, r7, r8, r9, r10, r11]); (repeat (refine V.s1 ?_; (try simp only [Int.toNat_natCast, Int.reduceToNat, Int.reducePow, r1, r2, r3, r4, ht, r5, r6, r7, r8, r9, r10, r11]))); exact ⟨rfl⟩)); (conv => whnf); (try simp only [Int.toNat_natCast, Int.reduceToNat, Int.reducePow, r1, r2, r3, r4, ht, r5, r6, r7, r8, r9, r10, r11])))
    refine And.intro (fun _ _ => ⟨by omega, by show _ ≤ (64 : Int); omega⟩) ?_
    (conv => whnf)
    (try simp only [Int.toNat_natCast, Int.reduceToNat, Int.reducePow, r1, r2, r3, r4, ht, r5, r6, r7, r8, r9, r10, r11])
    repeat (first | (refine V.s1 ?_; (try simp only [Int.toNat_natCast, Int.reduceToNat, Int.reducePow, r1, r2, r3, r4, ht, r5, r6, r7, r8, r9, r10, r11])) | ((with_reducible refine recheck_and ?_ ?_); (focus ((conv => whnf); (try simp only [Int.toNat_natCast, Int.reduceToNat, Int.reducePow, r1, r2, r3, r4, ht, r5, r6, r7, r8, r9, r10, r11]); (repeat (refine V.s1 ?_; (try simp only [Int.toNat_natCast, Int.reduceToNat, Int.reducePow, r1, r2, r3, r4, ht, r5, r6, r7, r8, r9, r10, r11]))); exact ⟨rfl⟩)); (conv => whnf); (try simp only [Int.toNat_natCast, Int.reduceToNat, Int.reducePow, r1, r2, r3, r4, ht, r5, r6, r7, r8, r9, r10, r11])))
    refine lp_exit (β := Int) 0 (fun _ => True) (fun y => [(15, .int .u64 (Q1 : Int)), (16, .int .u64 y)]) (fun _ => []) ?_ ?_
    · refine lp_any (((q0 : Int), (un32 : Int) - (p0 : Int)) : Int × Int) (fun y => (un32 : Int) = y.1 * (yn1 : Int) + y.2 ∧ (0 ≤ y.2 ∧ y.2 < 4294967296) ∧ (Q1 : Int) ≤ y.1 ∧ y.1 < 18446744073709551616) (fun y => y.1.toNat) (fun y => [(15, .int .u64 y.1), (16, .int .u64 y.2)]) (fun _ => []) ?_ ?_ ?_
      · exact V.wk
      · have hin := (T1).init
        exact ⟨by dsimp only; omega, by dsimp only; omega, by dsimp only; omega, by dsimp only; omega⟩
      rintro ⟨q, r⟩ ⟨i1, i2, i3, i4⟩
      dsimp only at i1 i2 i3 i4 ⊢
      have hqv : q < 4294967296 → 0 ≤ q * yn0 ∧ q * yn0 ≤ 4294967295 * 4294967295 := fun h => ⟨Int.mul_nonneg (by omega) (by omega), Int.mul_le_mul (by omega) (by omega) (by omega) (by omega)⟩
      (conv => whnf)
      (try simp only [Int.toNat_natCast])
      repeat (first | (refine V.s1 ?_; (try simp only [Int.toNat_natCast])) | ((with_reducible refine recheck_and ?_ ?_); (focus ((conv => whnf); (try simp only [Int.toNat_natCast]); (repeat (refine V.s1 ?_; (try simp only [Int.toNat_natCast]))); exact ⟨rfl⟩)); (conv => whnf); (try simp only [Int.toNat_natCast])))
      refine Or.inl (And.intro (fun h _ _ => ?_) ?_)
      · have h9 := hqv (by simpa using h)
        exact ⟨by simp only [V.lo]; omega, by simp only [V.hi]; omega⟩
      (conv => whnf)
      (try simp only [Int.toNat_natCast])
      repeat (first | (refine V.s1 ?_; (try simp only [Int.toNat_natCast])) | ((with_reducible refine recheck_and ?_ ?_); (focus ((conv => whnf); (try simp only [Int.toNat_natCast]); (repeat (refine V.s1 ?_; (try simp only [Int.toNat_natCast]))); exact ⟨rfl⟩)); (conv => whnf); (try simp only [Int.toNat_natCast])))
      refine Cnd.split (CondB.mk (fun hq5 => ?_) (fun hq5 => ?_))
      · rw [Bool.or_eq_true, decide_eq_true_eq, decide_eq_true_eq] at hq5
        have hst := (T1).step (q := q) (r := r) i3 i1 (by omega)
        (conv => whnf)
        (try simp only [Int.toNat_natCast])
        repeat (first | (refine V.s1 ?_; (try simp only [Int.toNat_natCast])) | ((with_reducible refine recheck_and ?_ ?_); (focus ((conv => whnf); (try simp only [Int.toNat_natCast]); (repeat (refine V.s1 ?_; (try simp only [Int.toNat_natCast]))); exact ⟨rfl⟩)); (conv => whnf); (try simp only [Int.toNat_natCast])))
        refine Cnd.split (CondB.mk (fun hq6 => ?_) (fun hq6 => ?_))
        · rw [decide_eq_true_eq] at hq6
          have ho := ((T1).exit2 (q := q - 1) (r := r + yn1) hst.1 hst.2 hq6)
          (conv => whnf)
          (try simp only [Int.toNat_natCast])
          repeat (first | (refine V.s1 ?_; (try simp only [Int.toNat_natCast])) | ((with_reducible refine recheck_and ?_ ?_); (focus ((conv => whnf); (try simp only [Int.toNat_natCast]); (repeat (refine V.s1 ?_; (try simp only [Int.toNat_natCast]))); exact ⟨rfl⟩)); (conv => whnf); (try simp only [Int.toNat_natCast])))
          refine ⟨r + yn1, trivial, ?_⟩
          rw [ho]
          exact V.wk
        · rw [decide_eq_false_iff_not] at hq6
          (conv => whnf)
          (try simp only [Int.toNat_natCast])
          repeat (first | (refine V.s1 ?_; (try simp only [Int.toNat_natCast])) | ((with_reducible refine recheck_and ?_ ?_); (focus ((conv => whnf); (try simp only [Int.toNat_natCast]); (repeat (refine V.s1 ?_; (try simp only [Int.toNat_natCast]))); exact ⟨rfl⟩)); (conv => whnf); (try simp only [Int.toNat_natCast])))
          exact ⟨(q - 1, r + yn1), ⟨hst.2, by dsimp only; omega, hst.1, by dsimp only; omega⟩, by dsimp only; omega, V.wk⟩
      · rw [Bool.or_eq_false_iff, decide_eq_false_iff_not, decide_eq_false_iff_not] at hq5
        have ho := (T1).exit1 (q := q) (r := r) i3 i1 (by omega)
        (conv => whnf)
        (try simp only [Int.toNat_natCast])
        repeat (first | (refine V.s1 ?_; (try simp only [Int.toNat_natCast])) | ((with_reducible refine recheck_and ?_ ?_); (focus ((conv => whnf); (try simp only [Int.toNat_natCast]); (repeat (refine V.s1 ?_; (try simp only [Int.toNat_natCast]))); exact ⟨rfl⟩)); (conv => whnf); (try simp only [Int.toNat_natCast])))
        refine ⟨r, trivial, ?_⟩
        rw [ho]
        exact V.wk
    · rintro y -
      try dsimp only
      (conv => whnf)
      (try simp only [Int.toNat_natCast, s1, s2])
      repeat (first | (refine V.s1 ?_; (try simp only [Int.toNat_natCast, s1, s2])) | ((with_reducible refine recheck_and ?_ ?_); (focus ((conv => whnf); (try simp only [Int.toNat_natCast, s1, s2]); (repeat (refine V.s1 ?_; (try simp only [Int.toNat_natCast, s1, s2]))); exact ⟨rfl⟩)); (conv => whnf); (try simp only [Int.toNat_natCast, s1, s2])))
      refine Or.inr ?_
      (conv => whnf)
      (try simp only [Int.toNat_natCast, s1, s2, s3])
      repeat (first | (refine V.s1 ?_; (try simp only [Int.toNat_natCast, s1, s2, s3])) | ((with_reducible refine recheck_and ?_ ?_); (focus ((conv => whnf); (try simp only [Int.toNat_natCast, s1, s2, s3]); (repeat (refine V.s1 ?_; (try simp only [Int.toNat_natCast, s1, s2, s3]))); exact ⟨rfl⟩)); (conv => whnf); (try simp only [Int.toNat_natCast, s1, s2, s3])))
      refine Or.inr ?_
      (conv => whnf)
      (try simp only [Int.toNat_natCast, s1, s2, s3])
      repeat (first | (refine V.s1 ?_; (try simp only [Int.toNat_natCast, s1, s2, s3])) | ((with_reducible refine recheck_and ?_ ?_); (focus ((conv => whnf); (try simp only [Int.toNat_natCast, s1, s2, s3]); (repeat (refine V.s1 ?_; (try simp only [Int.toNat_natCast, s1, s2, s3]))); exact ⟨rfl⟩)); (conv => whnf); (try simp only [Int.toNat_natCast, s1, s2, s3])))
      refine Or.inr ?_
      (conv => whnf)
      (try simp only [Int.toNat_natCast, s1, s2, s3, s4, r12, r13])
      repeat (first | (refine V.s1 ?_; (try simp only [Int.toNat_natCast, s1, s2, s3, s4, r12, r13])) | ((with_reducible refine recheck_and ?_ ?_); (focus ((conv => whnf); (try simp only [Int.toNat_natCast, s1, s2, s3, s4, r12, r13]); (repeat (refine V.s1 ?_; (try simp only [Int.toNat_natCast, s1, s2, s3, s4, r12, r13]))); exact ⟨rfl⟩)); (conv => whnf); (try simp only [Int.toNat_natCast, s1, s2, s3, s4, r12, r13])))
      refine lp_exit (β := Int) 2 (fun _ => True) (fun y => [(18, .int .u64 (Q2 : Int)), (16, .int .u64 y)]) (fun _ => []) ?_ ?_
      · refine lp_any (((q1 : Int), (v1 : Int) - (p1 : Int)) : Int × Int) (fun y => (v1 : Int) = y.1 * (yn1 : Int) + y.2 ∧ (0 ≤ y.2 ∧ y.2 < 4294967296) ∧ (Q2 : Int) ≤ y.1 ∧ y.1 < 18446744073709551616) (fun y => y.1.toNat) (fun y => [(18, .int .u64 y.1), (16, .int .u64 y.2)]) (fun _ => []) ?_ ?_ ?_
        · exact V.wk
        · have hin := (T2).init
          exact ⟨by dsimp only; omega, by dsimp only; omega, by dsimp only; omega, by dsimp only; omega⟩
        rintro ⟨q, r⟩ ⟨i1, i2, i3, i4⟩
        dsimp only at i1 i2 i3 i4 ⊢
        have hqv : q < 4294967296 → 0 ≤ q * yn0 ∧ q * yn0 ≤ 4294967295 * 4294967295 := fun h => ⟨Int.mul_nonneg (by omega) (by omega), Int.mul_le_mul (by omega) (by omega) (by omega) (by omega)⟩
        (conv => whnf)
        (try simp only [Int.toNat_natCast])
        repeat (first | (refine V.s1 ?_; (try simp only [Int.toNat_natCast])) | ((with_reducible refine recheck_and ?_ ?_); (focus ((conv => whnf); (try simp only [Int.toNat_natCast]); (repeat (refine V.s1 ?_; (try simp only [Int.toNat_natCast]))); exact ⟨rfl⟩)); (conv => whnf); (try simp only [Int.toNat_natCast])))
        refine Or.inl (And.intro (fun h _ _ => ?_) ?_)
        · have h9 := hqv (by simpa using h)
          exact ⟨by simp only [V.lo]; omega, by simp only [V.hi]; omega⟩
        (conv => whnf)
        (try simp only [Int.toNat_natCast])
        repeat (first | (refine V.s1 ?_; (try simp only [Int.toNat_natCast])) | ((with_reducible refine recheck_and ?_ ?_); (focus ((conv => whnf); (try simp only [Int.toNat_natCast]); (repeat (refine V.s1 ?_; (try simp only [Int.toNat_natCast]))); exact ⟨rfl⟩)); (conv => whnf); (try simp only [Int.toNat_natCast])))
        refine Cnd.split (CondB.mk (fun hq5 => ?_) (fun hq5 => ?_))
        · rw [Bool.or_eq_true, decide_eq_true_eq, decide_eq_true_eq] at hq5
          have hst := (T2).step (q := q) (r := r) i3 i1 (by omega)
          (conv => whnf)
          (try simp only [Int.toNat_natCast])
          repeat (first | (refine V.s1 ?_; (try simp only [Int.toNat_natCast])) | ((with_reducible refine recheck_and ?_ ?_); (focus ((conv => whnf); (try simp only [Int.toNat_natCast]); (repeat (refine V.s1 ?_; (try simp only [Int.toNat_natCast]))); exact ⟨rfl⟩)); (conv => whnf); (try simp only [Int.toNat_natCast])))
          refine Cnd.split (CondB.mk (fun hq6 => ?_) (fun hq6 => ?_))
          · rw [decide_eq_true_eq] at hq6
            have ho := ((T2).exit2 (q := q - 1) (r := r + yn1) hst.1 hst.2 hq6)
            (conv => whnf)
            (try simp only [Int.toNat_natCast])
            repeat (first | (refine V.s1 ?_; (try simp only [Int.toNat_natCast])) | ((with_reducible refine recheck_and ?_ ?_); (focus ((conv => whnf); (try simp only [Int.toNat_natCast]); (repeat (refine V.s1 ?_; (try simp only [Int.toNat_natCast]))); exact ⟨rfl⟩)); (conv => whnf); (try simp only [Int.toNat_natCast])))
            refine ⟨r + yn1, trivial, ?_⟩
            rw [ho]
            exact V.wk
          · rw [decide_eq_false_iff_not] at hq6
            (conv => whnf)
            (try simp only [Int.toNat_natCast])
            repeat (first | (refine V.s1 ?_; (try simp only [Int.toNat_natCast])) | ((with_reducible refine recheck_and ?_ ?_); (focus ((conv => whnf); (try simp only [Int.toNat_natCast]); (repeat (refine V.s1 ?_; (try simp only [Int.toNat_natCast]))); exact ⟨rfl⟩)); (conv => whnf); (try simp only [Int.toNat_natCast])))
            exact ⟨(q - 1, r + yn1), ⟨hst.2, by dsimp only; omega, hst.1, by dsimp only; omega⟩, by dsimp only; omega, V.wk⟩
        · rw [Bool.or_eq_false_iff, decide_eq_false_iff_not, decide_eq_false_iff_not] at hq5
          have ho := (T2).exit1 (q := q) (r := r) i3 i1 (by omega)
          (conv => whnf)
          (try simp only [Int.toNat_natCast])
          repeat (first | (refine V.s1 ?_; (try simp only [Int.toNat_natCast])) | ((with_reducible refine recheck_and ?_ ?_); (focus ((conv => whnf); (try simp only [Int.toNat_natCast]); (repeat (refine V.s1 ?_; (try simp only [Int.toNat_natCast]))); exact ⟨rfl⟩)); (conv => whnf); (try simp only [Int.toNat_natCast])))
          refine ⟨r, trivial, ?_⟩
          rw [ho]
          exact V.wk
      · rintro y -
        try dsimp only
        (conv => whnf)
        (try simp only [Int.toNat_natCast, s9, s5, s6])
        repeat (first | (refine V.s1 ?_; (try simp only [Int.toNat_natCast, s9, s5, s6])) | ((with_reducible refine recheck_and ?_ ?_); (focus ((conv => whnf); (try simp only [Int.toNat_natCast, s9, s5, s6]); (repeat (refine V.s1 ?_; (try simp only [Int.toNat_natCast, s9, s5, s6]))); exact ⟨rfl⟩)); (conv => whnf); (try simp only [Int.toNat_natCast, s9, s5, s6])))
        refine Or.inr ?_
        (conv => whnf)
        (try simp only [Int.toNat_natCast, s9, s5, s6, s7])
        repeat (first | (refine V.s1 ?_; (try simp only [Int.toNat_natCast, s9, s5, s6, s7])) | ((with_reducible refine recheck_and ?_ ?_); (focus ((conv => whnf); (try simp only [Int.toNat_natCast, s9, s5, s6, s7]); (repeat (refine V.s1 ?_; (try simp only [Int.toNat_natCast, s9, s5, s6, s7]))); exact ⟨rfl⟩)); (conv => whnf); (try simp only [Int.toNat_natCast, s9, s5, s6, s7])))
        refine Or.inr ?_
        (conv => whnf)
        (try simp only [Int.toNat_natCast, s9, s5, s6, s7])
        repeat (first | (refine V.s1 ?_; (try simp only [Int.toNat_natCast, s9, s5, s6, s7])) | ((with_reducible refine recheck_and ?_ ?_); (focus ((conv => whnf); (try simp only [Int.toNat_natCast, s9, s5, s6, s7]); (repeat (refine V.s1 ?_; (try simp only [Int.toNat_natCast, s9, s5, s6, s7]))); exact ⟨rfl⟩)); (conv => whnf); (try simp only [Int.toNat_natCast, s9, s5, s6, s7])))
        refine Or.inr ?_
        (conv => whnf)
        (try simp only [Int.toNat_natCast, s9, s5, s6, s7, s8])
        repeat (first | (refine V.s1 ?_; (try simp only [Int.toNat_natCast, s9, s5, s6, s7, s8])) | ((with_reducible refine recheck_and ?_ ?_); (focus ((conv => whnf); (try simp only [Int.toNat_natCast, s9, s5, s6, s7, s8]); (repeat (refine V.s1 ?_; (try simp only [Int.toNat_natCast, s9, s5, s6, s7, s8]))); exact ⟨rfl⟩)); (conv => whnf); (try simp only [Int.toNat_natCast, s9, s5, s6, s7, s8])))
        refine And.intro (fun _ _ => ⟨by omega, by show _ ≤ (64 : Int); omega⟩) ?_
        (conv => whnf)
        (try simp only [Int.toNat_natCast, s9, s5, s6, s7, s8])
        repeat (first | (refine V.s1 ?_; (try simp only [Int.toNat_natCast, s9, s5, s6, s7, s8])) | ((with_reducible refine recheck_and ?_ ?_); (focus ((conv => whnf); (try simp only [Int.toNat_natCast, s9, s5, s6, s7, s8]); (repeat (refine V.s1 ?_; (try simp only [Int.toNat_natCast, s9, s5, s6, s7, s8]))); exact ⟨rfl⟩)); (conv => whnf); (try simp only [Int.toNat_natCast, s9, s5, s6, s7, s8])))
        exact Fin.of (by rw [fin1', fin2])
end Go.Proofs.YtoiaoofgnnhocaaGreatDoor
end
