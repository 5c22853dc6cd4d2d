/- What some functions of the program answer at values that mean given lists and numbers, each proved of the program's own code. Conditions: those that each theorem names. -/
import Derived.Test.YtfhmfpneiagakaaT13
set_option linter.unusedSimpArgs false
set_option linter.unusedVariables false
set_option maxHeartbeats 8000000
set_option maxRecDepth 100000
namespace Go.Proofs.Ytfhmfpneiagakaa
open Go Go.V Go.Gr
theorem rl_mst {lt : Int → Int → Bool} {data : List Int} {w n : Nat} (h : data.length = n * w) (hw : 0 < w) : ∀ m, m ≤ n → rl lt data w (m * w) = mst lt data w m := by
  intro m
  induction m with
  | zero => intro _; simp [rl, mst]
  | succ m ih =>
    intro hm
    have ih := ih (by omega)
    have hwl : w ≤ data.length := by rw [h]; exact Nat.le_mul_of_pos_left _ (by omega)
    have hR := rl_length (lt := lt) hwl (m * w)
    have hS := slot_m h (by omega : m < n)
    have key : ∀ k, k ≤ w → rl lt data w (m * w + k) = (upd lt (rl lt data w (m * w)) (slot data ((m * w : Nat) : Int) w)).take k ++ (rl lt data w (m * w)).drop k := by
      intro k
      induction k with
      | zero => intro _; simp
      | succ k ihk =>
        intro hk
        have ihk := ihk (by omega)
        have e1 : (m * w + k) % w = k := by
          rw [Nat.add_comm, Nat.add_mul_mod_self_right, Nat.mod_eq_of_lt (by omega)]
        obtain ⟨a, ha⟩ : ∃ a, (rl lt data w (m * w))[k]? = some a := ⟨_, List.getElem?_eq_getElem (by omega)⟩
        obtain ⟨b, hb⟩ : ∃ b, (slot data ((m * w : Nat) : Int) w)[k]? = some b := ⟨_, List.getElem?_eq_getElem (by omega)⟩
        have hb2 : data.getD (m * w + k) 0 = b := by
          have := hb
          unfold slot at this
          rw [Int.toNat_natCast, Int.toNat_natCast, List.getElem?_take_of_lt (by omega), List.getElem?_drop] at this
          rw [List.getD_eq_getElem?_getD, this]; rfl
        have hug := upd_get (lt := lt) (v := slot data ((m * w : Nat) : Int) w) ha (by omega)
        have hus := upd_set (lt := lt) ha hb (by omega)
        rw [← hus, ← Nat.add_assoc]
        conv => lhs; unfold rl
        rw [e1, ihk, hb2, hug]
    have hk := key w (Nat.le_refl _)
    have hul : (upd lt (rl lt data w (m * w)) (slot data ((m * w : Nat) : Int) w)).length = w := by unfold upd; rw [List.length_zipWith]; omega
    rw [Nat.add_mul, Nat.one_mul, hk, List.take_of_length_le (by omega), List.drop_of_length_le (by omega), List.append_nil, ih]
    rfl
theorem range_c (size : List Int) (out : Int) (data : List Int) (hs : size.length ≤ 281474976710656) (hd : data.length ≤ 281474976710656) :
    Called Try.prog 27 [gridD size out data] (.tup [.ints .i64 (if okGrid size out data then rl (fun a b => decide (a < b)) data out.toNat data.length else []), .ints .i64 (if okGrid size out data then rl (fun a b => decide (a > b)) data out.toNat data.length else []), .int .i64 (if okGrid size out data then 0 else 100)]) := by
  refine called_of_run tbOk 6 ⟨Try.func27, rfl, rfl, Nat.le_of_ble_eq_true rfl⟩ ?_
  (conv => whnf)
  refine V.st ?_
  repeat ((try ((with_reducible refine .ext ?_); (conv => whnf))); (with_reducible refine call_intro (r := ?_) ?_ ?_); rotate_left; (focus (first | exact (check_c _ _ _ hs hd))); (conv => whnf); refine V.st ?_)
  cases hg : okGrid size out data with
  | false =>
    refine Cnd.split (CondB.mk (fun h => ?_) (fun h => ?_))
    · (conv => whnf)
      refine V.st ?_
      exact Fin.tup ⟨Fin.nil _, Fin.nil _, Fin.of rfl, trivial⟩
    · simp at h
  | true =>
    have hG := okGrid_iff hg
    obtain ⟨w, rfl⟩ : ∃ w : Nat, out = w := ⟨out.toNat, by omega⟩
    obtain ⟨ns, hn0, hn1, hn2⟩ := nz_of hG.2.2.2.2.1
    have hprod : prod size = (PR ns : Nat) := by rw [hn0, prod_nz]
    have hdl : data.length = PR ns * w := by
      have := hG.2.2.2.2.2.2.1
      rw [hprod, ← Int.natCast_mul] at this
      omega
    have e1 := rl_mst (lt := fun a b => decide (a < b)) hdl (by omega) (PR ns) (Nat.le_refl _)
    have e2 := rl_mst (lt := fun a b => decide (a > b)) hdl (by omega) (PR ns) (Nat.le_refl _)
    rw [← hdl] at e1 e2
    have m1 := most_c size w data 51 (fun a b => decide (a < b)) hg lt_c (fun a => by simp)
    have m2 := most_c size w data 52 (fun a b => decide (a > b)) hg gt_c (fun a => by simp)
    rw [hn1, ← e1] at m1
    rw [hn1, ← e2] at m2
    refine Cnd.split (CondB.mk (fun h => ?_) (fun h => ?_))
    · simp at h
    (conv => whnf)
    refine V.st ?_
    repeat ((try ((with_reducible refine .ext ?_); (conv => whnf))); (with_reducible refine call_intro (r := ?_) ?_ ?_); rotate_left; (focus (first | exact (tpoints_c _ _ _) | exact (m1) | exact (m2))); (conv => whnf); refine V.st ?_)
    exact Fin.of rfl
end Go.Proofs.Ytfhmfpneiagakaa
