/- What some functions of the program answer at values that mean given lists and numbers, each proved of the program's own code. Conditions: those that each theorem names. -/
import Derived.Test.YtfhmfpneiagakaaT23
import Derived.Test.YtfhmfpneiagakaaT16
import Derived.Test.YtfhmfpneiagakaaT19
set_option linter.unusedSimpArgs false
set_option linter.unusedVariables false
set_option maxHeartbeats 8000000
set_option maxRecDepth 100000
namespace Go.Proofs.Ytfhmfpneiagakaa
open Go Go.V Go.Gr
def lowR (lt : Int → Int → Bool) (s : List Int) (o : Int) (d : List Int) : List Int := if okGrid s o d then rl lt d o.toNat d.length else []
theorem lowR_len (lt : Int → Int → Bool) (s : List Int) (o : Int) (d : List Int) : (lowR lt s o d).length ≤ 4 := by
  unfold lowR
  split
  · rename_i hg
    have hG := okGrid_iff hg
    have hpp : 1 ≤ prod s := by
      obtain ⟨ns, hn0, hn1, hn2⟩ := nz_of hG.2.2.2.2.1
      rw [hn0, prod_nz]
      have := PR_pos (ns := ns) (fun n hn => by have := hn2 n hn; omega)
      omega
    have hle : o.toNat ≤ d.length := by
      have h1 := hG.2.2.2.2.2.2.1
      have h2 : 1 * o ≤ prod s * o := Int.mul_le_mul_of_nonneg_right hpp (by omega)
      omega
    rw [rl_length hle]
    omega
  · simp
theorem checks_c (size : List Int) (out : Int) (data : List Int) (ds : List Int) (o : Int) (vals : List Int) (sm : Bool) (w0 a0 n0 w1 a1 n1 : Int)
    (hs : size.length ≤ 281474976710656) (hda : data.length ≤ 281474976710656)
    (hd : ∀ v ∈ ds, 0 ≤ v ∧ v ≤ 255) (hdl : ds.length ≤ 281474976710656) (ho : 0 ≤ o ∧ o ≤ 255) (hv : ∀ v ∈ vals, 0 ≤ v ∧ v ≤ 65535) (hvl : vals.length ≤ 281474976710656)
    (hw0 : 0 ≤ w0 ∧ w0 ≤ 255) (ha0 : 0 ≤ a0 ∧ a0 ≤ 255) (hw1 : 0 ≤ w1 ∧ w1 ≤ 255) (ha1 : 0 ≤ a1 ∧ a1 ≤ 255) :
    Called Try.prog 7 [gridD size out data, draftD ds o vals sm, bendsD w0 a0 n0 w1 a1 n1] (.bool true) := by
  obtain ⟨s0, o0, d0, s1, o1, d1, s2, o2, d2, s3, o3, d3, c4, ⟨b0, e0⟩, ⟨b1, e1⟩, ⟨b2, e2⟩, b3, e3⟩ := four_c size out data ds o vals sm w0 a0 n0 w1 a1 n1 hs hda hd hdl ho hv hvl hw0 ha0 hw1 ha1
  have hR : ∀ (s : List Int) (o : Int) (d : List Int), s.length ≤ 100 → d.length ≤ 100000 → Called Try.prog 27 [gridD s o d] (.tup [.ints .i64 (lowR (fun a b => decide (a < b)) s o d), .ints .i64 (lowR (fun a b => decide (a > b)) s o d), .int .i64 (if okGrid s o d then 0 else 100)]) := fun s o d h1 h2 => range_c s o d (by omega) (by omega)
  have hS : ∀ (s : List Int) (o : Int) (d : List Int), s.length ≤ 100 → d.length ≤ 100000 → Called Try.prog 29 [gridD s o d] (.tup [.ints .i64 (lowR (fun a b => decide (a < b)) s o d), .ints .i64 (lowR (fun a b => decide (a > b)) s o d), .int .i64 (if okGrid s o d then 0 else 100)]) := fun s o d h1 h2 => rrange_c s o d (by omega) (by omega)
  have hC : ∀ (s : List Int) (o : Int) (d : List Int), s.length ≤ 100 → d.length ≤ 100000 → Called Try.prog 25 [gridD s o d] (.int .i64 (if okGrid s o d then 0 else 100)) := fun s o d h1 h2 => check_c s o d (by omega) (by omega)
  have hD : ∀ (s : List Int) (o : Int) (d : List Int), s.length ≤ 100 → d.length ≤ 100000 → Called Try.prog 30 [gridD s o d] (.int .i64 (if okGrid s o d then 0 else 100)) := fun s o d h1 h2 => rcheck_c s o d (by omega) (by omega)
  have hE : ∀ (lt : Int → Int → Bool) (s : List Int) (o : Int) (d : List Int), Called Try.prog 17 [.ints .i64 (lowR lt s o d), .ints .i64 (lowR lt s o d)] (.bool true) := fun lt s o d => by
    have := lowR_len lt s o d
    exact Called.cast (equal_c _ _ (by omega) (by omega)) (by simp)
  have hT : ∀ (s : List Int) (o : Int) (d : List Int) (s' : List Int) (o' : Int) (d' : List Int), s.length ≤ 100 → d.length ≤ 100000 → s'.length ≤ 100 → d'.length ≤ 100000 → Called Try.prog 31 [gridD s o d, gridD s' o' d'] (.bool (decide (s = s' ∧ o = o' ∧ d = d'))) := fun s o d s' o' d' h1 h2 h3 h4 => same_c s o d s' o' d' (by omega) (by omega) (by omega) (by omega)
  have hU : ∀ (s : List Int) (o : Int) (d : List Int) (s' : List Int) (o' : Int) (d' : List Int), s.length ≤ 100 → d.length ≤ 100000 → s'.length ≤ 100 → d'.length ≤ 100000 → Called Try.prog 20 [gridD s o d, gridD s' o' d'] (.bool (decide (s = s' ∧ o = o' ∧ d = d'))) := fun s o d s' o' d' h1 h2 h3 h4 => rsame_c s o d s' o' d' (by omega) (by omega) (by omega) (by omega)
  refine called_of_run tbOk 6 ⟨Try.func7, rfl, rfl, Nat.le_of_ble_eq_true rfl⟩ ?_
  (conv => whnf)
  refine V.st ?_
  repeat ((try ((with_reducible refine .ext ?_); (conv => whnf))); (with_reducible refine call_intro (r := ?_) ?_ ?_); rotate_left; (focus (first | exact (wakes_c) | exact (c4))); (conv => whnf); refine V.st ?_)
  refine lp_go (4) (fun k => True) (fun k => [(25, .int .i64 k)]) (fun k => []) V.wk ?_ ?_
  · trivial
  intro k hk _
  have hk2 : k = 4 ∨ k = 0 ∨ k = 1 ∨ k = 2 ∨ k = 3 := by omega
  rcases hk2 with rfl | rfl | rfl | rfl | rfl
  · (conv => whnf)
    refine V.st ?_
    exact Fin.of rfl
  all_goals
    (conv => whnf)
    refine V.st ?_
    repeat ((try ((with_reducible refine .ext ?_); (conv => whnf))); (with_reducible refine call_intro (r := ?_) ?_ ?_); rotate_left; (focus (first | (refine hR _ _ _ ?_ ?_ <;> assumption) | (refine hS _ _ _ ?_ ?_ <;> assumption) | (refine hC _ _ _ ?_ ?_ <;> assumption) | (refine hD _ _ _ ?_ ?_ <;> assumption) | exact (hE _ _ _ _))); (conv => whnf); refine V.st ?_)
    refine ⟨(.take 0 (.take 2 (.ev (.cons 1 [2] (.ev (.cons 3 [] (.take 4 (.take 5 (.take 6 (.take 7 (.take 8 (.take 9 (.take 10 (.take 11 (.take 12 (.ev (.cons 13 [] (.take 14 (.take 15 (.take 16 (.take 17 (.take 18 (.ev (.cons 19 [] (.take 20 (.take 21 (.done))) (.nil)))))))) (.nil)))))))))))) (.nil))) (.nil))))), ⟨by kernel_rfl, by kernel_rfl, by kernel_rfl⟩, .go ?_⟩
    (conv => whnf)
    refine V.st ?_
    repeat ((try ((with_reducible refine .ext ?_); (conv => whnf))); (with_reducible refine call_intro (r := ?_) ?_ ?_); rotate_left; (focus (first | (refine hR _ _ _ ?_ ?_ <;> assumption) | (refine hS _ _ _ ?_ ?_ <;> assumption) | (refine hC _ _ _ ?_ ?_ <;> assumption) | (refine hD _ _ _ ?_ ?_ <;> assumption) | exact (hE _ _ _ _))); (conv => whnf); refine V.st ?_)
    refine Cnd.split (CondB.mk (fun hq => ?_) (fun hq => ?_))
    · simp at hq
    (conv => whnf)
    refine V.st ?_
    refine lp_go (4) (fun k => True) (fun k => [(63, .int .i64 k)]) (fun k => []) V.wk ?_ ?_
    · trivial
    intro k hk _
    have hk2 : k = 4 ∨ k = 0 ∨ k = 1 ∨ k = 2 ∨ k = 3 := by omega
    rcases hk2 with rfl | rfl | rfl | rfl | rfl
    · (conv => whnf)
      refine V.st ?_
      first | exact ⟨1, ⟨by omega, trivial⟩, by omega, by refine Wk.of2 ?_ ?_ <;> (repeat' (first | exact True.intro | exact rfl | (refine And.intro ?_ ?_)))⟩ | exact ⟨2, ⟨by omega, trivial⟩, by omega, by refine Wk.of2 ?_ ?_ <;> (repeat' (first | exact True.intro | exact rfl | (refine And.intro ?_ ?_)))⟩ | exact ⟨3, ⟨by omega, trivial⟩, by omega, by refine Wk.of2 ?_ ?_ <;> (repeat' (first | exact True.intro | exact rfl | (refine And.intro ?_ ?_)))⟩ | exact ⟨4, ⟨by omega, trivial⟩, by omega, by refine Wk.of2 ?_ ?_ <;> (repeat' (first | exact True.intro | exact rfl | (refine And.intro ?_ ?_)))⟩
    all_goals
      (conv => whnf)
      refine V.st ?_
      repeat ((try ((with_reducible refine .ext ?_); (conv => whnf))); (with_reducible refine call_intro (r := ?_) ?_ ?_); rotate_left; (focus (first | (refine hT _ _ _ _ _ _ ?_ ?_ ?_ ?_ <;> assumption) | (refine hU _ _ _ _ _ _ ?_ ?_ ?_ ?_ <;> assumption))); (conv => whnf); refine V.st ?_)
      refine ⟨(.take 0 (.take 1 (.take 3 (.take 4 (.ev (.cons 2 [4, 3] (.ev (.cons 5 [] (.take 6 (.done)) (.nil))) (.nil))))))), ⟨by kernel_rfl, by kernel_rfl, by kernel_rfl⟩, .go ?_⟩
      (conv => whnf)
      refine V.st ?_
      repeat ((try ((with_reducible refine .ext ?_); (conv => whnf))); (with_reducible refine call_intro (r := ?_) ?_ ?_); rotate_left; (focus (first | (refine hT _ _ _ _ _ _ ?_ ?_ ?_ ?_ <;> assumption) | (refine hU _ _ _ _ _ _ ?_ ?_ ?_ ?_ <;> assumption))); (conv => whnf); refine V.st ?_)
      refine Cnd.split (CondB.mk (fun hq2 => ?_) (fun hq2 => ?_))
      · simp at hq2
      (conv => whnf)
      refine V.st ?_
      first | exact ⟨1, ⟨by omega, trivial⟩, by omega, by refine Wk.of2 ?_ ?_ <;> (repeat' (first | exact True.intro | exact rfl | (refine And.intro ?_ ?_)))⟩ | exact ⟨2, ⟨by omega, trivial⟩, by omega, by refine Wk.of2 ?_ ?_ <;> (repeat' (first | exact True.intro | exact rfl | (refine And.intro ?_ ?_)))⟩ | exact ⟨3, ⟨by omega, trivial⟩, by omega, by refine Wk.of2 ?_ ?_ <;> (repeat' (first | exact True.intro | exact rfl | (refine And.intro ?_ ?_)))⟩ | exact ⟨4, ⟨by omega, trivial⟩, by omega, by refine Wk.of2 ?_ ?_ <;> (repeat' (first | exact True.intro | exact rfl | (refine And.intro ?_ ?_)))⟩
end Go.Proofs.Ytfhmfpneiagakaa
