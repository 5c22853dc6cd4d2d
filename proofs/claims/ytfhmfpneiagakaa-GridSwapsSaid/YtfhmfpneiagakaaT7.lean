/- What some functions of the program answer at values that mean given lists and numbers, each proved of the program's own code. Conditions: those that each theorem names. -/
import Derived.Test.YtfhmfpneiagakaaT6b
set_option linter.unusedSimpArgs false
set_option linter.unusedVariables false
set_option maxHeartbeats 8000000
set_option maxRecDepth 100000
namespace Go.Proofs.Ytfhmfpneiagakaa
open Go Go.V Go.Gr
theorem index_step {ns : List Nat} {m p n : Nat} (hn : ns[p]? = some n) (hp : p < ns.length) :
    (List.replicate (p + 1) (0 : Int) ++ (ixl ns m).drop (p + 1)).set p ((m / PR (ns.drop (p + 1)) % n : Nat) : Int) = List.replicate p 0 ++ (ixl ns m).drop p ∧ m / PR (ns.drop (p + 1)) / n = m / PR (ns.drop p) := by
  have hx := ixl_get ns m p n hn
  constructor
  · rw [List.set_append_left _ _ (by simp), List.replicate_succ', List.set_append_right _ _ (by simp)]
    rw [List.drop_eq_getElem_cons (i := p) (by rw [ixl_length]; exact hp)]
    have := (List.getElem?_eq_some_iff.1 hx).2
    rw [this]
    simp
  · have hd : ns.drop p = n :: ns.drop (p + 1) := by
      rw [List.drop_eq_getElem_cons hp]
      rw [(List.getElem?_eq_some_iff.1 hn).2]
    rw [hd, PR, Nat.div_div_eq_div_mul, Nat.mul_comm]
theorem rindex_c (ns : List Nat) (m : Nat) (hp : ∀ n ∈ ns, 0 < n ∧ n ≤ 1000000) (hl : ns.length ≤ 10000) (hm : m ≤ 1000000000) : Called Try.prog 44 [.ints .i64 (nz ns), .int .i64 m] (.ints .i64 (ixl ns m)) := by
  have hlen : (nz ns).length = ns.length := by simp [nz]
  refine called_of_run tbOk 6 ⟨Try.func44, rfl, rfl, Nat.le_of_ble_eq_true rfl⟩ ?_
  (conv => whnf)
  (conv => whnf)
  (try simp only [hlen, Int.toNat_natCast])
  repeat (first | (refine V.s1 ?_; (try simp only [hlen, Int.toNat_natCast])) | ((with_reducible refine recheck_and ?_ ?_); (focus ((conv => whnf); (try simp only [hlen, Int.toNat_natCast]); (repeat (refine V.s1 ?_; (try simp only [hlen, Int.toNat_natCast]))); exact ⟨rfl⟩)); (conv => whnf); (try simp only [hlen, Int.toNat_natCast])))
  have e0 : List.replicate ns.length (0 : Int) = List.replicate ns.length 0 ++ (ixl ns m).drop ns.length := by
    rw [List.drop_of_length_le (by rw [ixl_length]; omega), List.append_nil]
  have e1 : (m : Int) = ((m / PR (ns.drop ns.length) : Nat) : Int) := by simp [PR]
  refine lp_any (ns.length) (fun k => k ≤ ns.length) (fun k => k) (fun k => [(1, .int .i64 ((m / PR (ns.drop k) : Nat) : Int)), (6, .int .i64 ((k : Int) - 1))]) (fun k => [(9, .arr .i64 (List.replicate k 0 ++ (ixl ns m).drop k))]) ?_ ?_ ?_
  · rw [← e0, ← e1]
    exact V.wk
  · exact Nat.le_refl _
  intro p hpl
  (conv => whnf)
  refine V.st ?_
  refine Cnd.split (CondB.mk (fun h => ?_) (fun h => ?_))
  · have hp0 : 0 < p := by simp at h; omega
    obtain ⟨p, rfl⟩ : ∃ q, p = q + 1 := ⟨p - 1, by omega⟩
    have hp1 : p < ns.length := by omega
    obtain ⟨n, hn⟩ : ∃ n, ns[p]? = some n := ⟨ns[p], List.getElem?_eq_getElem hp1⟩
    have hn0 := hp n (List.mem_of_getElem? hn)
    have en : (nz ns).getD p 0 = n := by simp [nz, List.getD_eq_getElem?_getD, hn]
    have e2 : (((p + 1 : Nat) : Int) - 1) = (p : Int) := by omega
    have hst := index_step (m := m) hn hp1
    have e3 : ((m / PR (ns.drop (p + 1)) : Nat) : Int) % (n : Int) = ((m / PR (ns.drop (p + 1)) % n : Nat) : Int) := by simp
    have e4 : ((m / PR (ns.drop (p + 1)) : Nat) : Int) / (n : Int) = ((m / PR (ns.drop p) : Nat) : Int) := by rw [← hst.2]; simp
    have hl2 : (List.replicate (p + 1) (0 : Int) ++ (ixl ns m).drop (p + 1)).length = ns.length := by simp [ixl_length]; omega
    have hl3 : m / PR (ns.drop (p + 1)) ≤ m := Nat.div_le_self _ _
    generalize hq : m / PR (ns.drop (p + 1)) = q at *
    (conv => whnf)
    (try simp only [hlen, e2, en, Int.toNat_natCast, Nat.zero_add])
    repeat (first | (refine V.s1 ?_; (try simp only [hlen, e2, en, Int.toNat_natCast, Nat.zero_add])) | ((with_reducible refine recheck_and ?_ ?_); (focus ((conv => whnf); (try simp only [hlen, e2, en, Int.toNat_natCast, Nat.zero_add]); (repeat (refine V.s1 ?_; (try simp only [hlen, e2, en, Int.toNat_natCast, Nat.zero_add]))); exact ⟨rfl⟩)); (conv => whnf); (try simp only [hlen, e2, en, Int.toNat_natCast, Nat.zero_add])))
    rw [e3, hst.1]
    refine V.st ?_
    rw [e4]
    exact ⟨p, by omega, by omega, V.wk⟩
  · have hp0 : p = 0 := by simp at h; omega
    subst hp0
    (conv => whnf)
    refine V.st ?_
    have h0 : (List.replicate 0 (0 : Int) ++ (ixl ns m).drop 0) = ixl ns m := by simp
    have hli := ixl_length ns m
    rw [h0]
    refine Fin.of ?_
    rw [List.take_of_length_le (by rw [hli]; simp)]
theorem index_c (ns : List Nat) (m : Nat) (hp : ∀ n ∈ ns, 0 < n ∧ n ≤ 1000000) (hl : ns.length ≤ 10000) (hm : m ≤ 1000000000) : Called Try.prog 24 [.ints .i64 (nz ns), .int .i64 m] (.ints .i64 (ixl ns m)) := by
  have hlen : (nz ns).length = ns.length := by simp [nz]
  refine called_of_run tbOk 6 ⟨Try.func24, rfl, rfl, Nat.le_of_ble_eq_true rfl⟩ ?_
  (conv => whnf)
  (conv => whnf)
  (try simp only [hlen, Int.toNat_natCast])
  repeat (first | (refine V.s1 ?_; (try simp only [hlen, Int.toNat_natCast])) | ((with_reducible refine recheck_and ?_ ?_); (focus ((conv => whnf); (try simp only [hlen, Int.toNat_natCast]); (repeat (refine V.s1 ?_; (try simp only [hlen, Int.toNat_natCast]))); exact ⟨rfl⟩)); (conv => whnf); (try simp only [hlen, Int.toNat_natCast])))
  have e0 : List.replicate ns.length (0 : Int) = List.replicate ns.length 0 ++ (ixl ns m).drop ns.length := by
    rw [List.drop_of_length_le (by rw [ixl_length]; omega), List.append_nil]
  have e1 : (m : Int) = ((m / PR (ns.drop ns.length) : Nat) : Int) := by simp [PR]
  refine lp_any (ns.length) (fun k => k ≤ ns.length) (fun k => k) (fun k => [(1, .int .i64 ((m / PR (ns.drop k) : Nat) : Int)), (6, .int .i64 ((k : Int) - 1))]) (fun k => [(9, .arr .i64 (List.replicate k 0 ++ (ixl ns m).drop k))]) ?_ ?_ ?_
  · rw [← e0, ← e1]
    exact V.wk
  · exact Nat.le_refl _
  intro p hpl
  (conv => whnf)
  refine V.st ?_
  refine Cnd.split (CondB.mk (fun h => ?_) (fun h => ?_))
  · have hp0 : 0 < p := by simp at h; omega
    obtain ⟨p, rfl⟩ : ∃ q, p = q + 1 := ⟨p - 1, by omega⟩
    have hp1 : p < ns.length := by omega
    obtain ⟨n, hn⟩ : ∃ n, ns[p]? = some n := ⟨ns[p], List.getElem?_eq_getElem hp1⟩
    have hn0 := hp n (List.mem_of_getElem? hn)
    have en : (nz ns).getD p 0 = n := by simp [nz, List.getD_eq_getElem?_getD, hn]
    have e2 : (((p + 1 : Nat) : Int) - 1) = (p : Int) := by omega
    have hst := index_step (m := m) hn hp1
    have e3 : ((m / PR (ns.drop (p + 1)) : Nat) : Int) % (n : Int) = ((m / PR (ns.drop (p + 1)) % n : Nat) : Int) := by simp
    have e4 : ((m / PR (ns.drop (p + 1)) : Nat) : Int) / (n : Int) = ((m / PR (ns.drop p) : Nat) : Int) := by rw [← hst.2]; simp
    have hl2 : (List.replicate (p + 1) (0 : Int) ++ (ixl ns m).drop (p + 1)).length = ns.length := by simp [ixl_length]; omega
    have hl3 : m / PR (ns.drop (p + 1)) ≤ m := Nat.div_le_self _ _
    generalize hq : m / PR (ns.drop (p + 1)) = q at *
    (conv => whnf)
    (try simp only [hlen, e2, en, Int.toNat_natCast, Nat.zero_add])
    repeat (first | (refine V.s1 ?_; (try simp only [hlen, e2, en, Int.toNat_natCast, Nat.zero_add])) | ((with_reducible refine recheck_and ?_ ?_); (focus ((conv => whnf); (try simp only [hlen, e2, en, Int.toNat_natCast, Nat.zero_add]); (repeat (refine V.s1 ?_; (try simp only [hlen, e2, en, Int.toNat_natCast, Nat.zero_add]))); exact ⟨rfl⟩)); (conv => whnf); (try simp only [hlen, e2, en, Int.toNat_natCast, Nat.zero_add])))
    refine ⟨(.take 0 (.take 1 (.take 2 (.take 3 (.take 4 (.take 5 (.take 6 (.take 7 (.take 8 (.take 9 (.take 10 (.take 11 (.take 12 (.take 13 (.take 14 (.ev (.cons 15 [13, 8] (.ev (.cons 16 [] (.done) (.nil))) (.nil)))))))))))))))))), ⟨by kernel_rfl, by kernel_rfl, by kernel_rfl⟩, .go ?_⟩
    (conv => whnf)
    (try simp only [hlen, e2, en, Int.toNat_natCast, Nat.zero_add, e3, e4, hst.1])
    repeat (first | (refine V.s1 ?_; (try simp only [hlen, e2, en, Int.toNat_natCast, Nat.zero_add, e3, e4, hst.1])) | ((with_reducible refine recheck_and ?_ ?_); (focus ((conv => whnf); (try simp only [hlen, e2, en, Int.toNat_natCast, Nat.zero_add, e3, e4, hst.1]); (repeat (refine V.s1 ?_; (try simp only [hlen, e2, en, Int.toNat_natCast, Nat.zero_add, e3, e4, hst.1]))); exact ⟨rfl⟩)); (conv => whnf); (try simp only [hlen, e2, en, Int.toNat_natCast, Nat.zero_add, e3, e4, hst.1])))
    exact ⟨p, by omega, by omega, V.wk⟩
  · have hp0 : p = 0 := by simp at h; omega
    subst hp0
    (conv => whnf)
    refine V.st ?_
    have h0 : (List.replicate 0 (0 : Int) ++ (ixl ns m).drop 0) = ixl ns m := by simp
    have hli := ixl_length ns m
    rw [h0]
    refine Fin.of ?_
    rw [List.take_of_length_le (by rw [hli]; simp)]
end Go.Proofs.Ytfhmfpneiagakaa
