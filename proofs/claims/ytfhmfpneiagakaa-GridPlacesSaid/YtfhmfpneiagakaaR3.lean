/- What some functions of the program answer at values that mean given lists and numbers, each proved of the program's own code. Conditions: those that each theorem names. -/
import Derived.Test.YtfhmfpneiagakaaR2
import Derived.Test.YtfhmfpneiagakaaT25
set_option linter.unusedSimpArgs false
set_option linter.unusedVariables false
set_option maxHeartbeats 8000000
set_option maxRecDepth 100000
namespace Go.Proofs.Ytfhmfpneiagakaa
open Go Go.V Go.Gr
theorem okWide_one {P : Program} {w : World} {r : Reach} {base : Nat} {t : TypeId} {v : Value} (ht : (match P.underlying t with | some (.struct _) => false | some (.array _ _) => false | _ => true) = true) (h : Value.okWide P w r base t v) : v.cells.toList = [v] := by
  unfold Value.okWide at h
  split at h
  · rename_i e
    rw [e] at ht
    cases ht
  · rename_i e
    rw [e] at ht
    cases ht
  · cases v <;> first | rfl | skip
    exfalso
    unfold Cell.okWide at h
    split at h
    all_goals first
      | (rename_i h1; simp at h1; done)
      | skip
    unfold Cell.ok at h
    split at h <;> simp_all
def intsL : List Lf := [.ints .i64]
def bytesL : List Lf := [.ints .u8]
def near4L : List Lf := [.int .u8, .int .u8, .int .u8, .int .u8]
def pairL : List Lf := [.int .i64, .int .i64]
def u8L : List Lf := [.int .u8]
def u16L : List Lf := [.int .u16]
theorem ints_den {w : World} {v : Value} (h : leavesOk w intsL [v]) : ∃ xs, Den Env.dummy (pubOf w) (.ints .i64 xs) v ∧ xs.length ≤ 281474976710656 := by
  obtain ⟨v0, r0, e0, ⟨xs, h0⟩, e1⟩ := h
  subst e1
  cases e0
  have g0 := h0
  obtain ⟨a0, c0, x0, _, y0, z0, _⟩ := g0
  exact ⟨xs, h0, y0⟩
theorem bytes_den {w : World} {v : Value} (h : leavesOk w bytesL [v]) : ∃ xs, Den Env.dummy (pubOf w) (.ints .u8 xs) v ∧ xs.length ≤ 281474976710656 ∧ ∀ v ∈ xs, 0 ≤ v ∧ v ≤ 255 := by
  obtain ⟨v0, r0, e0, ⟨xs, h0⟩, e1⟩ := h
  subst e1
  cases e0
  have g0 := h0
  obtain ⟨a0, c0, x0, _, y0, z0, _⟩ := g0
  exact ⟨xs, h0, y0, fun v hv => by simpa [InR, V.lo, V.hi] using z0 v hv⟩
theorem u8_den {w : World} {v : Value} (h : leavesOk w u8L [v]) : ∃ n, Den Env.dummy (pubOf w) (.int .u8 n) v ∧ 0 ≤ n ∧ n ≤ 255 := by
  obtain ⟨v0, r0, e0, ⟨n, h0, h0'⟩, e1⟩ := h
  subst e1
  cases e0
  exact ⟨n, ⟨h0, h0'⟩, by simpa [InR, V.lo, V.hi] using h0'⟩
theorem u16_den {w : World} {v : Value} (h : leavesOk w u16L [v]) : ∃ n, Den Env.dummy (pubOf w) (.int .u16 n) v ∧ 0 ≤ n ∧ n ≤ 65535 := by
  obtain ⟨v0, r0, e0, ⟨n, h0, h0'⟩, e1⟩ := h
  subst e1
  cases e0
  exact ⟨n, ⟨h0, h0'⟩, by simpa [InR, V.lo, V.hi] using h0'⟩
theorem near_den {w : World} {cs : Array Value} (h : leavesOk w near4L cs.toList) : ∃ x0 x1 x2 x3, Den Env.dummy (pubOf w) (near4D x0 x1 x2 x3) (.agg cs) ∧
    (0 ≤ x0 ∧ x0 ≤ 255) ∧ (0 ≤ x1 ∧ x1 ≤ 255) ∧ (0 ≤ x2 ∧ x2 ≤ 255) ∧ (0 ≤ x3 ∧ x3 ≤ 255) := by
  obtain ⟨v0, r0, e0, ⟨w0, h0, h0'⟩, v1, r1, e1, ⟨a0, h1, h1'⟩, v2, r2, e2, ⟨n0, h2, h2'⟩, v3, r3, e3, ⟨w1, h3, h3'⟩, e4⟩ := h
  subst e4 e3 e2 e1
  obtain rfl : cs = #[v0, v1, v2, v3] := by cases cs; simp_all
  subst h0 h1 h2 h3
  refine ⟨w0, a0, n0, w1, ⟨_, rfl, ⟨_, _, rfl, ⟨rfl, h0'⟩, _, _, rfl, ⟨rfl, h1'⟩, _, _, rfl, ⟨rfl, h2'⟩, _, _, rfl, ⟨rfl, h3'⟩, rfl⟩, ?_⟩, by simpa [InR, V.lo, V.hi] using h0', by simpa [InR, V.lo, V.hi] using h1', by simpa [InR, V.lo, V.hi] using h2', by simpa [InR, V.lo, V.hi] using h3'⟩
  intro v hv
  simp only [List.mem_cons, List.not_mem_nil, or_false] at hv
  rcases hv with rfl | rfl | rfl | rfl <;> rfl
theorem pair_den {w : World} {cs : Array Value} (h : leavesOk w pairL cs.toList) : ∃ x0 x1, Den Env.dummy (pubOf w) (.agg [.int .i64 x0, .int .i64 x1]) (.agg cs) := by
  obtain ⟨v0, r0, e0, ⟨w0, h0, h0'⟩, v1, r1, e1, ⟨a0, h1, h1'⟩, e2⟩ := h
  subst e2 e1
  obtain rfl : cs = #[v0, v1] := by cases cs; simp_all
  subst h0 h1
  refine ⟨w0, a0, ⟨_, rfl, ⟨_, _, rfl, ⟨rfl, h0'⟩, _, _, rfl, ⟨rfl, h1'⟩, rfl⟩, ?_⟩⟩
  intro v hv
  simp only [List.mem_cons, List.not_mem_nil, or_false] at hv
  rcases hv with rfl | rfl <;> rfl
end Go.Proofs.Ytfhmfpneiagakaa
