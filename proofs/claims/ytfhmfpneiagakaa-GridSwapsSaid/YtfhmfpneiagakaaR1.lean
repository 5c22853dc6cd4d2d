/- What some functions of the program answer at values that mean given lists and numbers, each proved of the program's own code. Conditions: those that each theorem names. -/
import Derived.Test.YtfhmfpneiagakaaT21
import Derived.Test.YtfhmfpneiagakaaV9
set_option linter.unusedSimpArgs false
set_option linter.unusedVariables false
set_option maxHeartbeats 8000000
set_option maxRecDepth 100000
namespace Go.Proofs.Ytfhmfpneiagakaa
open Go Go.V Go.Gr
def draftL : List Lf := [.ints .u8, .int .u8, .ints .u16, .bool]
theorem draft_den {w : World} {cs : Array Value} (h : leavesOk w draftL cs.toList) : ∃ ds o vals sm, Den Env.dummy (pubOf w) (draftD ds o vals sm) (.agg cs) ∧
    (∀ v ∈ ds, 0 ≤ v ∧ v ≤ 255) ∧ ds.length ≤ 281474976710656 ∧ (0 ≤ o ∧ o ≤ 255) ∧ (∀ v ∈ vals, 0 ≤ v ∧ v ≤ 65535) ∧ vals.length ≤ 281474976710656 := by
  obtain ⟨v0, r0, e0, ⟨ds, h0⟩, v1, r1, e1, ⟨o, h1, h1'⟩, v2, r2, e2, ⟨vals, h2⟩, v3, r3, e3, ⟨sm, h3⟩, e4⟩ := h
  subst e4 e3 e2 e1
  obtain rfl : cs = #[v0, v1, v2, v3] := by cases cs; simp_all
  subst h1 h3
  have g0 := h0
  have g2 := h2
  obtain ⟨a0, c0, x0, _, y0, z0, _⟩ := g0
  obtain ⟨a2, c2, x2, _, y2, z2, _⟩ := g2
  refine ⟨ds, o, vals, sm, ⟨[v0, .int .u8 o, v2, .bool sm], rfl, ⟨v0, _, rfl, h0, _, _, rfl, ⟨rfl, h1'⟩, _, _, rfl, h2, _, _, rfl, rfl, rfl⟩, ?_⟩, ?_, y0, ?_, ?_, y2⟩
  · subst x0 x2
    intro v hv
    simp only [List.mem_cons, List.not_mem_nil, or_false] at hv
    rcases hv with rfl | rfl | rfl | rfl <;> rfl
  · intro v hv
    have := z0 v hv
    simpa [InR, V.lo, V.hi] using this
  · simpa [InR, V.lo, V.hi] using h1'
  · intro v hv
    have := z2 v hv
    simpa [InR, V.lo, V.hi] using this
end Go.Proofs.Ytfhmfpneiagakaa
