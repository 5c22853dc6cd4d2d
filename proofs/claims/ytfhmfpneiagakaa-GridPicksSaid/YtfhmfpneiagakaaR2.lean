/- What some functions of the program answer at values that mean given lists and numbers, each proved of the program's own code. Conditions: those that each theorem names. -/
import Derived.Test.YtfhmfpneiagakaaR1
import Derived.Test.YtfhmfpneiagakaaT23
set_option linter.unusedSimpArgs false
set_option linter.unusedVariables false
set_option maxHeartbeats 8000000
set_option maxRecDepth 100000
namespace Go.Proofs.Ytfhmfpneiagakaa
open Go Go.V Go.Gr
def gridL : List Lf := [.ints .i64, .int .i64, .ints .i64]
def bendsL : List Lf := [.int .u8, .int .u8, .int .i64, .int .u8, .int .u8, .int .i64]
theorem grid_den {w : World} {cs : Array Value} (h : leavesOk w gridL cs.toList) : ∃ size out data, Den Env.dummy (pubOf w) (gridD size out data) (.agg cs) ∧ size.length ≤ 281474976710656 ∧ data.length ≤ 281474976710656 := by
  obtain ⟨v0, r0, e0, ⟨size, h0⟩, v1, r1, e1, ⟨out, h1, h1'⟩, v2, r2, e2, ⟨data, h2⟩, e3⟩ := h
  subst e3 e2 e1
  obtain rfl : cs = #[v0, v1, v2] := by cases cs; simp_all
  subst h1
  have g0 := h0
  have g2 := h2
  obtain ⟨a0, c0, x0, _, y0, z0, _⟩ := g0
  obtain ⟨a2, c2, x2, _, y2, z2, _⟩ := g2
  refine ⟨size, out, data, ⟨[v0, .int .i64 out, v2], rfl, ⟨v0, _, rfl, h0, _, _, rfl, ⟨rfl, h1'⟩, _, _, rfl, h2, rfl⟩, ?_⟩, y0, y2⟩
  subst x0 x2
  intro v hv
  simp only [List.mem_cons, List.not_mem_nil, or_false] at hv
  rcases hv with rfl | rfl | rfl <;> rfl
theorem bends_den {w : World} {cs : Array Value} (h : leavesOk w bendsL cs.toList) : ∃ w0 a0 n0 w1 a1 n1, Den Env.dummy (pubOf w) (bendsD w0 a0 n0 w1 a1 n1) (.agg cs) ∧
    (0 ≤ w0 ∧ w0 ≤ 255) ∧ (0 ≤ a0 ∧ a0 ≤ 255) ∧ (0 ≤ w1 ∧ w1 ≤ 255) ∧ (0 ≤ a1 ∧ a1 ≤ 255) := by
  obtain ⟨v0, r0, e0, ⟨w0, h0, h0'⟩, v1, r1, e1, ⟨a0, h1, h1'⟩, v2, r2, e2, ⟨n0, h2, h2'⟩, v3, r3, e3, ⟨w1, h3, h3'⟩, v4, r4, e4, ⟨a1, h4, h4'⟩, v5, r5, e5, ⟨n1, h5, h5'⟩, e6⟩ := h
  subst e6 e5 e4 e3 e2 e1
  obtain rfl : cs = #[v0, v1, v2, v3, v4, v5] := by cases cs; simp_all
  subst h0 h1 h2 h3 h4 h5
  refine ⟨w0, a0, n0, w1, a1, n1, ⟨_, rfl, ⟨_, _, rfl, ⟨rfl, h0'⟩, _, _, rfl, ⟨rfl, h1'⟩, _, _, rfl, ⟨rfl, h2'⟩, _, _, rfl, ⟨rfl, h3'⟩, _, _, rfl, ⟨rfl, h4'⟩, _, _, rfl, ⟨rfl, h5'⟩, rfl⟩, ?_⟩, by simpa [InR, V.lo, V.hi] using h0', by simpa [InR, V.lo, V.hi] using h1', by simpa [InR, V.lo, V.hi] using h3', by simpa [InR, V.lo, V.hi] using h4'⟩
  intro v hv
  simp only [List.mem_cons, List.not_mem_nil, or_false] at hv
  rcases hv with rfl | rfl | rfl | rfl | rfl | rfl <;> rfl
theorem okWide_arr {P : Program} {w : World} {r : Reach} {base : Nat} {t n e : Nat} {v : Value} (ht : P.underlying t = some (.array n e)) (h : Value.okWide P w r base t v) : ∃ cs, v = .agg cs ∧ cs.size = P.cellsOf t := by
  simp only [Value.okWide, ht] at h
  obtain ⟨cs, h1, h2, _⟩ := h
  exact ⟨cs, h1, h2⟩
end Go.Proofs.Ytfhmfpneiagakaa
