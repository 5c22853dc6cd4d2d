/- What some functions of the program answer at values that mean given lists, texts and numbers, each proved of the program's own code: part 1. Conditions: those that each theorem names. -/
import Derived.Test.YtlcaefokcnohnaaDoorW9
import Derived.Test.YtlcaefokcnohnaaDoorProg
import Derived.Lib.ItoaNum
import Derived.Lib.LaidTab
import Derived.Stop.LaidErr
import Derived.LaidMore
set_option linter.unusedSimpArgs false
set_option linter.unusedVariables false
set_option maxHeartbeats 8000000
set_option maxRecDepth 100000
section
namespace Go.Proofs.YtlcaefokcnohnaaDoor
open Go Go.V
def tb : V.Tb := [(2, ⟨1, 8, .int .i64, [.int .i64 0]⟩),
  (3, ⟨1, 8, .int .i64, [.int .i64 0]⟩),
  (4, ⟨1, 1, .bool, [.bool false]⟩),
  (5, ⟨1, 1, .int .u8, [.int .u8 0]⟩),
  (9, ⟨1, 16, .str, [.str []]⟩),
  (23, ⟨1, 24, .slice 37, [.nil]⟩),
  (24, ⟨1, 8, .int .i64, [.int .i64 0]⟩),
  (27, ⟨1, 24, .slice 3, [.nil]⟩),
  (29, ⟨3, 56, .struct [(0, 27), (1, 3), (2, 27)], [.nil, .int .i64 0, .nil]⟩),
  (33, ⟨3, 24, .arr 3 3, [.int .i64 0, .int .i64 0, .int .i64 0]⟩),
  (35, ⟨1, 16, .str, [.str []]⟩),
  (37, ⟨2, 32, .struct [(0, 35), (1, 35)], [.str [], .str []]⟩),
  (39, ⟨3, 3, .arr 3 5, [.int .u8 0, .int .u8 0, .int .u8 0]⟩),
  (40, ⟨1, 2, .int .u16, [.int .u16 0]⟩),
  (41, ⟨3, 6, .arr 3 40, [.int .u16 0, .int .u16 0, .int .u16 0]⟩),
  (42, ⟨9, 18, .arr 3 41, [.int .u16 0, .int .u16 0, .int .u16 0, .int .u16 0, .int .u16 0, .int .u16 0, .int .u16 0, .int .u16 0, .int .u16 0]⟩),
  (43, ⟨1, 24, .slice 61, [.nil]⟩),
  (45, ⟨13, 48, .struct [(0, 39), (3, 42), (12, 43)], [.int .u8 0, .int .u8 0, .int .u8 0, .int .u16 0, .int .u16 0, .int .u16 0, .int .u16 0, .int .u16 0, .int .u16 0, .int .u16 0, .int .u16 0, .int .u16 0, .nil]⟩),
  (50, ⟨1, 8, .func, [.any]⟩),
  (52, ⟨12, 96, .arr 4 33, [.int .i64 0, .int .i64 0, .int .i64 0, .int .i64 0, .int .i64 0, .int .i64 0, .int .i64 0, .int .i64 0, .int .i64 0, .int .i64 0, .int .i64 0, .int .i64 0]⟩),
  (54, ⟨18, 144, .struct [(0, 33), (3, 33), (6, 52)], [.int .i64 0, .int .i64 0, .int .i64 0, .int .i64 0, .int .i64 0, .int .i64 0, .int .i64 0, .int .i64 0, .int .i64 0, .int .i64 0, .int .i64 0, .int .i64 0, .int .i64 0, .int .i64 0, .int .i64 0, .int .i64 0, .int .i64 0, .int .i64 0]⟩),
  (61, ⟨1, 2, .int .i16, [.int .i16 0]⟩),
  (63, ⟨1, 8, .func, [.any]⟩),
  (64, ⟨18, 144, .arr 6 33, [.int .i64 0, .int .i64 0, .int .i64 0, .int .i64 0, .int .i64 0, .int .i64 0, .int .i64 0, .int .i64 0, .int .i64 0, .int .i64 0, .int .i64 0, .int .i64 0, .int .i64 0, .int .i64 0, .int .i64 0, .int .i64 0, .int .i64 0, .int .i64 0]⟩),
  (66, ⟨9, 72, .arr 3 33, [.int .i64 0, .int .i64 0, .int .i64 0, .int .i64 0, .int .i64 0, .int .i64 0, .int .i64 0, .int .i64 0, .int .i64 0]⟩),
  (71, ⟨2, 32, .struct [(0, 4), (1, 27)], [.bool false, .nil]⟩),
  (73, ⟨4, 64, .struct [(0, 71), (2, 71)], [.bool false, .nil, .bool false, .nil]⟩),
  (85, ⟨1, 24, .slice 119, [.nil]⟩),
  (87, ⟨2, 32, .struct [(0, 85), (1, 4)], [.nil, .bool false]⟩),
  (90, ⟨3, 56, .struct [(0, 87), (2, 85)], [.nil, .bool false, .nil]⟩),
  (101, ⟨1, 24, .slice 119, [.nil]⟩),
  (103, ⟨2, 32, .struct [(0, 101), (1, 4)], [.nil, .bool false]⟩),
  (119, ⟨1, 4, .int .u32, [.int .u32 0]⟩),
  (121, ⟨1, 8, .int .u64, [.int .u64 0]⟩),
  (128, ⟨1, 8, .ptr 131, [.any]⟩),
  (129, ⟨1, 24, .slice 5, [.nil]⟩),
  (131, ⟨2, 32, .struct [(0, 128), (1, 129)], [.any, .nil]⟩),
  (133, ⟨1, 16, .other, [.any]⟩),
  (147, ⟨1, 8, .ptr 5, [.any]⟩),
  (148, ⟨24, 24, .arr 24 5, [.int .u8 0, .int .u8 0, .int .u8 0, .int .u8 0, .int .u8 0, .int .u8 0, .int .u8 0, .int .u8 0, .int .u8 0, .int .u8 0, .int .u8 0, .int .u8 0, .int .u8 0, .int .u8 0, .int .u8 0, .int .u8 0, .int .u8 0, .int .u8 0, .int .u8 0, .int .u8 0, .int .u8 0, .int .u8 0, .int .u8 0, .int .u8 0]⟩),
  (155, ⟨1, 8, .other, [.any]⟩),
  (158, ⟨20, 160, .arr 20 121, [.int .u64 0, .int .u64 0, .int .u64 0, .int .u64 0, .int .u64 0, .int .u64 0, .int .u64 0, .int .u64 0, .int .u64 0, .int .u64 0, .int .u64 0, .int .u64 0, .int .u64 0, .int .u64 0, .int .u64 0, .int .u64 0, .int .u64 0, .int .u64 0, .int .u64 0, .int .u64 0]⟩),
  (159, ⟨65, 65, .arr 65 5, [.int .u8 0, .int .u8 0, .int .u8 0, .int .u8 0, .int .u8 0, .int .u8 0, .int .u8 0, .int .u8 0, .int .u8 0, .int .u8 0, .int .u8 0, .int .u8 0, .int .u8 0, .int .u8 0, .int .u8 0, .int .u8 0, .int .u8 0, .int .u8 0, .int .u8 0, .int .u8 0, .int .u8 0, .int .u8 0, .int .u8 0, .int .u8 0, .int .u8 0, .int .u8 0, .int .u8 0, .int .u8 0, .int .u8 0, .int .u8 0, .int .u8 0, .int .u8 0, .int .u8 0, .int .u8 0, .int .u8 0, .int .u8 0, .int .u8 0, .int .u8 0, .int .u8 0, .int .u8 0, .int .u8 0, .int .u8 0, .int .u8 0, .int .u8 0, .int .u8 0, .int .u8 0, .int .u8 0, .int .u8 0, .int .u8 0, .int .u8 0, .int .u8 0, .int .u8 0, .int .u8 0, .int .u8 0, .int .u8 0, .int .u8 0, .int .u8 0, .int .u8 0, .int .u8 0, .int .u8 0, .int .u8 0, .int .u8 0, .int .u8 0, .int .u8 0, .int .u8 0]⟩),
  (160, ⟨1, 8, .int .u64, [.int .u64 0]⟩),
  (163, ⟨32, 32, .arr 32 5, [.int .u8 0, .int .u8 0, .int .u8 0, .int .u8 0, .int .u8 0, .int .u8 0, .int .u8 0, .int .u8 0, .int .u8 0, .int .u8 0, .int .u8 0, .int .u8 0, .int .u8 0, .int .u8 0, .int .u8 0, .int .u8 0, .int .u8 0, .int .u8 0, .int .u8 0, .int .u8 0, .int .u8 0, .int .u8 0, .int .u8 0, .int .u8 0, .int .u8 0, .int .u8 0, .int .u8 0, .int .u8 0, .int .u8 0, .int .u8 0, .int .u8 0, .int .u8 0]⟩),
  (164, ⟨64, 64, .arr 64 5, [.int .u8 0, .int .u8 0, .int .u8 0, .int .u8 0, .int .u8 0, .int .u8 0, .int .u8 0, .int .u8 0, .int .u8 0, .int .u8 0, .int .u8 0, .int .u8 0, .int .u8 0, .int .u8 0, .int .u8 0, .int .u8 0, .int .u8 0, .int .u8 0, .int .u8 0, .int .u8 0, .int .u8 0, .int .u8 0, .int .u8 0, .int .u8 0, .int .u8 0, .int .u8 0, .int .u8 0, .int .u8 0, .int .u8 0, .int .u8 0, .int .u8 0, .int .u8 0, .int .u8 0, .int .u8 0, .int .u8 0, .int .u8 0, .int .u8 0, .int .u8 0, .int .u8 0, .int .u8 0, .int .u8 0, .int .u8 0, .int .u8 0, .int .u8 0, .int .u8 0, .int .u8 0, .int .u8 0, .int .u8 0, .int .u8 0, .int .u8 0, .int .u8 0, .int .u8 0, .int .u8 0, .int .u8 0, .int .u8 0, .int .u8 0, .int .u8 0, .int .u8 0, .int .u8 0, .int .u8 0, .int .u8 0, .int .u8 0, .int .u8 0, .int .u8 0]⟩)]
theorem tbOk : V.TbOk Tryd.prog tb := V.tbB_ok (by kernel_rfl)
end Go.Proofs.YtlcaefokcnohnaaDoor
end
section
namespace Go.Proofs.YtlcaefokcnohnaaDoor
open Go Go.V Go.RowKit
def bdraftL : List Lf := [.int .i64, .int .u32]
def twoL : List Lf := [.int .i64, .int .i64, .int .i64, .int .i64, .int .i64, .int .u32, .int .i64, .int .u32]
def u16L : List Lf := [.int .u16]
def u16x4L : List Lf := [.int .u16, .int .u16, .int .u16, .int .u16]
def i64L : List Lf := [.int .i64]
theorem bdraft_den {w : World} {cs : Array Value} (h : leavesOk w bdraftL cs.toList) : ∃ a u, Den Env.dummy (pubOf w) (.agg [.int .i64 a, .int .u32 u]) (.agg cs) ∧ (-9223372036854775808 ≤ a ∧ a ≤ 9223372036854775807) ∧ (0 ≤ u ∧ u ≤ 4294967295) := by
  obtain ⟨v0, r0, e0, ⟨a, h0, h0'⟩, v1, r1, e1, ⟨u, h1, h1'⟩, e2⟩ := h
  subst e2 e1
  obtain rfl : cs = #[v0, v1] := by cases cs; simp_all
  subst h0 h1
  refine ⟨a, u, ⟨_, rfl, ⟨_, _, rfl, ⟨rfl, h0'⟩, _, _, rfl, ⟨rfl, h1'⟩, rfl⟩, ?_⟩, by simpa [InR, V.lo, V.hi] using h0', by simpa [InR, V.lo, V.hi] using h1'⟩
  intro v hv
  simp only [List.mem_cons, List.not_mem_nil, or_false] at hv
  rcases hv with rfl | rfl <;> rfl
theorem u16_den {w : World} {v : Value} (h : leavesOk w u16L [v]) : ∃ n, Den Env.dummy (pubOf w) (.int .u16 n) v ∧ (0 ≤ n ∧ n ≤ 65535) := by
  obtain ⟨v0, r0, e0, ⟨n, h0, h0'⟩, e1⟩ := h
  subst e1
  simp only [List.cons.injEq, and_true] at e0
  subst e0 h0
  exact ⟨n, ⟨rfl, h0'⟩, by simpa [InR, V.lo, V.hi] using h0'⟩
theorem i64_den {w : World} {v : Value} (h : leavesOk w i64L [v]) : ∃ n, Den Env.dummy (pubOf w) (.int .i64 n) v ∧ (-9223372036854775808 ≤ n ∧ n ≤ 9223372036854775807) := by
  obtain ⟨v0, r0, e0, ⟨n, h0, h0'⟩, e1⟩ := h
  subst e1
  simp only [List.cons.injEq, and_true] at e0
  subst e0 h0
  exact ⟨n, ⟨rfl, h0'⟩, by simpa [InR, V.lo, V.hi] using h0'⟩
theorem u16x4_den {w : World} {cs : Array Value} (h : leavesOk w u16x4L cs.toList) : ∃ a b c d, Den Env.dummy (pubOf w) (.iarr .u16 [a, b, c, d]) (.agg cs) ∧ (0 ≤ a ∧ a ≤ 65535) ∧ (0 ≤ b ∧ b ≤ 65535) ∧ (0 ≤ c ∧ c ≤ 65535) ∧ (0 ≤ d ∧ d ≤ 65535) := by
  obtain ⟨v0, r0, e0, ⟨a, h0, h0'⟩, v1, r1, e1, ⟨b, h1, h1'⟩, v2, r2, e2, ⟨c, h2, h2'⟩, v3, r3, e3, ⟨d, h3, h3'⟩, e4⟩ := h
  subst e4 e3 e2 e1
  obtain rfl : cs = #[v0, v1, v2, v3] := by cases cs; simp_all
  subst h0 h1 h2 h3
  refine ⟨a, b, c, d, ⟨rfl, ?_⟩, by simpa [InR, V.lo, V.hi] using h0', by simpa [InR, V.lo, V.hi] using h1', by simpa [InR, V.lo, V.hi] using h2', by simpa [InR, V.lo, V.hi] using h3'⟩
  intro n hn
  simp only [List.mem_cons, List.not_mem_nil, or_false] at hn
  rcases hn with rfl | rfl | rfl | rfl <;> assumption
theorem two_den {w : World} {cs : Array Value} (h : leavesOk w twoL cs.toList) : ∃ p q p2 q2 a u a2 u2, Den Env.dummy (pubOf w) (.agg [.int .i64 p, .int .i64 q, .int .i64 p2, .int .i64 q2, .int .i64 a, .int .u32 u, .int .i64 a2, .int .u32 u2]) (.agg cs) ∧
    (-9223372036854775808 ≤ p ∧ p ≤ 9223372036854775807) ∧ (-9223372036854775808 ≤ q ∧ q ≤ 9223372036854775807) ∧ (-9223372036854775808 ≤ p2 ∧ p2 ≤ 9223372036854775807) ∧ (-9223372036854775808 ≤ q2 ∧ q2 ≤ 9223372036854775807) ∧ (0 ≤ u ∧ u ≤ 4294967295) ∧ (0 ≤ u2 ∧ u2 ≤ 4294967295) := by
  obtain ⟨v0, r0, e0, ⟨p, h0, h0'⟩, v1, r1, e1, ⟨q, h1, h1'⟩, v2, r2, e2, ⟨p2, h2, h2'⟩, v3, r3, e3, ⟨q2, h3, h3'⟩, v4, r4, e4, ⟨a, h4, h4'⟩, v5, r5, e5, ⟨u, h5, h5'⟩, v6, r6, e6, ⟨a2, h6, h6'⟩, v7, r7, e7, ⟨u2, h7, h7'⟩, e8⟩ := h
  subst e8 e7 e6 e5 e4 e3 e2 e1
  obtain rfl : cs = #[v0, v1, v2, v3, v4, v5, v6, v7] := by cases cs; simp_all
  subst h0 h1 h2 h3 h4 h5 h6 h7
  refine ⟨p, q, p2, q2, a, u, a2, u2, ⟨_, rfl, ⟨_, _, rfl, ⟨rfl, h0'⟩, _, _, rfl, ⟨rfl, h1'⟩, _, _, rfl, ⟨rfl, h2'⟩, _, _, rfl, ⟨rfl, h3'⟩, _, _, rfl, ⟨rfl, h4'⟩, _, _, rfl, ⟨rfl, h5'⟩, _, _, rfl, ⟨rfl, h6'⟩, _, _, rfl, ⟨rfl, h7'⟩, rfl⟩, ?_⟩, by simpa [InR, V.lo, V.hi] using h0', by simpa [InR, V.lo, V.hi] using h1', by simpa [InR, V.lo, V.hi] using h2', by simpa [InR, V.lo, V.hi] using h3', by simpa [InR, V.lo, V.hi] using h5', by simpa [InR, V.lo, V.hi] using h7'⟩
  intro v hv
  simp only [List.mem_cons, List.not_mem_nil, or_false] at hv
  rcases hv with rfl | rfl | rfl | rfl | rfl | rfl | rfl | rfl <;> rfl
theorem okWide_arr {P : Program} {w : World} {r : Reach} {base : Nat} {t n e : Nat} {v : Value} (ht : P.underlying t = some (.array n e)) (h : Value.okWide P w r base t v) : ∃ cs, v = .agg cs ∧ cs.size = P.cellsOf t := by
  simp only [Value.okWide, ht] at h
  obtain ⟨cs, h1, h2, _⟩ := h
  exact ⟨cs, h1, h2⟩
theorem okWide_one {P : Program} {w : World} {r : Reach} {base : Nat} {t : TypeId} {v : Value} (ht : (match P.underlying t with | some (.struct _) => false | some (.array _ _) => false | _ => true) = true) (h : Value.okWide P w r base t v) : v.cells.toList = [v] := by
  unfold Value.okWide at h
  split at h
  · rename_i e
    rw [e] at ht
    cases ht
  · rename_i e
    rw [e] at ht
    cases ht
  · cases v <;> first | rfl | skip
    exfalso
    unfold Cell.okWide at h
    split at h
    all_goals first
      | (rename_i h1; simp at h1; done)
      | skip
    unfold Cell.ok at h
    split at h <;> simp_all
theorem glW_of_tab {w : World} (h : Lib.TabIs Tryd.prog w "internal/strconv.uint64pow10" .u64 Lib.pow10Tab) (h2 : w.var? Tryd.prog "verdigris/locate.orders" = some #[.int .i64 0, .int .i64 1, .int .i64 2, .int .i64 0, .int .i64 2, .int .i64 1, .int .i64 1, .int .i64 0, .int .i64 2, .int .i64 1, .int .i64 2, .int .i64 0, .int .i64 2, .int .i64 0, .int .i64 1, .int .i64 2, .int .i64 1, .int .i64 0]) : GlW w := by
  refine ⟨?_, ?_⟩
  rotate_left
  · intro g hg
    simp only [glbE, List.not_mem_nil] at hg
  intro g vs hg
  simp only [glb, List.mem_cons, List.not_mem_nil, or_false, Prod.mk.injEq] at hg
  rcases hg with ⟨rfl, rfl⟩ | ⟨rfl, rfl⟩
  · refine ⟨by simp, ?_⟩
    unfold World.var? at h2
    have hg : Tryd.prog.globalNamed "verdigris/locate.orders" = some 0 := by kernel_rfl
    rw [hg] at h2
    simp only [Option.bind_some] at h2
    split at h2
    · rename_i cs T f he
      cases h2
      exact ⟨T, f, he⟩
    · cases h2
  · refine ⟨by simp, ?_⟩
    unfold Lib.TabIs World.var? at h
    have hg : Tryd.prog.globalNamed "internal/strconv.uint64pow10" = some 1 := by kernel_rfl
    rw [hg] at h
    simp only [Option.bind_some] at h
    split at h
    · rename_i cs T f he
      cases h
      exact ⟨T, f, he⟩
    · cases h
end Go.Proofs.YtlcaefokcnohnaaDoor
end
section
namespace Go.Proofs.YtlcaefokcnohnaaDoor
open Go Go.V Go.RowKit
theorem ints_leaves {w : World} {k : IntKind} : ∀ {n : Nat} {vs : List Value}, leavesOk w (List.replicate n (Lf.int k)) vs → ∃ xs : List Int, xs.length = n ∧ vs = xs.map (Value.int k) ∧ ∀ x ∈ xs, InR k x
  | 0, vs, h => ⟨[], rfl, h, fun x hx => by cases hx⟩
  | n + 1, vs, h => by
    rw [List.replicate_succ] at h
    obtain ⟨v, r, rfl, ⟨x, rfl, hx⟩, h2⟩ := h
    obtain ⟨xs, h3, h4, h5⟩ := ints_leaves h2
    subst h4
    refine ⟨x :: xs, by simp [h3], rfl, fun y hy => ?_⟩
    rcases List.mem_cons.1 hy with e | e
    · rw [e]; exact hx
    · exact h5 y e
theorem iarr_den {w : World} {k : IntKind} {n : Nat} {cs : Array Value} (h : leavesOk w (List.replicate n (Lf.int k)) cs.toList) : ∃ xs : List Int, xs.length = n ∧ Den Env.dummy (pubOf w) (.iarr k xs) (.agg cs) ∧ ∀ x ∈ xs, InR k x := by
  obtain ⟨xs, h1, h2, h3⟩ := ints_leaves h
  refine ⟨xs, h1, ?_, h3⟩
  simp only [Den]
  refine ⟨?_, h3⟩
  congr 1
  apply Array.toList_inj.1
  simpa using h2
def u8x4L : List Lf := [.int .u8, .int .u8, .int .u8, .int .u8]
def i16x3L : List Lf := [.int .i16, .int .i16, .int .i16]
def u16x3L : List Lf := [.int .u16, .int .u16, .int .u16]
def u8x3L : List Lf := [.int .u8, .int .u8, .int .u8]
def listL : List Lf := [.ints .i64]
def cubeLf : List Lf := [.int .u8, .int .u8, .int .u8, .int .u16, .int .u16, .int .u16, .int .u16, .int .u16, .int .u16, .int .u16, .int .u16, .int .u16, .ints .i16]
def gdraftL : List Lf := [.ints .u8, .int .u8, .ints .u16, .bool]
theorem list_den {w : World} {v : Value} (h : leavesOk w listL [v]) : ∃ xs, Den Env.dummy (pubOf w) (.ints .i64 xs) v ∧ xs.length ≤ 281474976710656 := by
  obtain ⟨v0, r0, e0, ⟨xs, h0⟩, e1⟩ := h
  subst e1
  cases e0
  have g0 := h0
  obtain ⟨a0, c0, x0, _, y0, z0, _⟩ := g0
  exact ⟨xs, h0, y0⟩
theorem cube_den {w : World} {cs : Array Value} (h : leavesOk w cubeLf cs.toList) : ∃ (a b c : Int) (m off : List Int), m.length = 9 ∧ Den Env.dummy (pubOf w) (.agg (.int .u8 a :: .int .u8 b :: .int .u8 c :: (m.map (D.int .u16) ++ [.ints .i16 off]))) (.agg cs) ∧
    ((0 ≤ a ∧ a ≤ 255) ∧ (0 ≤ b ∧ b ≤ 255) ∧ (0 ≤ c ∧ c ≤ 255)) ∧ (∀ x ∈ m, 0 ≤ x ∧ x ≤ 65535) ∧ (∀ x ∈ off, -32768 ≤ x ∧ x ≤ 32767) ∧ off.length ≤ 281474976710656 := by
  obtain ⟨v0, r0, e0, ⟨a, h0, h0'⟩, v1, r1, e1, ⟨b, h1, h1'⟩, v2, r2, e2, ⟨c, h2, h2'⟩, v3, r3, e3, ⟨m0, k0, k0'⟩, v4, r4, e4, ⟨m1, k1, k1'⟩, v5, r5, e5, ⟨m2, k2, k2'⟩, v6, r6, e6, ⟨m3, k3, k3'⟩, v7, r7, e7, ⟨m4, k4, k4'⟩, v8, r8, e8, ⟨m5, k5, k5'⟩, v9, r9, e9, ⟨m6, k6, k6'⟩, v10, r10, e10, ⟨m7, k7, k7'⟩, v11, r11, e11, ⟨m8, k8, k8'⟩, v12, r12, e12, ⟨off, h12⟩, e13⟩ := h
  subst e13 e12 e11 e10 e9 e8 e7 e6 e5 e4 e3 e2 e1
  obtain rfl : cs = #[v0, v1, v2, v3, v4, v5, v6, v7, v8, v9, v10, v11, v12] := by cases cs; simp_all
  subst h0 h1 h2 k0 k1 k2 k3 k4 k5 k6 k7 k8
  have g := h12
  obtain ⟨a1, c1, x1, _, y1, z1, _⟩ := g
  have u16 : ∀ {x : Int}, InR .u16 x → 0 ≤ x ∧ x ≤ 65535 := fun h => by simpa [InR, V.lo, V.hi] using h
  refine ⟨a, b, c, [m0, m1, m2, m3, m4, m5, m6, m7, m8], off, rfl, ⟨_, rfl, ⟨_, _, rfl, ⟨rfl, h0'⟩, _, _, rfl, ⟨rfl, h1'⟩, _, _, rfl, ⟨rfl, h2'⟩, _, _, rfl, ⟨rfl, k0'⟩, _, _, rfl, ⟨rfl, k1'⟩, _, _, rfl, ⟨rfl, k2'⟩, _, _, rfl, ⟨rfl, k3'⟩, _, _, rfl, ⟨rfl, k4'⟩, _, _, rfl, ⟨rfl, k5'⟩, _, _, rfl, ⟨rfl, k6'⟩, _, _, rfl, ⟨rfl, k7'⟩, _, _, rfl, ⟨rfl, k8'⟩, _, _, rfl, h12, rfl⟩, ?_⟩,
    ⟨by simpa [InR, V.lo, V.hi] using h0', by simpa [InR, V.lo, V.hi] using h1', by simpa [InR, V.lo, V.hi] using h2'⟩, fun x hx => ?_, fun x hx => by simpa [InR, V.lo, V.hi] using z1 x hx, y1⟩
  · subst x1
    intro v hv
    simp only [List.mem_cons, List.not_mem_nil, or_false] at hv
    rcases hv with rfl | rfl | rfl | rfl | rfl | rfl | rfl | rfl | rfl | rfl | rfl | rfl | rfl <;> rfl
  · simp only [List.mem_cons, List.not_mem_nil, or_false] at hx
    rcases hx with rfl | rfl | rfl | rfl | rfl | rfl | rfl | rfl | rfl
    all_goals (apply u16; assumption)
theorem gdraft_den {w : World} {cs : Array Value} (h : leavesOk w gdraftL cs.toList) : ∃ ds o vals sm, Den Env.dummy (pubOf w) (.agg [.ints .u8 ds, .int .u8 o, .ints .u16 vals, .bool sm]) (.agg cs) ∧
    (∀ v ∈ ds, 0 ≤ v ∧ v ≤ 255) ∧ ds.length ≤ 281474976710656 ∧ (0 ≤ o ∧ o ≤ 255) ∧ (∀ v ∈ vals, 0 ≤ v ∧ v ≤ 65535) ∧ vals.length ≤ 281474976710656 := by
  obtain ⟨v0, r0, e0, ⟨ds, h0⟩, v1, r1, e1, ⟨o, h1, h1'⟩, v2, r2, e2, ⟨vals, h2⟩, v3, r3, e3, ⟨sm, h3⟩, e4⟩ := h
  subst e4 e3 e2 e1
  obtain rfl : cs = #[v0, v1, v2, v3] := by cases cs; simp_all
  subst h1 h3
  have g0 := h0
  have g2 := h2
  obtain ⟨a0, c0, x0, _, y0, z0, _⟩ := g0
  obtain ⟨a2, c2, x2, _, y2, z2, _⟩ := g2
  refine ⟨ds, o, vals, sm, ⟨[v0, .int .u8 o, v2, .bool sm], rfl, ⟨v0, _, rfl, h0, _, _, rfl, ⟨rfl, h1'⟩, _, _, rfl, h2, _, _, rfl, rfl, rfl⟩, ?_⟩, ?_, y0, ?_, ?_, y2⟩
  · subst x0 x2
    intro v hv
    simp only [List.mem_cons, List.not_mem_nil, or_false] at hv
    rcases hv with rfl | rfl | rfl | rfl <;> rfl
  · intro v hv
    simpa [InR, V.lo, V.hi] using z0 v hv
  · simpa [InR, V.lo, V.hi] using h1'
  · intro v hv
    simpa [InR, V.lo, V.hi] using z2 v hv
end Go.Proofs.YtlcaefokcnohnaaDoor
end
section
namespace Go.Proofs.YtlcaefokcnohnaaDoor
open Go Go.V Go.RowKit
theorem flat_of_rows {α : Type} (m : Nat) : ∀ (rows : List (List α)) (cs : List α), cs.length = rows.length * m → (∀ i r, rows[i]? = some r → (cs.drop (i * m)).take m = r) → cs = rows.flatten
  | [], cs, hl, _ => by
    simp only [List.length_nil, Nat.zero_mul] at hl
    rw [List.length_eq_zero_iff.1 hl]
    rfl
  | r :: rows, cs, hl, h => by
    have h0 := h 0 r rfl
    rw [Nat.zero_mul, List.drop_zero] at h0
    rw [List.length_cons, Nat.add_mul, Nat.one_mul] at hl
    have ih := flat_of_rows m rows (cs.drop m) (by rw [List.length_drop]; omega) fun i q hq => by
      have := h (i + 1) q hq
      rw [List.drop_drop]
      rw [Nat.add_mul, Nat.one_mul, Nat.add_comm] at this
      exact this
    rw [List.flatten_cons, ← ih, ← h0, List.take_append_drop]
theorem cells_of_rows {H : Type} {enc : TypeId × Value → H} {P : Go.Program} {w : World} {base : Nat} {sp : Nat → Bool} {held : Bool} {fuel : Nat} {t e u : TypeId} {n m : Nat} {k : IntKind} {cs : List Value} {rows : List (List Int)} {p : List MemPlace}
    (ht : P.underlying t = some (.array n e)) (he : P.underlying e = some (.array m u)) (hu : P.underlying u = some (.int k)) (hcu : P.cellsOf u = 1) (hce : P.cellsOf e = m) (hct : P.cellsOf t = n * m)
    (h : DataW.trod enc P w base sp held fuel t cs = some (.agg (rows.map (Lib.tabData k)), p)) : cs = rows.flatten.map fun z => Value.int k z := by
  cases fuel with
  | zero => simp [DataW.trod] at h
  | succ fuel =>
    simp only [DataW.trod, ht, hce, hct] at h
    split at h
    · rename_i hl
      obtain ⟨xs, hm, hx⟩ := Option.map_eq_some_iff.1 h
      have hxs : xs.map (·.1) = rows.map (Lib.tabData (H := H) k) := by
        have := congrArg Prod.fst hx
        simpa using this
      have hxl : xs.length = n := by simpa using Lib.mapM_length hm
      have hzl : rows.length = n := by
        have := congrArg List.length hxs
        simp at this
        omega
      have hl' : cs.length = n * m := by simpa using hl
      have key := flat_of_rows m (rows.map fun r => r.map fun z => Value.int k z) cs (by rw [List.length_map, hzl]; exact hl') fun i r hr => by
        rw [List.getElem?_map, Option.map_eq_some_iff] at hr
        obtain ⟨r', hr', rfl⟩ := hr
        have hi : i < n := by rw [← hzl]; exact (List.getElem?_eq_some_iff.1 hr').1
        obtain ⟨b, hb, hf⟩ := Lib.mapM_at hm i i (by simp [hi])
        have h2 : (xs.map (·.1))[i]? = some b.1 := by simp [hb]
        rw [hxs, List.getElem?_map, hr', Option.map_some, Option.some.injEq] at h2
        have hf' : DataW.trod enc P w base sp held fuel e ((cs.drop (i * m)).take m) = some (Lib.tabData k r', b.2) := by
          rw [hf, h2]
        exact Lib.cells_of_tab he hu hcu hce hf'
      rw [key, List.map_flatten]
    · cases h
theorem rows_of_head {P : Go.Program} {W : World} {name : String} {k : IntKind} {rows : List (List Int)} {rest : List (String × DataW Unit)} {g : Nat} {t e u : TypeId} {n m : Nat}
    (hg : P.globalNamed name = some g) (hty : (P.globals[g]?).map (·.type) = some t) (ht : P.underlying t = some (.array n e)) (he : P.underlying e = some (.array m u)) (hu : P.underlying u = some (.int k)) (hcu : P.cellsOf u = 1) (hce : P.cellsOf e = m) (hct : P.cellsOf t = n * m)
    (h : laidMet P ((name, .agg (rows.map (Lib.tabData k))) :: rest) W) : W.var? P name = some (rows.flatten.map fun z => Value.int k z).toArray := by
  obtain ⟨ps, ⟨g', t', cs, fuel, p, q, hg', ht', hvar, hd, _, _⟩, _⟩ := h
  obtain rfl := Option.some.inj (hg.symm.trans hg')
  obtain rfl := Option.some.inj (hty.symm.trans ht')
  rw [hvar, ← cells_of_rows ht he hu hcu hce hct hd]
end Go.Proofs.YtlcaefokcnohnaaDoor
end
section
namespace Go.Proofs.YtlcaefokcnohnaaDoor
open Go Go.V Go.RowKit
def u8L : List Lf := [.int .u8]
theorem u8_den {w : World} {v : Value} (h : leavesOk w u8L [v]) : ∃ n, Den Env.dummy (pubOf w) (.int .u8 n) v ∧ (0 ≤ n ∧ n ≤ 255) := by
  obtain ⟨v0, r0, e0, ⟨n, h0, h0'⟩, e1⟩ := h
  subst e1
  simp only [List.cons.injEq, and_true] at e0
  subst e0 h0
  exact ⟨n, ⟨rfl, h0'⟩, by simpa [InR, V.lo, V.hi] using h0'⟩
end Go.Proofs.YtlcaefokcnohnaaDoor
end
