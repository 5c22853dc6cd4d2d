/- What some functions of the program answer at values that mean given lists, texts and numbers, each proved of the program's own code: part 1. Conditions: those that each theorem names. -/
import Derived.Test.YtpcpgjcdkgcbpaaGreatDoorW9
import Derived.Test.YtpcpgjcdkgcbpaaGreatDoorProg
import Derived.Lib.ItoaNum
import Derived.Lib.LaidTab
import Derived.Stop.LaidErr
import Derived.LaidMore
import Derived.Test.YtpcpgjcdkgcbpaaGreatDoorSi
import Derived.Lib.AppendIntMem
import Derived.WalkKit
import Derived.BigCall
import Derived.Defers
import Derived.Recover
import Derived.Laws.Pointers
set_option linter.unusedSimpArgs false
set_option linter.unusedVariables false
set_option maxHeartbeats 8000000
set_option maxRecDepth 100000
section
namespace Go.Proofs.YtpcpgjcdkgcbpaaGreatDoor
open Go Go.V
def tb : V.Tb := [(2, ⟨1, 8, .int .i64, [.int .i64 0]⟩),
  (3, ⟨1, 8, .int .i64, [.int .i64 0]⟩),
  (4, ⟨1, 1, .bool, [.bool false]⟩),
  (5, ⟨1, 1, .int .u8, [.int .u8 0]⟩),
  (9, ⟨1, 16, .str, [.str []]⟩),
  (20, ⟨1, 16, .other, [.any]⟩),
  (23, ⟨16, 16, .arr 16 5, [.int .u8 0, .int .u8 0, .int .u8 0, .int .u8 0, .int .u8 0, .int .u8 0, .int .u8 0, .int .u8 0, .int .u8 0, .int .u8 0, .int .u8 0, .int .u8 0, .int .u8 0, .int .u8 0, .int .u8 0, .int .u8 0]⟩),
  (25, ⟨2, 32, .struct [(0, 9), (1, 9)], [.str [], .str []]⟩),
  (27, ⟨3, 40, .struct [(0, 5), (1, 25)], [.int .u8 0, .str [], .str []]⟩),
  (28, ⟨1, 2, .int .i16, [.int .i16 0]⟩),
  (30, ⟨2, 4, .struct [(0, 28), (1, 5)], [.int .i16 0, .int .u8 0]⟩),
  (32, ⟨1, 16, .str, [.str []]⟩),
  (34, ⟨2, 32, .struct [(0, 32), (1, 32)], [.str [], .str []]⟩),
  (36, ⟨32, 512, .arr 16 34, [.str [], .str [], .str [], .str [], .str [], .str [], .str [], .str [], .str [], .str [], .str [], .str [], .str [], .str [], .str [], .str [], .str [], .str [], .str [], .str [], .str [], .str [], .str [], .str [], .str [], .str [], .str [], .str [], .str [], .str [], .str [], .str []]⟩),
  (37, ⟨1, 8, .func, [.any]⟩),
  (39, ⟨128, 2048, .arr 4 36, [.str [], .str [], .str [], .str [], .str [], .str [], .str [], .str [], .str [], .str [], .str [], .str [], .str [], .str [], .str [], .str [], .str [], .str [], .str [], .str [], .str [], .str [], .str [], .str [], .str [], .str [], .str [], .str [], .str [], .str [], .str [], .str [], .str [], .str [], .str [], .str [], .str [], .str [], .str [], .str [], .str [], .str [], .str [], .str [], .str [], .str [], .str [], .str [], .str [], .str [], .str [], .str [], .str [], .str [], .str [], .str [], .str [], .str [], .str [], .str [], .str [], .str [], .str [], .str [], .str [], .str [], .str [], .str [], .str [], .str [], .str [], .str [], .str [], .str [], .str [], .str [], .str [], .str [], .str [], .str [], .str [], .str [], .str [], .str [], .str [], .str [], .str [], .str [], .str [], .str [], .str [], .str [], .str [], .str [], .str [], .str [], .str [], .str [], .str [], .str [], .str [], .str [], .str [], .str [], .str [], .str [], .str [], .str [], .str [], .str [], .str [], .str [], .str [], .str [], .str [], .str [], .str [], .str [], .str [], .str [], .str [], .str [], .str [], .str [], .str [], .str [], .str [], .str []]⟩),
  (40, ⟨1, 8, .int .i64, [.int .i64 0]⟩),
  (43, ⟨6, 96, .arr 3 34, [.str [], .str [], .str [], .str [], .str [], .str []]⟩),
  (46, ⟨2, 16, .arr 2 3, [.int .i64 0, .int .i64 0]⟩),
  (47, ⟨6, 96, .arr 3 34, [.str [], .str [], .str [], .str [], .str [], .str []]⟩),
  (63, ⟨1, 24, .slice 34, [.nil]⟩),
  (73, ⟨1, 8, .func, [.any]⟩),
  (76, ⟨16, 128, .arr 16 3, [.int .i64 0, .int .i64 0, .int .i64 0, .int .i64 0, .int .i64 0, .int .i64 0, .int .i64 0, .int .i64 0, .int .i64 0, .int .i64 0, .int .i64 0, .int .i64 0, .int .i64 0, .int .i64 0, .int .i64 0, .int .i64 0]⟩),
  (81, ⟨1, 8, .func, [.any]⟩),
  (84, ⟨1, 24, .slice 141, [.nil]⟩),
  (86, ⟨2, 32, .struct [(0, 84), (1, 4)], [.nil, .bool false]⟩),
  (88, ⟨3, 56, .struct [(0, 86), (2, 84)], [.nil, .bool false, .nil]⟩),
  (91, ⟨1, 8, .func, [.any]⟩),
  (93, ⟨3, 24, .arr 3 3, [.int .i64 0, .int .i64 0, .int .i64 0]⟩),
  (95, ⟨1, 8, .func, [.any]⟩),
  (99, ⟨1, 24, .slice 88, [.nil]⟩),
  (105, ⟨1, 8, .func, [.any]⟩),
  (112, ⟨1, 8, .func, [.any]⟩),
  (114, ⟨1, 8, .struct [(0, 40)], [.int .i64 0]⟩),
  (119, ⟨5, 40, .struct [(0, 3), (1, 3), (2, 3), (3, 3), (4, 3)], [.int .i64 0, .int .i64 0, .int .i64 0, .int .i64 0, .int .i64 0]⟩),
  (120, ⟨80, 640, .arr 16 119, [.int .i64 0, .int .i64 0, .int .i64 0, .int .i64 0, .int .i64 0, .int .i64 0, .int .i64 0, .int .i64 0, .int .i64 0, .int .i64 0, .int .i64 0, .int .i64 0, .int .i64 0, .int .i64 0, .int .i64 0, .int .i64 0, .int .i64 0, .int .i64 0, .int .i64 0, .int .i64 0, .int .i64 0, .int .i64 0, .int .i64 0, .int .i64 0, .int .i64 0, .int .i64 0, .int .i64 0, .int .i64 0, .int .i64 0, .int .i64 0, .int .i64 0, .int .i64 0, .int .i64 0, .int .i64 0, .int .i64 0, .int .i64 0, .int .i64 0, .int .i64 0, .int .i64 0, .int .i64 0, .int .i64 0, .int .i64 0, .int .i64 0, .int .i64 0, .int .i64 0, .int .i64 0, .int .i64 0, .int .i64 0, .int .i64 0, .int .i64 0, .int .i64 0, .int .i64 0, .int .i64 0, .int .i64 0, .int .i64 0, .int .i64 0, .int .i64 0, .int .i64 0, .int .i64 0, .int .i64 0, .int .i64 0, .int .i64 0, .int .i64 0, .int .i64 0, .int .i64 0, .int .i64 0, .int .i64 0, .int .i64 0, .int .i64 0, .int .i64 0, .int .i64 0, .int .i64 0, .int .i64 0, .int .i64 0, .int .i64 0, .int .i64 0, .int .i64 0, .int .i64 0, .int .i64 0, .int .i64 0]⟩),
  (121, ⟨1, 8, .func, [.any]⟩),
  (125, ⟨1, 24, .slice 3, [.nil]⟩),
  (130, ⟨1, 8, .struct [(0, 40)], [.int .i64 0]⟩),
  (141, ⟨1, 4, .int .u32, [.int .u32 0]⟩),
  (145, ⟨1, 8, .func, [.any]⟩),
  (149, ⟨2, 32, .struct [(0, 4), (1, 125)], [.bool false, .nil]⟩),
  (151, ⟨4, 64, .struct [(0, 149), (2, 149)], [.bool false, .nil, .bool false, .nil]⟩),
  (162, ⟨1, 8, .ptr 130, [.any]⟩),
  (163, ⟨1, 8, .int .u64, [.int .u64 0]⟩),
  (170, ⟨1, 24, .slice 141, [.nil]⟩),
  (172, ⟨2, 32, .struct [(0, 170), (1, 4)], [.nil, .bool false]⟩),
  (180, ⟨1, 8, .ptr 183, [.any]⟩),
  (181, ⟨1, 24, .slice 5, [.nil]⟩),
  (183, ⟨2, 32, .struct [(0, 180), (1, 181)], [.any, .nil]⟩),
  (185, ⟨1, 16, .other, [.any]⟩),
  (202, ⟨1, 8, .ptr 5, [.any]⟩),
  (214, ⟨1, 8, .other, [.any]⟩),
  (216, ⟨24, 24, .arr 24 5, [.int .u8 0, .int .u8 0, .int .u8 0, .int .u8 0, .int .u8 0, .int .u8 0, .int .u8 0, .int .u8 0, .int .u8 0, .int .u8 0, .int .u8 0, .int .u8 0, .int .u8 0, .int .u8 0, .int .u8 0, .int .u8 0, .int .u8 0, .int .u8 0, .int .u8 0, .int .u8 0, .int .u8 0, .int .u8 0, .int .u8 0, .int .u8 0]⟩),
  (223, ⟨20, 160, .arr 20 163, [.int .u64 0, .int .u64 0, .int .u64 0, .int .u64 0, .int .u64 0, .int .u64 0, .int .u64 0, .int .u64 0, .int .u64 0, .int .u64 0, .int .u64 0, .int .u64 0, .int .u64 0, .int .u64 0, .int .u64 0, .int .u64 0, .int .u64 0, .int .u64 0, .int .u64 0, .int .u64 0]⟩),
  (224, ⟨65, 65, .arr 65 5, [.int .u8 0, .int .u8 0, .int .u8 0, .int .u8 0, .int .u8 0, .int .u8 0, .int .u8 0, .int .u8 0, .int .u8 0, .int .u8 0, .int .u8 0, .int .u8 0, .int .u8 0, .int .u8 0, .int .u8 0, .int .u8 0, .int .u8 0, .int .u8 0, .int .u8 0, .int .u8 0, .int .u8 0, .int .u8 0, .int .u8 0, .int .u8 0, .int .u8 0, .int .u8 0, .int .u8 0, .int .u8 0, .int .u8 0, .int .u8 0, .int .u8 0, .int .u8 0, .int .u8 0, .int .u8 0, .int .u8 0, .int .u8 0, .int .u8 0, .int .u8 0, .int .u8 0, .int .u8 0, .int .u8 0, .int .u8 0, .int .u8 0, .int .u8 0, .int .u8 0, .int .u8 0, .int .u8 0, .int .u8 0, .int .u8 0, .int .u8 0, .int .u8 0, .int .u8 0, .int .u8 0, .int .u8 0, .int .u8 0, .int .u8 0, .int .u8 0, .int .u8 0, .int .u8 0, .int .u8 0, .int .u8 0, .int .u8 0, .int .u8 0, .int .u8 0, .int .u8 0]⟩),
  (225, ⟨1, 8, .int .u64, [.int .u64 0]⟩),
  (228, ⟨32, 32, .arr 32 5, [.int .u8 0, .int .u8 0, .int .u8 0, .int .u8 0, .int .u8 0, .int .u8 0, .int .u8 0, .int .u8 0, .int .u8 0, .int .u8 0, .int .u8 0, .int .u8 0, .int .u8 0, .int .u8 0, .int .u8 0, .int .u8 0, .int .u8 0, .int .u8 0, .int .u8 0, .int .u8 0, .int .u8 0, .int .u8 0, .int .u8 0, .int .u8 0, .int .u8 0, .int .u8 0, .int .u8 0, .int .u8 0, .int .u8 0, .int .u8 0, .int .u8 0, .int .u8 0]⟩),
  (229, ⟨64, 64, .arr 64 5, [.int .u8 0, .int .u8 0, .int .u8 0, .int .u8 0, .int .u8 0, .int .u8 0, .int .u8 0, .int .u8 0, .int .u8 0, .int .u8 0, .int .u8 0, .int .u8 0, .int .u8 0, .int .u8 0, .int .u8 0, .int .u8 0, .int .u8 0, .int .u8 0, .int .u8 0, .int .u8 0, .int .u8 0, .int .u8 0, .int .u8 0, .int .u8 0, .int .u8 0, .int .u8 0, .int .u8 0, .int .u8 0, .int .u8 0, .int .u8 0, .int .u8 0, .int .u8 0, .int .u8 0, .int .u8 0, .int .u8 0, .int .u8 0, .int .u8 0, .int .u8 0, .int .u8 0, .int .u8 0, .int .u8 0, .int .u8 0, .int .u8 0, .int .u8 0, .int .u8 0, .int .u8 0, .int .u8 0, .int .u8 0, .int .u8 0, .int .u8 0, .int .u8 0, .int .u8 0, .int .u8 0, .int .u8 0, .int .u8 0, .int .u8 0, .int .u8 0, .int .u8 0, .int .u8 0, .int .u8 0, .int .u8 0, .int .u8 0, .int .u8 0, .int .u8 0]⟩)]
theorem tbOk : V.TbOk Tryz.prog tb := V.tbB_ok (by kernel_rfl)
end Go.Proofs.YtpcpgjcdkgcbpaaGreatDoor
end
section
namespace Go.Proofs.YtpcpgjcdkgcbpaaGreatDoor
open Go Go.V Go.RowKit
def u16L : List Lf := [.int .u16]
def i64L : List Lf := [.int .i64]
theorem u16_den {w : World} {v : Value} (h : leavesOk w u16L [v]) : ∃ n, Den Env.dummy (pubOf w) (.int .u16 n) v ∧ (0 ≤ n ∧ n ≤ 65535) := by
  obtain ⟨v0, r0, e0, ⟨n, h0, h0'⟩, e1⟩ := h
  subst e1
  simp only [List.cons.injEq, and_true] at e0
  subst e0 h0
  exact ⟨n, ⟨rfl, h0'⟩, by simpa [InR, V.lo, V.hi] using h0'⟩
theorem i64_den {w : World} {v : Value} (h : leavesOk w i64L [v]) : ∃ n, Den Env.dummy (pubOf w) (.int .i64 n) v ∧ (-9223372036854775808 ≤ n ∧ n ≤ 9223372036854775807) := by
  obtain ⟨v0, r0, e0, ⟨n, h0, h0'⟩, e1⟩ := h
  subst e1
  simp only [List.cons.injEq, and_true] at e0
  subst e0 h0
  exact ⟨n, ⟨rfl, h0'⟩, by simpa [InR, V.lo, V.hi] using h0'⟩
theorem okWide_arr {P : Program} {w : World} {r : Reach} {base : Nat} {t n e : Nat} {v : Value} (ht : P.underlying t = some (.array n e)) (h : Value.okWide P w r base t v) : ∃ cs, v = .agg cs ∧ cs.size = P.cellsOf t := by
  simp only [Value.okWide, ht] at h
  obtain ⟨cs, h1, h2, _⟩ := h
  exact ⟨cs, h1, h2⟩
theorem okWide_one {P : Program} {w : World} {r : Reach} {base : Nat} {t : TypeId} {v : Value} (ht : (match P.underlying t with | some (.struct _) => false | some (.array _ _) => false | _ => true) = true) (h : Value.okWide P w r base t v) : v.cells.toList = [v] := by
  unfold Value.okWide at h
  split at h
  · rename_i e
    rw [e] at ht
    cases ht
  · rename_i e
    rw [e] at ht
    cases ht
  · cases v <;> first | rfl | skip
    exfalso
    unfold Cell.okWide at h
    split at h
    all_goals first
      | (rename_i h1; simp at h1; done)
      | skip
    unfold Cell.ok at h
    split at h <;> simp_all
theorem glW_of_tab {w : World} (h : Lib.TabIs Tryz.prog w "internal/strconv.uint64pow10" .u64 Lib.pow10Tab) (h2 : w.var? Tryz.prog "verdigris/spectrum.waves" = some #[.int .i64 14310, .int .i64 396, .int .i64 67850, .int .i64 147080, .int .i64 827549, .int .i64 134380, .int .i64 4000, .int .i64 645600, .int .i64 209950, .int .i64 934318, .int .i64 348280, .int .i64 23000, .int .i64 1747060, .int .i64 287027, .int .i64 1048650, .int .i64 290800, .int .i64 60000, .int .i64 1669200, .int .i64 378121, .int .i64 1178120, .int .i64 95640, .int .i64 139020, .int .i64 812950, .int .i64 482423, .int .i64 1159230, .int .i64 4900, .int .i64 323000, .int .i64 272000, .int .i64 598611, .int .i64 1093540, .int .i64 63270, .int .i64 710000, .int .i64 78250, .int .i64 724959, .int .i64 1047900, .int .i64 290400, .int .i64 954000, .int .i64 20300, .int .i64 859470, .int .i64 1044050, .int .i64 594500, .int .i64 995000, .int .i64 3900, .int .i64 1000000, .int .i64 1000000, .int .i64 916300, .int .i64 870000, .int .i64 1650, .int .i64 1144360, .int .i64 957880, .int .i64 1062200, .int .i64 631000, .int .i64 800, .int .i64 1290430, .int .i64 900062, .int .i64 854450, .int .i64 381000, .int .i64 190, .int .i64 1436180, .int .i64 876987, .int .i64 447900, .int .i64 175000, .int .i64 20, .int .i64 1579790, .int .i64 836992, .int .i64 164900, .int .i64 61000, .int .i64 0, .int .i64 1719630, .int .i64 802146, .int .i64 46770, .int .i64 17000, .int .i64 0, .int .i64 1854290, .int .i64 782842, .int .i64 11359, .int .i64 4102, .int .i64 0, .int .i64 1982610, .int .i64 716091]) : GlW w := by
  refine ⟨?_, ?_⟩
  rotate_left
  · intro g hg
    simp only [glbE, List.not_mem_nil] at hg
  intro g vs hg
  simp only [glb, List.mem_cons, List.not_mem_nil, or_false, Prod.mk.injEq] at hg
  rcases hg with ⟨rfl, rfl⟩ | ⟨rfl, rfl⟩
  · refine ⟨by simp, ?_⟩
    unfold World.var? at h2
    have hg : Tryz.prog.globalNamed "verdigris/spectrum.waves" = some 0 := by kernel_rfl
    rw [hg] at h2
    simp only [Option.bind_some] at h2
    split at h2
    · rename_i cs T f he
      cases h2
      exact ⟨T, f, he⟩
    · cases h2
  · refine ⟨by simp, ?_⟩
    unfold Lib.TabIs World.var? at h
    have hg : Tryz.prog.globalNamed "internal/strconv.uint64pow10" = some 1 := by kernel_rfl
    rw [hg] at h
    simp only [Option.bind_some] at h
    split at h
    · rename_i cs T f he
      cases h
      exact ⟨T, f, he⟩
    · cases h
theorem ints_leaves {w : World} {k : IntKind} : ∀ {n : Nat} {vs : List Value}, leavesOk w (List.replicate n (Lf.int k)) vs → ∃ xs : List Int, xs.length = n ∧ vs = xs.map (Value.int k) ∧ ∀ x ∈ xs, InR k x
  | 0, vs, h => ⟨[], rfl, h, fun x hx => by cases hx⟩
  | n + 1, vs, h => by
    rw [List.replicate_succ] at h
    obtain ⟨v, r, rfl, ⟨x, rfl, hx⟩, h2⟩ := h
    obtain ⟨xs, h3, h4, h5⟩ := ints_leaves h2
    subst h4
    refine ⟨x :: xs, by simp [h3], rfl, fun y hy => ?_⟩
    rcases List.mem_cons.1 hy with e | e
    · rw [e]; exact hx
    · exact h5 y e
theorem iarr_den {w : World} {k : IntKind} {n : Nat} {cs : Array Value} (h : leavesOk w (List.replicate n (Lf.int k)) cs.toList) : ∃ xs : List Int, xs.length = n ∧ Den Env.dummy (pubOf w) (.iarr k xs) (.agg cs) ∧ ∀ x ∈ xs, InR k x := by
  obtain ⟨xs, h1, h2, h3⟩ := ints_leaves h
  refine ⟨xs, h1, ?_, h3⟩
  simp only [Den]
  refine ⟨?_, h3⟩
  congr 1
  apply Array.toList_inj.1
  simpa using h2
theorem flat_of_rows {α : Type} (m : Nat) : ∀ (rows : List (List α)) (cs : List α), cs.length = rows.length * m → (∀ i r, rows[i]? = some r → (cs.drop (i * m)).take m = r) → cs = rows.flatten
  | [], cs, hl, _ => by
    simp only [List.length_nil, Nat.zero_mul] at hl
    rw [List.length_eq_zero_iff.1 hl]
    rfl
  | r :: rows, cs, hl, h => by
    have h0 := h 0 r rfl
    rw [Nat.zero_mul, List.drop_zero] at h0
    rw [List.length_cons, Nat.add_mul, Nat.one_mul] at hl
    have ih := flat_of_rows m rows (cs.drop m) (by rw [List.length_drop]; omega) fun i q hq => by
      have := h (i + 1) q hq
      rw [List.drop_drop]
      rw [Nat.add_mul, Nat.one_mul, Nat.add_comm] at this
      exact this
    rw [List.flatten_cons, ← ih, ← h0, List.take_append_drop]
theorem cells_of_str {H : Type} {enc : TypeId × Value → H} {P : Go.Program} {w : World} {base : Nat} {sp : Nat → Bool} {held : Bool} {fuel : Nat} {e : TypeId} {fs : Array Field} {k : IntKind} {cs : List Value} {zs : List Int} {p : List MemPlace}
    (he : P.underlying e = some (.struct fs)) (hf : ∀ (i : Nat) (f : Field), fs.toList[i]? = some f → P.underlying f.type = some (.int k) ∧ P.cellsOf f.type = 1 ∧ f.offset = i) (hce : P.cellsOf e = fs.toList.length)
    (h : DataW.trod enc P w base sp held fuel e cs = some (Lib.tabData k zs, p)) : cs = zs.map fun z => Value.int k z := by
  cases fuel with
  | zero => simp [DataW.trod] at h
  | succ fuel =>
    simp only [DataW.trod, he, hce] at h
    split at h
    · rename_i hl
      obtain ⟨xs, hm, hx⟩ := Option.map_eq_some_iff.1 h
      have hxs : xs.map (·.1) = zs.map fun z => (DataW.lit (.int k z) : DataW H) := by
        have := congrArg Prod.fst hx
        simpa [Lib.tabData] using this
      have hxl : xs.length = fs.toList.length := Lib.mapM_length hm
      have hzl : zs.length = fs.toList.length := by
        have := congrArg List.length hxs
        simp only [List.length_map] at this
        omega
      apply List.ext_getElem?
      intro i
      by_cases hi : i < fs.toList.length
      · obtain ⟨f, hfi⟩ : ∃ f, fs.toList[i]? = some f := ⟨_, List.getElem?_eq_getElem hi⟩
        obtain ⟨h1, h2, h3⟩ := hf i f hfi
        obtain ⟨b, hb, hq⟩ := Lib.mapM_at hm i f hfi
        obtain ⟨z, hc, rfl, _⟩ := DataW.trod_int h1 hq
        have h4 : cs[i]? = some (.int k z) := by
          have := congrArg (·[0]?) hc
          rw [h2, h3] at this
          simpa [List.getElem?_take, List.getElem?_drop] using this
        have h5 : (xs.map (·.1))[i]? = some (DataW.lit (.int k z) : DataW H) := by simp [hb]
        rw [hxs] at h5
        simp only [List.getElem?_map, Option.map_eq_some_iff, DataW.lit.injEq, Lit.int.injEq, true_and] at h5
        obtain ⟨z', hz', rfl⟩ := h5
        simp [h4, hz']
      · rw [List.getElem?_eq_none (by omega), List.getElem?_eq_none (by rw [List.length_map]; omega)]
    · cases h
theorem cells_of_srows {H : Type} {enc : TypeId × Value → H} {P : Go.Program} {w : World} {base : Nat} {sp : Nat → Bool} {held : Bool} {fuel : Nat} {t e : TypeId} {fs : Array Field} {n m : Nat} {k : IntKind} {cs : List Value} {rows : List (List Int)} {p : List MemPlace}
    (ht : P.underlying t = some (.array n e)) (he : P.underlying e = some (.struct fs)) (hf : ∀ (i : Nat) (f : Field), fs.toList[i]? = some f → P.underlying f.type = some (.int k) ∧ P.cellsOf f.type = 1 ∧ f.offset = i) (hce : P.cellsOf e = m) (hm0 : fs.toList.length = m) (hct : P.cellsOf t = n * m)
    (h : DataW.trod enc P w base sp held fuel t cs = some (.agg (rows.map (Lib.tabData k)), p)) : cs = rows.flatten.map fun z => Value.int k z := by
  cases fuel with
  | zero => simp [DataW.trod] at h
  | succ fuel =>
    simp only [DataW.trod, ht, hce, hct] at h
    split at h
    · rename_i hl
      obtain ⟨xs, hm, hx⟩ := Option.map_eq_some_iff.1 h
      have hxs : xs.map (·.1) = rows.map (Lib.tabData (H := H) k) := by
        have := congrArg Prod.fst hx
        simpa using this
      have hxl : xs.length = n := by simpa using Lib.mapM_length hm
      have hzl : rows.length = n := by
        have := congrArg List.length hxs
        simp at this
        omega
      have hl' : cs.length = n * m := by simpa using hl
      have key := flat_of_rows m (rows.map fun r => r.map fun z => Value.int k z) cs (by rw [List.length_map, hzl]; exact hl') fun i r hr => by
        rw [List.getElem?_map, Option.map_eq_some_iff] at hr
        obtain ⟨r', hr', rfl⟩ := hr
        have hi : i < n := by rw [← hzl]; exact (List.getElem?_eq_some_iff.1 hr').1
        obtain ⟨b, hb, hq⟩ := Lib.mapM_at hm i i (by simp [hi])
        have h2 : (xs.map (·.1))[i]? = some b.1 := by simp [hb]
        rw [hxs, List.getElem?_map, hr', Option.map_some, Option.some.injEq] at h2
        have hf' : DataW.trod enc P w base sp held fuel e ((cs.drop (i * m)).take m) = some (Lib.tabData k r', b.2) := by
          rw [hq, h2]
        exact cells_of_str he hf (hce.trans hm0.symm) hf'
      rw [key, List.map_flatten]
    · cases h
theorem srows_of_head {P : Go.Program} {W : World} {name : String} {k : IntKind} {rows : List (List Int)} {rest : List (String × DataW Unit)} {g : Nat} {t e : TypeId} {fs : Array Field} {n m : Nat}
    (hg : P.globalNamed name = some g) (hty : (P.globals[g]?).map (·.type) = some t) (ht : P.underlying t = some (.array n e)) (he : P.underlying e = some (.struct fs)) (hf : ∀ (i : Nat) (f : Field), fs.toList[i]? = some f → P.underlying f.type = some (.int k) ∧ P.cellsOf f.type = 1 ∧ f.offset = i) (hce : P.cellsOf e = m) (hm0 : fs.toList.length = m) (hct : P.cellsOf t = n * m)
    (h : laidMet P ((name, .agg (rows.map (Lib.tabData k))) :: rest) W) : W.var? P name = some (rows.flatten.map fun z => Value.int k z).toArray := by
  obtain ⟨ps, ⟨g', t', cs, fuel, p, q, hg', ht', hvar, hd, _, _⟩, _⟩ := h
  obtain rfl := Option.some.inj (hg.symm.trans hg')
  obtain rfl := Option.some.inj (hty.symm.trans ht')
  rw [hvar, ← cells_of_srows ht he hf hce hm0 hct hd]
def u8L : List Lf := [.int .u8]
theorem u8_den {w : World} {v : Value} (h : leavesOk w u8L [v]) : ∃ n, Den Env.dummy (pubOf w) (.int .u8 n) v ∧ (0 ≤ n ∧ n ≤ 255) := by
  obtain ⟨v0, r0, e0, ⟨n, h0, h0'⟩, e1⟩ := h
  subst e1
  simp only [List.cons.injEq, and_true] at e0
  subst e0 h0
  exact ⟨n, ⟨rfl, h0'⟩, by simpa [InR, V.lo, V.hi] using h0'⟩
def fracL : List Lf := [.str, .str]
def numL : List Lf := [.int .i16, .int .u8]
def bendL : List Lf := [.int .u8, .str, .str]
def draftL : List Lf := List.replicate 16 (.int .u8)
theorem frac_den {w : World} {cs : Array Value} (h : leavesOk w fracL cs.toList) : ∃ s t : List UInt8, Den Env.dummy (pubOf w) (.agg [.str s, .str t]) (.agg cs) ∧ s.length ≤ 281474976710656 ∧ t.length ≤ 281474976710656 := by
  obtain ⟨v0, r0, e0, ⟨s, h0, h0'⟩, v1, r1, e1, ⟨t, h1, h1'⟩, e2⟩ := h
  subst e2 e1
  obtain rfl : cs = #[v0, v1] := by cases cs; simp_all
  subst h0 h1
  refine ⟨s, t, ⟨_, rfl, ⟨_, _, rfl, ⟨rfl, h0'⟩, _, _, rfl, ⟨rfl, h1'⟩, rfl⟩, ?_⟩, h0', h1'⟩
  intro v hv
  simp only [List.mem_cons, List.not_mem_nil, or_false] at hv
  rcases hv with rfl | rfl <;> rfl
theorem num_den {w : World} {cs : Array Value} (h : leavesOk w numL cs.toList) : ∃ n d : Int, Den Env.dummy (pubOf w) (.agg [.int .i16 n, .int .u8 d]) (.agg cs) ∧ (-32768 ≤ n ∧ n ≤ 32767) ∧ (0 ≤ d ∧ d ≤ 255) := by
  obtain ⟨v0, r0, e0, ⟨n, h0, h0'⟩, v1, r1, e1, ⟨d, h1, h1'⟩, e2⟩ := h
  subst e2 e1
  obtain rfl : cs = #[v0, v1] := by cases cs; simp_all
  subst h0 h1
  refine ⟨n, d, ⟨_, rfl, ⟨_, _, rfl, ⟨rfl, h0'⟩, _, _, rfl, ⟨rfl, h1'⟩, rfl⟩, ?_⟩, by simpa [InR, V.lo, V.hi] using h0', by simpa [InR, V.lo, V.hi] using h1'⟩
  intro v hv
  simp only [List.mem_cons, List.not_mem_nil, or_false] at hv
  rcases hv with rfl | rfl <;> rfl
theorem bend_den {w : World} {cs : Array Value} (h : leavesOk w bendL cs.toList) : ∃ (a : Int) (s t : List UInt8), Den Env.dummy (pubOf w) (.agg [.int .u8 a, .str s, .str t]) (.agg cs) ∧ (0 ≤ a ∧ a ≤ 255) := by
  obtain ⟨v0, r0, e0, ⟨a, h0, h0'⟩, v1, r1, e1, ⟨s, h1, h1'⟩, v2, r2, e2, ⟨t, h2, h2'⟩, e3⟩ := h
  subst e3 e2 e1
  obtain rfl : cs = #[v0, v1, v2] := by cases cs; simp_all
  subst h0 h1 h2
  refine ⟨a, s, t, ⟨_, rfl, ⟨_, _, rfl, ⟨rfl, h0'⟩, _, _, rfl, ⟨rfl, h1'⟩, _, _, rfl, ⟨rfl, h2'⟩, rfl⟩, ?_⟩, by simpa [InR, V.lo, V.hi] using h0'⟩
  intro v hv
  simp only [List.mem_cons, List.not_mem_nil, or_false] at hv
  rcases hv with rfl | rfl | rfl <;> rfl
end Go.Proofs.YtpcpgjcdkgcbpaaGreatDoor
end
section
namespace Go.Nb
open Go
def val (B : Nat) : List Int → Int
  | [] => 0
  | x :: r => x + B * val B r
def Dg (B : Nat) (l : List Int) : Prop := ∀ x ∈ l, 0 ≤ x ∧ x < B
def mgF (B : Nat) : Nat → Nat → List Int
  | 0, _ => []
  | f + 1, n => if n = 0 then [] else ((n % B : Nat) : Int) :: mgF B f (n / B)
def mg (B n : Nat) : List Int := mgF B n n
theorem mgF_le {B : Nat} (hB : 2 ≤ B) : ∀ (f n : Nat), n ≤ f → mgF B f n = mgF B n n := by
  have key : ∀ (f g n : Nat), n ≤ f → n ≤ g → mgF B f n = mgF B g n := by
    intro f
    induction f with
    | zero => intro g n h1 h2; obtain rfl : n = 0 := by omega
              cases g <;> simp [mgF]
    | succ f ih =>
      intro g n h1 h2
      cases g with
      | zero => obtain rfl : n = 0 := by omega
                simp [mgF]
      | succ g =>
        simp only [mgF]
        by_cases h0 : n = 0
        · simp [h0]
        · rw [if_neg h0, if_neg h0]
          have : n / B < n := Nat.div_lt_self (by omega) (by omega)
          rw [ih g (n / B) (by omega) (by omega)]
  exact fun f n h => key f n n h (Nat.le_refl _)
theorem mg_zero (B : Nat) : mg B 0 = [] := rfl
theorem mg_pos {B n : Nat} (hB : 2 ≤ B) (hn : 0 < n) : mg B n = ((n % B : Nat) : Int) :: mg B (n / B) := by
  obtain ⟨m, rfl⟩ : ∃ m, n = m + 1 := ⟨n - 1, by omega⟩
  have : (m + 1) / B < m + 1 := Nat.div_lt_self (by omega) (by omega)
  conv => lhs; unfold mg mgF
  rw [if_neg (by omega), mgF_le hB m _ (by omega)]
  rfl
theorem mg_ind {B : Nat} (hB : 2 ≤ B) {p : Nat → Prop} (h0 : p 0) (h1 : ∀ n, 0 < n → p (n / B) → p n) (n : Nat) : p n := by
  induction n using Nat.strongRecOn with
  | _ n ih =>
    by_cases hn : n = 0
    · rw [hn]; exact h0
    · exact h1 n (by omega) (ih _ (Nat.div_lt_self (by omega) (by omega)))
theorem mg_dg {B : Nat} (hB : 2 ≤ B) (n : Nat) : Dg B (mg B n) := by
  refine mg_ind hB (p := fun n => Dg B (mg B n)) (by intro x hx; simp [mg_zero] at hx) (fun n hn ih x hx => ?_) n
  rw [mg_pos hB hn] at hx
  rcases List.mem_cons.1 hx with rfl | hx
  · have := Nat.mod_lt n (by omega : B > 0)
    omega
  · exact ih x hx
theorem mg_val {B : Nat} (hB : 2 ≤ B) (n : Nat) : val B (mg B n) = n := by
  refine mg_ind hB (p := fun n => val B (mg B n) = n) rfl (fun n hn ih => ?_) n
  rw [mg_pos hB hn]
  simp only [val, ih]
  have := Nat.mod_add_div n B
  rw [← Int.natCast_mul]
  omega
theorem mg_nil {B n : Nat} (hB : 2 ≤ B) : mg B n = [] ↔ n = 0 := by
  constructor
  · intro h
    have := mg_val hB n
    rw [h] at this
    simp [val] at this
    omega
  · intro h; rw [h]; rfl
theorem val_nonneg {B : Nat} {l : List Int} (h : Dg B l) : 0 ≤ val B l := by
  induction l with
  | nil => simp [val]
  | cons x r ih =>
    have h1 := h x (by simp)
    have h2 := ih fun y hy => h y (by simp [hy])
    have h3 : 0 ≤ (B : Int) * val B r := Int.mul_nonneg (by omega) h2
    simp only [val]
    omega
theorem val_append (B : Nat) (l r : List Int) : val B (l ++ r) = val B l + (B : Int) ^ l.length * val B r := by
  induction l with
  | nil => simp [val]
  | cons x l ih =>
    simp only [List.cons_append, val, List.length_cons, ih, Int.pow_succ]
    rw [Int.mul_add, ← Int.add_assoc, Int.mul_comm ((B : Int) ^ l.length) (B : Int), Int.mul_assoc]
theorem val_lt {B : Nat} {l : List Int} (h : Dg B l) : val B l < (B : Int) ^ l.length := by
  induction l with
  | nil => simp [val]
  | cons x r ih =>
    have h1 := h x (by simp)
    have h2 := ih fun y hy => h y (by simp [hy])
    simp only [val, List.length_cons, Int.pow_succ]
    have h3 : (B : Int) * (val B r + 1) ≤ (B : Int) * (B : Int) ^ r.length := Int.mul_le_mul_of_nonneg_left h2 (by omega)
    rw [Int.mul_add, Int.mul_one] at h3
    rw [Int.mul_comm ((B : Int) ^ r.length)]
    omega
theorem dg_append {B : Nat} {l r : List Int} (h1 : Dg B l) (h2 : Dg B r) : Dg B (l ++ r) := fun x hx => by
  rcases List.mem_append.1 hx with h | h
  · exact h1 x h
  · exact h2 x h
theorem dg_take {B : Nat} {l : List Int} (h : Dg B l) (k : Nat) : Dg B (l.take k) := fun x hx => h x (List.mem_of_mem_take hx)
theorem dg_drop {B : Nat} {l : List Int} (h : Dg B l) (k : Nat) : Dg B (l.drop k) := fun x hx => h x (List.mem_of_mem_drop hx)
theorem dg_one {B : Nat} {x : Int} (h : 0 ≤ x ∧ x < B) : Dg B [x] := fun y hy => by simp at hy; subst hy; exact h
theorem dg_zeros {B : Nat} (hB : 1 ≤ B) (k : Nat) : Dg B (List.replicate k 0) := fun y hy => by
  rw [List.eq_of_mem_replicate hy]; omega
theorem val_zeros (B k : Nat) : val B (List.replicate k 0) = 0 := by
  induction k with
  | zero => rfl
  | succ k ih => simp [List.replicate_succ, val, ih]
theorem val_snoc (B : Nat) (l : List Int) (x : Int) : val B (l ++ [x]) = val B l + (B : Int) ^ l.length * x := by
  rw [val_append]; simp [val]
theorem val_take_succ {B : Nat} {l : List Int} {k : Nat} {x : Int} (h : l[k]? = some x) : val B (l.take (k + 1)) = val B (l.take k) + (B : Int) ^ k * x := by
  have hk := (List.getElem?_eq_some_iff.1 h).1
  rw [List.take_add_one, h]
  have : (l.take k).length = k := by rw [List.length_take]; omega
  rw [show (some x).toList = [x] from rfl, val_snoc, this]
theorem val_split (B : Nat) (l : List Int) (k : Nat) (hk : k ≤ l.length) : val B l = val B (l.take k) + (B : Int) ^ k * val B (l.drop k) := by
  conv => lhs; rw [← List.take_append_drop k l]
  rw [val_append, List.length_take, Nat.min_eq_left hk]
theorem mg_of {B : Nat} (hB : 2 ≤ B) : ∀ {l : List Int}, Dg B l → (∀ x, l.getLast? = some x → x ≠ 0) → l = mg B (val B l).toNat
  | [], _, _ => rfl
  | x :: r, hd, hl => by
    have hx := hd x (by simp)
    have hr : Dg B r := fun y hy => hd y (by simp [hy])
    have h0 := val_nonneg hr
    have hlr : ∀ y, r.getLast? = some y → y ≠ 0 := fun y hy => hl y (by
      cases r with
      | nil => simp at hy
      | cons a s => rw [List.getLast?_cons_cons]; exact hy)
    have ih := mg_of hB hr hlr
    have hpos : 0 < val B (x :: r) := by
      simp only [val]
      cases r with
      | nil =>
        have := hl x (by simp)
        simp [val]
        omega
      | cons a s =>
        have hne : (val B (a :: s)).toNat ≠ 0 := fun e => by
          rw [e, mg_zero] at ih
          cases ih
        have h1 : 1 ≤ val B (a :: s) := by omega
        have h2 : (B : Int) * 1 ≤ (B : Int) * val B (a :: s) := Int.mul_le_mul_of_nonneg_left h1 (by omega)
        omega
    rw [mg_pos hB (by omega)]
    obtain ⟨v, hv⟩ : ∃ v : Nat, val B r = v := ⟨(val B r).toNat, by omega⟩
    obtain ⟨y, rfl⟩ : ∃ y : Nat, x = y := ⟨x.toNat, by omega⟩
    have e : (val B ((y : Int) :: r)).toNat = y + B * v := by
      simp only [val, hv]
      rw [← Int.natCast_mul, ← Int.natCast_add, Int.toNat_natCast]
    have hy : y < B := by omega
    rw [e, Nat.add_mul_mod_self_left, Nat.mod_eq_of_lt hy, Nat.add_mul_div_left _ _ (by omega : 0 < B), Nat.div_eq_of_lt hy, Nat.zero_add]
    rw [hv, Int.toNat_natCast] at ih
    rw [← ih]
theorem mg_last {B n : Nat} (hB : 2 ≤ B) : ∀ x, (mg B n).getLast? = some x → x ≠ 0 := by
  refine mg_ind hB (p := fun n => ∀ x, (mg B n).getLast? = some x → x ≠ 0) (fun x h => by simp [mg_zero] at h) (fun n hn ih x h => ?_) n
  rw [mg_pos hB hn] at h
  by_cases hd : n / B = 0
  · rw [hd, mg_zero] at h
    simp at h
    have := Nat.mod_add_div n B
    rw [hd] at this
    omega
  · rw [mg_pos hB (Nat.pos_of_ne_zero hd), List.getLast?_cons_cons] at h
    rw [mg_pos hB (Nat.pos_of_ne_zero hd)] at ih
    exact ih x h
theorem mg_len_le {B n k : Nat} (hB : 2 ≤ B) (h : n < B ^ k) : (mg B n).length ≤ k := by
  induction k generalizing n with
  | zero => obtain rfl : n = 0 := by simp at h; omega
            simp [mg_zero]
  | succ k ih =>
    by_cases hn : n = 0
    · rw [hn, mg_zero]; simp
    · rw [mg_pos hB (by omega), List.length_cons]
      have : n / B < B ^ k := Nat.div_lt_of_lt_mul (by rw [Nat.pow_succ, Nat.mul_comm] at h; exact h)
      have := ih this
      omega
theorem mg_lt_pow {B n : Nat} (hB : 2 ≤ B) : n < B ^ (mg B n).length := by
  have h1 := val_lt (mg_dg hB n)
  rw [mg_val hB] at h1
  have e : ((B : Int) ^ (mg B n).length) = ((B ^ (mg B n).length : Nat) : Int) := by simp
  rw [e] at h1
  omega
theorem mg_len_mono {B m n : Nat} (hB : 2 ≤ B) (h : m ≤ n) : (mg B m).length ≤ (mg B n).length :=
  mg_len_le hB (Nat.lt_of_le_of_lt h (mg_lt_pow hB))
theorem pow_le_mg {B n : Nat} (hB : 2 ≤ B) (hn : 0 < n) : B ^ ((mg B n).length - 1) ≤ n := by
  rcases Nat.lt_or_ge n (B ^ ((mg B n).length - 1)) with h | h
  · have h1 := mg_len_le hB h
    have h2 : (mg B n) ≠ [] := fun e => by rw [mg_nil hB] at e; omega
    have := List.length_pos_iff.2 h2
    omega
  · exact h
def decF : Nat → Nat → List UInt8
  | 0, _ => []
  | f + 1, n => if n < 10 then [UInt8.ofNat (48 + n)] else decF f (n / 10) ++ [UInt8.ofNat (48 + n % 10)]
def dec (n : Nat) : List UInt8 := decF (n + 1) n
theorem decF_le : ∀ (f g n : Nat), n < f → n < g → decF f n = decF g n := by
  intro f
  induction f with
  | zero => intro g n h1; omega
  | succ f ih =>
    intro g n h1 h2
    cases g with
    | zero => omega
    | succ g =>
      simp only [decF]
      by_cases h0 : n < 10
      · simp [h0]
      · rw [if_neg h0, if_neg h0, ih g (n / 10) (by omega) (by omega)]
theorem dec_small {n : Nat} (h : n < 10) : dec n = [UInt8.ofNat (48 + n)] := by simp [dec, decF, h]
theorem dec_big {n : Nat} (h : 10 ≤ n) : dec n = dec (n / 10) ++ [UInt8.ofNat (48 + n % 10)] := by
  conv => lhs; unfold dec decF
  rw [if_neg (by omega), decF_le n (n / 10 + 1) (n / 10) (by omega) (by omega)]
  rfl
def decZ (z : Int) : List UInt8 := if z < 0 then 45 :: dec z.natAbs else dec z.natAbs
def pad : Nat → Nat → List UInt8
  | 0, _ => []
  | k + 1, n => pad k (n / 10) ++ [UInt8.ofNat (48 + n % 10)]
theorem pad_length (k n : Nat) : (pad k n).length = k := by
  induction k generalizing n with
  | zero => rfl
  | succ k ih => simp [pad, ih]
theorem dec_pad {a : Nat} (ha : 0 < a) : ∀ (k b : Nat), b < 10 ^ k → dec (a * 10 ^ k + b) = dec a ++ pad k b
  | 0, b, h => by
    obtain rfl : b = 0 := by simp at h; omega
    simp [pad]
  | k + 1, b, h => by
    have hb : b / 10 < 10 ^ k := Nat.div_lt_of_lt_mul (by rw [Nat.pow_succ, Nat.mul_comm] at h; exact h)
    have e : a * 10 ^ (k + 1) + b = (a * 10 ^ k) * 10 + b := by rw [Nat.pow_succ, Nat.mul_assoc]
    have hp : 1 ≤ a * 10 ^ k := Nat.mul_pos ha (Nat.pow_pos (by omega))
    have e1 : (a * 10 ^ (k + 1) + b) / 10 = a * 10 ^ k + b / 10 := by omega
    have e2 : (a * 10 ^ (k + 1) + b) % 10 = b % 10 := by omega
    rw [dec_big (by omega), e1, e2, dec_pad ha k _ hb, List.append_assoc]
    rfl
theorem pad_dec : ∀ (k b : Nat), 0 < k → b < 10 ^ k → (dec b).length ≤ k ∧ pad k b = List.replicate (k - (dec b).length) 48 ++ dec b
  | 0, b, h, _ => by omega
  | k + 1, b, _, h => by
    by_cases hb : b < 10
    · rw [dec_small hb]
      simp only [List.length_singleton, pad]
      refine ⟨by omega, ?_⟩
      have e0 : b / 10 = 0 := by omega
      have e1 : b % 10 = b := by omega
      have hz : ∀ j, pad j 0 = List.replicate j 48 := by
        intro j
        induction j with
        | zero => rfl
        | succ j ih => rw [pad, Nat.zero_div, ih, List.replicate_succ']; rfl
      rw [e0, e1, hz]
      rfl
    · have h10 : b / 10 < 10 ^ k := Nat.div_lt_of_lt_mul (by rw [Nat.pow_succ, Nat.mul_comm] at h; exact h)
      have hk : 0 < k := by
        rcases Nat.eq_zero_or_pos k with e | e
        · subst e; simp at h10; omega
        · exact e
      obtain ⟨h1, h2⟩ := pad_dec k (b / 10) hk h10
      rw [dec_big (by omega), List.length_append, List.length_singleton]
      refine ⟨by omega, ?_⟩
      rw [pad, h2, List.append_assoc]
      congr 2
      omega
def rdv (s : List UInt8) : Nat := s.foldl (fun v c => v * 10 + (c.toNat - 48)) 0
def isDig (c : UInt8) : Bool := decide (48 ≤ c.toNat ∧ c.toNat ≤ 57)
theorem rdv_foldl (s : List UInt8) (v : Nat) : s.foldl (fun v c => v * 10 + (c.toNat - 48)) v = v * 10 ^ s.length + rdv s := by
  induction s generalizing v with
  | nil => simp [rdv]
  | cons c s ih =>
    simp only [List.foldl_cons, rdv, List.length_cons]
    rw [ih, ih (0 * 10 + (c.toNat - 48)), Nat.pow_succ, Nat.add_mul, Nat.zero_mul, Nat.zero_add, Nat.mul_assoc, Nat.mul_comm 10]
    omega
theorem rdv_append (s t : List UInt8) : rdv (s ++ t) = rdv s * 10 ^ t.length + rdv t := by
  conv => lhs; unfold rdv
  rw [List.foldl_append, rdv_foldl]
  rfl
theorem rdv_one (c : UInt8) : rdv [c] = c.toNat - 48 := by simp [rdv]
theorem dig_toNat {n : Nat} (h : n < 10) : (UInt8.ofNat (48 + n)).toNat = 48 + n := by
  rw [UInt8.toNat_ofNat']
  omega
theorem rdv_dec (n : Nat) : rdv (dec n) = n := by
  induction n using Nat.strongRecOn with
  | _ n ih =>
    by_cases h : n < 10
    · rw [dec_small h, rdv_one, dig_toNat h]; omega
    · rw [dec_big (by omega), rdv_append, rdv_one, dig_toNat (by omega), ih _ (by omega)]
      simp
      omega
theorem dec_dig (n : Nat) : ∀ c ∈ dec n, isDig c = true := by
  induction n using Nat.strongRecOn with
  | _ n ih =>
    intro c hc
    by_cases h : n < 10
    · rw [dec_small h] at hc
      simp at hc
      subst hc
      simp [isDig, dig_toNat h]
      omega
    · rw [dec_big (by omega)] at hc
      rcases List.mem_append.1 hc with hc | hc
      · exact ih _ (by omega) c hc
      · simp at hc
        subst hc
        have := dig_toNat (n := n % 10) (by omega)
        simp [isDig, this]
        omega
theorem dec_length_pos (n : Nat) : 0 < (dec n).length := by
  by_cases h : n < 10
  · rw [dec_small h]; simp
  · rw [dec_big (by omega)]; simp
theorem rdv_lt {s : List UInt8} (h : ∀ c ∈ s, isDig c = true) : rdv s < 10 ^ s.length := by
  induction s with
  | nil => simp [rdv]
  | cons c s ih =>
    have h1 := h c (by simp)
    have h2 := ih fun x hx => h x (by simp [hx])
    simp [isDig] at h1
    have e : rdv (c :: s) = (c.toNat - 48) * 10 ^ s.length + rdv s := by
      have := rdv_append [c] s
      rw [rdv_one] at this
      exact this
    rw [e, List.length_cons, Nat.pow_succ]
    have h3 : (c.toNat - 48) * 10 ^ s.length ≤ 9 * 10 ^ s.length := Nat.mul_le_mul_right _ (by omega)
    omega
end Go.Nb
end
section
namespace Go.Proofs.YtpcpgjcdkgcbpaaGreatDoor
open Go Go.V Go.Nb
theorem called_of_grown {P : Program} {f : Nat} {fn : Func} {c : Code} {ds : List D} {r : D} (hf : P.funcs[f]? = some fn) (hn : (fn.name == "runtime.NumGoroutine") = false) (hb : fn.body = some c) (hr : r.pure = true)
    (h : ∀ (w : World) (hp : Pub) (vs : List Value), Agree hp w → DenL Env.dummy hp ds vs → Calls P f vs.toArray w fun e w' => (∃ v, e = .returned v ∧ ∀ hp, Den Env.dummy hp r v) ∧ RowKit.Below w.heap.size w w') : Called P f ds r :=
  ⟨enters_of hf hn hb, fun hp w vs ha hd => (h w hp vs ha hd).mono fun e w' ⟨⟨v, e1, e2⟩, e3⟩ => ⟨v, hp, e1, e2 hp, ha.of_blocks fun b ⟨o, v, hv⟩ => e3.block b (ha.lt hv), Pub.Le.refl _, e3, fun _ _ _ => rfl⟩⟩
theorem decDigits_dec (n : Nat) : Go.Lib.decDigits n = dec n := by
  induction n using Nat.strongRecOn with
  | _ n ih =>
    rw [Go.Lib.decDigits]
    by_cases h : n < 10
    · rw [dif_pos h, dec_small h]
    · rw [dif_neg h, dec_big (by omega), ih (n / 10) (by omega)]
theorem itoa_decZ (n : Int) : Go.Lib.itoa n = decZ n := by
  unfold Go.Lib.itoa decZ
  split
  · rw [decDigits_dec]
  · rw [decDigits_dec]
    congr 1
    omega
theorem dec_len (n : Nat) (k : Nat) (h : n < 10 ^ k) (hk : 0 < k) : (dec n).length ≤ k := (pad_dec k n hk h).1
theorem itoa_c (n : Int) : Called Tryz.prog 130 [.int .i64 n] (.str (decZ n)) := by
  refine called_of_grown Tryz.func130 rfl rfl rfl fun w hp vs ha hd => ?_
  simp only [DenL, Den] at hd
  obtain ⟨v, _, rfl, ⟨rfl, h1⟩, rfl⟩ := hd
  have ht : Go.Lib.TabIs Tryz.prog w "internal/strconv.uint64pow10" .u64 Go.Lib.pow10Tab := by
    obtain ⟨_, T, f, h2⟩ := ha.blk.1 1 _ (by unfold glb; first | exact List.mem_cons_of_mem _ (List.mem_cons_self ..) | exact List.mem_cons_self ..)
    unfold Go.Lib.TabIs World.var?
    rw [show Tryz.prog.globalNamed "internal/strconv.uint64pow10" = some 1 by kernel_rfl]
    simp only [Option.bind_some, h2]
    rfl
  obtain ⟨h3, h4⟩ := h1
  refine (Tryz.strconv_Itoa n h3 h4 w ht).mono fun e w' ⟨he, k, os, hw⟩ => ⟨⟨_, he, fun hp => ?_⟩, ?_⟩
  · rw [itoa_decZ]
    simp only [Den]
    refine ⟨trivial, ?_⟩
    simp only [V.lo, V.hi] at h3 h4
    have hl := dec_len n.natAbs 20 (by omega) (by omega)
    unfold decZ
    split
    · rw [List.length_cons]; omega
    · omega
  · rw [hw]
    exact Go.Lib.below_grow _ _ (Nat.le_refl _) _ _
theorem cutPrefix_c (s p : List UInt8) : Called Tryz.prog 144 [.str s, .str p] (.tup [.str (Go.Lib.trimPrefix s p), .bool (Go.Lib.hasPrefix s p)]) := by
  refine called_of_grown Tryz.func144 rfl rfl rfl fun w hp vs ha hd => ?_
  simp only [DenL, Den] at hd
  obtain ⟨v, _, rfl, ⟨rfl, h1⟩, v2, _, rfl, ⟨rfl, h2⟩, rfl⟩ := hd
  refine (Tryz.strings_CutPrefix ⟨s.toArray⟩ ⟨p.toArray⟩ w).mono fun e w' ⟨he, hw⟩ => ⟨⟨_, he, fun hp => ?_⟩, ?_⟩
  · simp only [Den, DenL]
    refine ⟨_, rfl, _, _, rfl, ⟨rfl, ?_⟩, _, _, rfl, rfl, rfl⟩
    unfold Go.Lib.trimPrefix
    split
    · rw [List.length_drop]; omega
    · exact h1
  · rw [hw]; exact RowKit.Below.refl _ _
end Go.Proofs.YtpcpgjcdkgcbpaaGreatDoor
end
section
namespace Go.Proofs.YtpcpgjcdkgcbpaaGreatDoor
open Go Go.V Go.Nb Go.RowKit Go.Proofs
set_option maxHeartbeats 4000000
set_option maxRecDepth 1000000
theorem hta_fail (y : Int) (w : World) : (Instr.typeAssert (.iface 114 (.agg #[.int .i64 y])) 20 114 true).run Tryz.prog w = .ok (.tuple #[.agg #[.int .i64 y], .bool true]) w := by
  simp [Instr.typeAssert, run_underlying Tryz.underlying114, go_sem, Result.andThen]
theorem yheap_setc {W : World} {B j : Nat} {cs : Array Value} {T : TypeId} {fr : Nat × Nat} (v : Value) (h : W.heap[B]? = some (.cells cs T fr)) : (W.setCell ⟨B, j, none⟩ v).heap[B]? = some (.cells (cs.setIfInBounds j v) T fr) := by
  obtain ⟨hlt, hk⟩ := Array.getElem?_eq_some_iff.1 h
  show (W.heap.modify B _)[B]? = _
  rw [Array.getElem?_eq_getElem (by rw [Array.size_modify]; exact hlt), Array.getElem_modify_self, hk]
  rfl
theorem ysize_set (W : World) (a : Addr) (v : Value) : (W.setCell a v).heap.size = W.heap.size := by
  show (W.heap.modify _ _).size = _
  rw [Array.size_modify]
theorem yheap_seto {W : World} {B B' j : Nat} {o : Option Obj} (v : Value) (hn : B ≠ B') (h : W.heap[B]? = o) : (W.setCell ⟨B', j, none⟩ v).heap[B]? = o := (Below.heap_setCell W ⟨B', j, none⟩ v B hn).trans h
theorem aidle_tri (p q : Addr) (w : World) :
    CallsD Tryz.prog 84 #[.pointer (some p), .pointer (some q)] .returning w fun e u' w' => e = .returned (.tuple #[]) ∧ u' = .returning ∧ w' = w := by
  refine callsD_of_wpS Tryz.func84 rfl fun c₀ cs hu => ?_
  apply wpS_seq
  apply wpS_region
  simp [wpOpsS, go_sem, recoverD, hu, Tryz.ntmps84, Exit.thenS]
  apply wpS_seq
  apply wpS_seq
  apply wpS_region
  simp [wpOpsS, go_sem, Exit.thenS]
  refine wpS_cond (t := true) (by simp [Act.eval, Array.replicate]) ?_
  simp only [if_true]
  refine wpS_of_wp (wp_ret ?_)
  cases c₀
  simp_all [Exit.thenS, bodyPostS, results, Tryz.results84]
theorem att_tri_ok {f : Nat} {es ds : List D} {a0 a1 a2 a3 a4 a5 : List UInt8} (c : Called Tryz.prog f (es ++ ds) (.agg [.str a0, .str a1, .str a2, .str a3, .str a4, .str a5])) :
    Called Tryz.prog 43 [.fn f es ds] (.tup [.agg [.str a0, .str a1, .str a2, .str a3, .str a4, .str a5], .int .i64 0]) := by
  refine ⟨enters_of Tryz.func43 rfl rfl, fun h w vs ha hd => ?_⟩
  simp only [DenL, Den] at hd
  obtain ⟨v, _, rfl, ⟨us, cs, rfl, hu, hc⟩, rfl⟩ := hd
  have hmf : ∀ (fn : Fn) (first cap : Array Value) (w : World), (Instr.makeFunc fn first cap).run Tryz.prog w = .ok (.func fn first cap) w := fun _ _ _ _ => rfl
  go_enter_defers Tryz.func43, Tryz.ntmps43
  go_wp2
  rw [c.ent]
  simp only [Oper.upon]
  have a2 : ∀ (o1 o2 : Obj), Agree h ((w.alloc o1).alloc o2) := fun o1 o2 => ha.of_blocks fun b ⟨o, v, hv⟩ => by
    have hlt := ha.lt hv
    rw [Lib.alloc_old (w.alloc o1) o2 b (by simp; omega), Lib.alloc_old w o1 b hlt]
  refine (c.call h _ _ (a2 _ _) (hu.append hc)).mono ?_
  rintro e w' ⟨v, h', rfl, hd, ha', hle, hb, hold⟩
  have hd0 := hd
  simp only [Den, DenL] at hd
  obtain ⟨vs, rfl, ⟨v0, _, rfl, ⟨rfl, l0⟩, v1, _, rfl, ⟨rfl, l1⟩, v2, _, rfl, ⟨rfl, l2⟩, v3, _, rfl, ⟨rfl, l3⟩, v4, _, rfl, ⟨rfl, l4⟩, v5, _, rfl, ⟨rfl, l5⟩, rfl⟩, hone⟩ := hd
  obtain ⟨T, k0⟩ : ∃ T, w'.heap[w.heap.size]? = some (.cells #[.string ⟨#[]⟩, .string ⟨#[]⟩, .string ⟨#[]⟩, .string ⟨#[]⟩, .string ⟨#[]⟩, .string ⟨#[]⟩] T (0, 0)) := ⟨_, by
    rw [hb.block w.heap.size (by simp; omega)]
    exact heap_alloc2_old _ _ _⟩
  obtain ⟨T1, k1⟩ : ∃ T, w'.heap[w.heap.size + 1]? = some (.cells #[.int .i64 0] T (0, 0)) := ⟨_, by
    rw [hb.block (w.heap.size + 1) (by simp)]
    exact heap_alloc2_new _ _ _⟩
  have fz : ∀ j, w'.frozen? ⟨w.heap.size, j, none⟩ = false := fun j => Lib.frozen_of_heap k0 j
  have fz1 : ∀ j, w'.frozen? ⟨w.heap.size + 1, j, none⟩ = false := fun j => Lib.frozen_of_heap k1 j
  have c0 : w'.cell? ⟨w.heap.size, 0, none⟩ = some (.string ⟨#[]⟩) := by rw [Lib.cell_of_heap k0]; rfl
  have c1 : w'.cell? ⟨w.heap.size, 1, none⟩ = some (.string ⟨#[]⟩) := by rw [Lib.cell_of_heap k0]; rfl
  have c2 : w'.cell? ⟨w.heap.size, 2, none⟩ = some (.string ⟨#[]⟩) := by rw [Lib.cell_of_heap k0]; rfl
  have c3 : w'.cell? ⟨w.heap.size, 3, none⟩ = some (.string ⟨#[]⟩) := by rw [Lib.cell_of_heap k0]; rfl
  have c4 : w'.cell? ⟨w.heap.size, 4, none⟩ = some (.string ⟨#[]⟩) := by rw [Lib.cell_of_heap k0]; rfl
  have c5 : w'.cell? ⟨w.heap.size, 5, none⟩ = some (.string ⟨#[]⟩) := by rw [Lib.cell_of_heap k0]; rfl
  have ce : w'.cell? ⟨w.heap.size + 1, 0, none⟩ = some (.int .i64 0) := by rw [Lib.cell_of_heap k1]; rfl
  clear a2 hu hc hone
  have hbw : Below w.heap.size w w' := (((Below.refl w.heap.size w).alloc (Nat.le_refl _) _).alloc (by simp) _).trans (hb.mono (by simp; omega))
  have hno : ∀ b, (∃ o v, h' b o = some v) → b < w.heap.size + 2 → b < w.heap.size := fun b ⟨o, v, hv⟩ hl => by
    rw [hold b (by simp; omega) o] at hv
    exact ha.lt hv
  have ho2 : ∀ b, b < w.heap.size → ∀ o, h' b o = h b o := fun b hb2 o => hold b (by simp; omega) o
  clear hb hold
  go_wp2
  refine leaves_cons (f := 84) (args := #[.pointer (some ⟨w.heap.size, 0, none⟩), .pointer (some ⟨w.heap.size + 1, 0, none⟩)]) (by simp) (by simp [go_sem]) ?_
  refine (aidle_tri _ _ _).mono ?_
  rintro e u' w'' ⟨rfl, rfl, rfl⟩
  simp [Leaves, settle, results, Tryz.results43, go_sem, c0, c1, c2, c3, c4, c5, ce]
  refine ⟨h', ?_, ?_, hle, ?_, ho2⟩
  · simp only [Den, DenL] at hd0 ⊢
    exact ⟨_, rfl, _, _, rfl, hd0, _, _, rfl, ⟨rfl, by simp [InR, V.lo, V.hi]⟩, rfl⟩
  · refine ha'.of_blocks fun b hx => ?_
    have n0 : b ≠ w.heap.size := fun e => by have := hno b hx (by omega); omega
    have n1 : b ≠ w.heap.size + 1 := fun e => by have := hno b hx (by omega); omega
    rw [Below.heap_setCell _ _ _ _ n1, Below.heap_setCell _ _ _ _ n0, Below.heap_setCell _ _ _ _ n0, Below.heap_setCell _ _ _ _ n0, Below.heap_setCell _ _ _ _ n0, Below.heap_setCell _ _ _ _ n0, Below.heap_setCell _ _ _ _ n0]
  · exact ((((((hbw.setCell (Nat.le_refl _) _).setCell (Nat.le_refl _) _).setCell (Nat.le_refl _) _).setCell (Nat.le_refl _) _).setCell (Nat.le_refl _) _).setCell (Nat.le_refl _) _).setCell (Nat.le_succ _) _
theorem acatch_tri (b : Nat) (x : Int) (older : List PanicEntry) (T T1 : TypeId) (w : World) (hb : w.heap[b]? = some (.cells #[.string ⟨#[]⟩, .string ⟨#[]⟩, .string ⟨#[]⟩, .string ⟨#[]⟩, .string ⟨#[]⟩, .string ⟨#[]⟩] T (0, 0))) (hq : w.heap[b + 1]? = some (.cells #[.int .i64 0] T1 (0, 0))) :
    CallsD Tryz.prog 84 #[.pointer (some ⟨b, 0, none⟩), .pointer (some ⟨b + 1, 0, none⟩)] (.panicking ({ v := .iface 114 (.agg #[.int .i64 x]), recovered := false } :: older)) w fun e u' w' =>
      e = .returned (.tuple #[]) ∧ u' = .panicking ({ v := .iface 114 (.agg #[.int .i64 x]), recovered := true } :: older) ∧ Below b w w' ∧ w'.heap[b]? = some (.cells #[.string ⟨#[]⟩, .string ⟨#[]⟩, .string ⟨#[]⟩, .string ⟨#[]⟩, .string ⟨#[]⟩, .string ⟨#[]⟩] T (0, 0)) ∧ w'.heap[b + 1]? = some (.cells #[.int .i64 x] T1 (0, 0)) := by
  refine callsD_of_wpS Tryz.func84 rfl fun c₀ cs hu => ?_
  apply wpS_seq
  apply wpS_region
  simp [wpOpsS, go_sem, recoverD, hu, Tryz.ntmps84, Exit.thenS]
  apply wpS_seq
  apply wpS_seq
  apply wpS_region
  simp [wpOpsS, go_sem, Exit.thenS]
  refine wpS_cond (t := false) (by simp [Act.eval, Array.replicate]) ?_
  simp only [Bool.false_eq_true, if_false]
  refine wpS_of_wp (wp_skip ?_)
  simp only [Exit.thenS]
  refine wpS_of_wp ?_
  change Code.wp Tryz.prog _ _ { tmps := #[.pointer (some ⟨b, 0, none⟩), .pointer (some ⟨b + 1, 0, none⟩), .iface 114 (.agg #[.int .i64 x]), Go.undef, Go.undef, Go.undef, .iface 114 (.agg #[.int .i64 x]), .iface 114 (.agg #[.int .i64 x]), .bool false, Go.undef, Go.undef, Go.undef, Go.undef, Go.undef, Go.undef, Go.undef, Go.undef, Go.undef], defers := [] } _
  have hlt : b + 1 < w.heap.size := by
    rcases Nat.lt_or_ge (b + 1) w.heap.size with e | e
    · exact e
    · rw [Array.getElem?_eq_none e] at hq
      cases hq
  have kb : ∀ o, (w.alloc o).heap[b]? = w.heap[b]? := fun o => Below.heap_alloc w o b (by omega)
  have kq : ∀ o, (w.alloc o).heap[b + 1]? = w.heap[b + 1]? := fun o => Below.heap_alloc w o (b + 1) hlt
  have fz : ∀ o j, (w.alloc o).frozen? ⟨b, j, none⟩ = false := fun o j => Lib.frozen_of_heap ((kb o).trans hb) j
  have fz1 : ∀ o j, (w.alloc o).frozen? ⟨b + 1, j, none⟩ = false := fun o j => Lib.frozen_of_heap ((kq o).trans hq) j
  have c0 : ∀ o, (w.alloc o).cell? ⟨b, 0, none⟩ = some (.string ⟨#[]⟩) := fun o => by rw [Lib.cell_of_heap ((kb o).trans hb)]; rfl
  have c1 : ∀ o, (w.alloc o).cell? ⟨b, 1, none⟩ = some (.string ⟨#[]⟩) := fun o => by rw [Lib.cell_of_heap ((kb o).trans hb)]; rfl
  have c2 : ∀ o, (w.alloc o).cell? ⟨b, 2, none⟩ = some (.string ⟨#[]⟩) := fun o => by rw [Lib.cell_of_heap ((kb o).trans hb)]; rfl
  have c3 : ∀ o, (w.alloc o).cell? ⟨b, 3, none⟩ = some (.string ⟨#[]⟩) := fun o => by rw [Lib.cell_of_heap ((kb o).trans hb)]; rfl
  have c4 : ∀ o, (w.alloc o).cell? ⟨b, 4, none⟩ = some (.string ⟨#[]⟩) := fun o => by rw [Lib.cell_of_heap ((kb o).trans hb)]; rfl
  have c5 : ∀ o, (w.alloc o).cell? ⟨b, 5, none⟩ = some (.string ⟨#[]⟩) := fun o => by rw [Lib.cell_of_heap ((kb o).trans hb)]; rfl
  have ce : ∀ o, (w.alloc o).cell? ⟨b + 1, 0, none⟩ = some (.int .i64 0) := fun o => by rw [Lib.cell_of_heap ((kq o).trans hq)]; rfl
  go_wp2
  rw [hta_fail]
  generalize hw1 : World.setCell (World.setCell (World.setCell (World.setCell (World.setCell (World.setCell (World.setCell (World.alloc w _) _ _) _ _) _ _) _ _) _ _) _ _) _ _ = w1
  have q1 : w1.heap[b + 1]? = some (.cells #[.int .i64 9] T1 (0, 0)) := by
    rw [← hw1]
    exact yheap_setc _ (yheap_seto _ (by omega) (yheap_seto _ (by omega) (yheap_seto _ (by omega) (yheap_seto _ (by omega) (yheap_seto _ (by omega) (yheap_seto _ (by omega) ((kq _).trans hq)))))))
  have q0 : w1.heap[b]? = some (.cells #[.string ⟨#[]⟩, .string ⟨#[]⟩, .string ⟨#[]⟩, .string ⟨#[]⟩, .string ⟨#[]⟩, .string ⟨#[]⟩] T (0, 0)) := by
    rw [← hw1]
    exact yheap_seto _ (by omega) (yheap_setc _ (yheap_setc _ (yheap_setc _ (yheap_setc _ (yheap_setc _ (yheap_setc _ ((kb _).trans hb)))))))
  have qb : Below b w w1 := by
    rw [← hw1]
    exact ((((((((Below.refl b w).alloc (by omega) _).setCell (Nat.le_refl _) _).setCell (Nat.le_refl _) _).setCell (Nat.le_refl _) _).setCell (Nat.le_refl _) _).setCell (Nat.le_refl _) _).setCell (Nat.le_refl _) _).setCell (Nat.le_succ _) _
  clear hw1 c0 c1 c2 c3 c4 c5 ce fz fz1 kb kq hb hq
  have hlt1 : b + 1 < w1.heap.size := by
    rcases Nat.lt_or_ge (b + 1) w1.heap.size with e | e
    · exact e
    · rw [Array.getElem?_eq_none e] at q1
      cases q1
  have r1 : ∀ o, (w1.alloc o).heap[b + 1]? = some (.cells #[.int .i64 9] T1 (0, 0)) := fun o => (Below.heap_alloc w1 o (b + 1) hlt1).trans q1
  have r0 : ∀ o, (w1.alloc o).heap[b]? = some (.cells #[.string ⟨#[]⟩, .string ⟨#[]⟩, .string ⟨#[]⟩, .string ⟨#[]⟩, .string ⟨#[]⟩, .string ⟨#[]⟩] T (0, 0)) := fun o => (Below.heap_alloc w1 o b (by omega)).trans q0
  have d0 : ∀ o, (w1.alloc o).cell? ⟨b + 1, 0, none⟩ = some (.int .i64 9) := fun o => by rw [Lib.cell_of_heap (r1 o)]; rfl
  have dz : ∀ o, (w1.alloc o).frozen? ⟨b + 1, 0, none⟩ = false := fun o => Lib.frozen_of_heap (r1 o) 0
  simp only [Result.andThen]
  rw [Oper.upon_value]
  go_wp2
  simp [bodyPostS, results, Tryz.results84]
  have hs2 : b + 1 < (w1.setCell ⟨b + 1, 0, none⟩ (.int .i64 x)).heap.size := by rw [ysize_set]; exact hlt1
  exact ⟨(qb.setCell (Nat.le_succ _) _).alloc (by omega) _, (Below.heap_alloc _ _ b (by omega)).trans (yheap_seto _ (by omega) q0), (Below.heap_alloc _ _ (b + 1) hs2).trans (yheap_setc _ q1)⟩
theorem att_tri_pan {f : Nat} {es ds : List D} {x : Int} (hx : InR .i64 x) (c : Panics Tryz.prog f (es ++ ds) (.iface 114 (.agg #[.int .i64 x]))) :
    Called Tryz.prog 43 [.fn f es ds] (.tup [.agg [.str [], .str [], .str [], .str [], .str [], .str []], .int .i64 x]) := by
  refine ⟨enters_of Tryz.func43 rfl rfl, fun h w vs ha hd => ?_⟩
  simp only [DenL, Den] at hd
  obtain ⟨v, _, rfl, ⟨us, cs, rfl, hu, hc⟩, rfl⟩ := hd
  have hmf : ∀ (fn : Fn) (first cap : Array Value) (w : World), (Instr.makeFunc fn first cap).run Tryz.prog w = .ok (.func fn first cap) w := fun _ _ _ _ => rfl
  go_enter_defers Tryz.func43, Tryz.ntmps43
  go_wp2
  rw [c.ent]
  simp only [Oper.upon]
  have a2 : ∀ (o1 o2 : Obj), Agree h ((w.alloc o1).alloc o2) := fun o1 o2 => ha.of_blocks fun b ⟨o, v, hv⟩ => by
    have hlt := ha.lt hv
    rw [Lib.alloc_old (w.alloc o1) o2 b (by simp; omega), Lib.alloc_old w o1 b hlt]
  refine (c.call h _ _ (a2 _ _) (hu.append hc)).mono ?_
  rintro e w' ⟨h', rfl, ha', hle, hb, hold⟩
  obtain ⟨T, k0⟩ : ∃ T, w'.heap[w.heap.size]? = some (.cells #[.string ⟨#[]⟩, .string ⟨#[]⟩, .string ⟨#[]⟩, .string ⟨#[]⟩, .string ⟨#[]⟩, .string ⟨#[]⟩] T (0, 0)) := ⟨_, by
    rw [hb.block w.heap.size (by simp; omega)]
    exact heap_alloc2_old _ _ _⟩
  obtain ⟨T1, k1⟩ : ∃ T, w'.heap[w.heap.size + 1]? = some (.cells #[.int .i64 0] T (0, 0)) := ⟨_, by
    rw [hb.block (w.heap.size + 1) (by simp)]
    exact heap_alloc2_new _ _ _⟩
  have hbw : Below w.heap.size w w' := (((Below.refl w.heap.size w).alloc (Nat.le_refl _) _).alloc (by simp) _).trans (hb.mono (by simp; omega))
  simp only
  change bodyPostD Tryz.prog Tryz.f43 _ (Exit.panic _) _ _
  refine leaves_cons (f := 84) (args := #[.pointer (some ⟨w.heap.size, 0, none⟩), .pointer (some ⟨w.heap.size + 1, 0, none⟩)]) (by simp) (by simp [go_sem]) ?_
  refine (acatch_tri w.heap.size x [] T T1 _ k0 k1).mono ?_
  rintro e u' w'' ⟨rfl, rfl, b1, q0, q1⟩
  have c0 : w''.cell? ⟨w.heap.size, 0, none⟩ = some (.string ⟨#[]⟩) := by rw [Lib.cell_of_heap q0]; rfl
  have c1 : w''.cell? ⟨w.heap.size, 1, none⟩ = some (.string ⟨#[]⟩) := by rw [Lib.cell_of_heap q0]; rfl
  have c2 : w''.cell? ⟨w.heap.size, 2, none⟩ = some (.string ⟨#[]⟩) := by rw [Lib.cell_of_heap q0]; rfl
  have c3 : w''.cell? ⟨w.heap.size, 3, none⟩ = some (.string ⟨#[]⟩) := by rw [Lib.cell_of_heap q0]; rfl
  have c4 : w''.cell? ⟨w.heap.size, 4, none⟩ = some (.string ⟨#[]⟩) := by rw [Lib.cell_of_heap q0]; rfl
  have c5 : w''.cell? ⟨w.heap.size, 5, none⟩ = some (.string ⟨#[]⟩) := by rw [Lib.cell_of_heap q0]; rfl
  have ce : w''.cell? ⟨w.heap.size + 1, 0, none⟩ = some (.int .i64 x) := by rw [Lib.cell_of_heap q1]; rfl
  simp [Leaves, settle, results, Tryz.results43, go_sem, c0, c1, c2, c3, c4, c5, ce]
  have hfin := hbw.trans b1
  refine ⟨h, ?_, ha.of_blocks fun b ⟨o, v, hv⟩ => hfin.block b (ha.lt hv), Pub.Le.refl _, hfin, fun _ _ _ => rfl⟩
  simp only [Den, DenL]
  refine ⟨_, rfl, _, _, rfl, ⟨_, rfl, ⟨_, _, rfl, ⟨rfl, by simp⟩, _, _, rfl, ⟨rfl, by simp⟩, _, _, rfl, ⟨rfl, by simp⟩, _, _, rfl, ⟨rfl, by simp⟩, _, _, rfl, ⟨rfl, by simp⟩, _, _, rfl, ⟨rfl, by simp⟩, rfl⟩, ?_⟩, _, _, rfl, ⟨rfl, hx⟩, rfl⟩
  intro v hv
  simp at hv
  subst hv
  rfl
end Go.Proofs.YtpcpgjcdkgcbpaaGreatDoor
end
section
namespace Go.Proofs.YtpcpgjcdkgcbpaaGreatDoor
open Go Go.V Go.Nb
theorem val_take_zero {B : Nat} {xs : List Int} {k : Nat} (h : xs[k]? = some 0) : val B (xs.take (k + 1)) = val B (xs.take k) := by
  rw [val_take_succ h]; simp
theorem take_mg {B : Nat} (hB : 2 ≤ B) {xs : List Int} {k : Nat} (hd : Dg B xs) (hv : val B (xs.take k) = val B xs) (hk : k ≤ xs.length) (h : k = 0 ∨ ∃ x, xs[k - 1]? = some x ∧ x ≠ 0) : xs.take k = mg B (val B xs).toNat := by
  rw [← hv]
  refine mg_of hB (dg_take hd k) fun y hy => ?_
  rcases h with rfl | ⟨x, h1, h2⟩
  · simp at hy
  · have hk0 : 0 < k := by
      rcases Nat.eq_zero_or_pos k with e | e
      · subst e; simp at hy
      · exact e
    have hlen : (xs.take k).length = k := by rw [List.length_take]; omega
    rw [List.getLast?_eq_getElem?, hlen, List.getElem?_take_of_lt (by omega), h1] at hy
    cases hy
    exact h2
theorem cut_c (xs : List Int) (hd : Dg 10000 xs) (hl : xs.length ≤ 281474976710656) : Called Tryz.prog 171 [.ints .i64 xs] (.ints .i64 (mg 10000 (val 10000 xs).toNat)) := by
  refine called_of_run tbOk 6 ⟨Tryz.func171, rfl, rfl, Nat.le_of_ble_eq_true rfl⟩ ?_
  (conv => whnf)
  refine V.st ?_
  refine lp_any (xs.length) (fun k => k ≤ xs.length ∧ val 10000 (xs.take k) = val 10000 xs) (fun k => k) (fun k => [(3, .int .i64 k)]) (fun k => []) ?_ ?_ ?_
  · exact V.wk
  · exact ⟨Nat.le_refl _, by rw [List.take_length]⟩
  intro k hk
  (conv => whnf)
  refine V.st ?_
  refine Cnd.split (CondB.mk (fun hq => ?_) (fun hq => ?_))
  · rw [Bool.and_eq_true, decide_eq_true_eq, decide_eq_true_eq] at hq
    have hk0 : 0 < k := by omega
    obtain ⟨j, rfl⟩ : ∃ j, k = j + 1 := ⟨k - 1, by omega⟩
    obtain ⟨x, hx, ex⟩ := getxn (xs := xs) (k := j) (by omega)
    have e1 : ((((j + 1 : Nat) : Int) - 1).toNat) = j := by omega
    have e2 : (((j + 1 : Nat) : Int) - 1) = (j : Int) := by omega
    rw [e1, ex] at hq
    rw [hq.2] at hx
    (conv => whnf)
    (try simp only [e2])
    repeat ((first | refine V.s1 ?_); (try simp only [e2]))
    exact ⟨j, ⟨by omega, by rw [← hk.2, val_take_zero hx]⟩, by omega, V.wk⟩
  · have h3 : k = 0 ∨ ∃ x, xs[k - 1]? = some x ∧ x ≠ 0 := by
      rcases Nat.eq_zero_or_pos k with e | e
      · exact .inl e
      · refine .inr ?_
        obtain ⟨x, hx, ex⟩ := getxn (xs := xs) (k := (k - 1)) (by omega)
        refine ⟨x, hx, fun e0 => ?_⟩
        have e1 : (((k : Nat) : Int) - 1).toNat = k - 1 := by omega
        rw [e1, ex, e0] at hq
        simp at hq
        omega
    (conv => whnf)
    (try simp only [Int.toNat_natCast])
    repeat ((first | refine V.s1 ?_); (try simp only [Int.toNat_natCast]))
    exact Fin.of (by rw [take_mg (by omega) hd hk.2 hk.1 h3])
end Go.Proofs.YtpcpgjcdkgcbpaaGreatDoor
end
section
namespace Go.Proofs.YtpcpgjcdkgcbpaaGreatDoor
open Go Go.V Go.Nb
theorem trim_c (xs : List Int) (hd : Dg 1000000000 xs) (hl : xs.length ≤ 281474976710656) : Called Tryz.prog 139 [.ints .u32 xs] (.ints .u32 (mg 1000000000 (val 1000000000 xs).toNat)) := by
  refine called_of_run tbOk 6 ⟨Tryz.func139, rfl, rfl, Nat.le_of_ble_eq_true rfl⟩ ?_
  (conv => whnf)
  refine V.st ?_
  refine lp_any (xs.length) (fun k => k ≤ xs.length ∧ val 1000000000 (xs.take k) = val 1000000000 xs) (fun k => k) (fun k => [(0, .ints .u32 (xs.take k))]) (fun k => []) ?_ ?_ ?_
  · rw [List.take_length]
    exact V.wk
  · exact ⟨Nat.le_refl _, by rw [List.take_length]⟩
  intro k hk
  have hlt : (xs.take k).length = k := by rw [List.length_take]; omega
  (conv => whnf)
  (try simp only [hlt])
  repeat ((first | refine V.s1 ?_); (try simp only [hlt]))
  refine Cnd.split (CondB.mk (fun hq => ?_) (fun hq => ?_))
  · rw [Bool.and_eq_true, decide_eq_true_eq, decide_eq_true_eq] at hq
    have hk0 : 0 < k := by omega
    obtain ⟨j, rfl⟩ : ∃ j, k = j + 1 := ⟨k - 1, by omega⟩
    obtain ⟨x, hx, ex⟩ := getxn (xs := xs) (k := j) (by omega)
    have e1 : ((((j + 1 : Nat) : Int) - 1).toNat) = j := by omega
    have e2 : (((j + 1 : Nat) : Int) - 1) = (j : Int) := by omega
    have e3 : (xs.take (j + 1)).getD j 0 = x := by
      rw [List.getD_eq_getElem?_getD, List.getElem?_take_of_lt (by omega), hx]; rfl
    have e4 : (xs.take (j + 1)).take j = xs.take j := by rw [List.take_take, Nat.min_eq_left (by omega)]
    rw [e1, e3] at hq
    rw [hq.2] at hx
    (conv => whnf)
    (try simp only [e2, hlt, Int.toNat_natCast, e4])
    repeat ((first | refine V.s1 ?_); (try simp only [e2, hlt, Int.toNat_natCast, e4]))
    exact ⟨j, ⟨by omega, by rw [← hk.2, val_take_zero hx]⟩, by omega, V.wk⟩
  · have h3 : k = 0 ∨ ∃ x, xs[k - 1]? = some x ∧ x ≠ 0 := by
      rcases Nat.eq_zero_or_pos k with e | e
      · exact .inl e
      · refine .inr ?_
        obtain ⟨x, hx, ex⟩ := getxn (xs := xs) (k := (k - 1)) (by omega)
        refine ⟨x, hx, fun e0 => ?_⟩
        have e1 : (((k : Nat) : Int) - 1).toNat = k - 1 := by omega
        have e3 : (xs.take k).getD (k - 1) 0 = x := by
          rw [List.getD_eq_getElem?_getD, List.getElem?_take_of_lt (by omega), hx]; rfl
        rw [e1, e3, e0] at hq
        simp at hq
        omega
    (conv => whnf)
    refine V.st ?_
    exact Fin.of (by rw [take_mg (by omega) hd hk.2 hk.1 h3])
def plD (z : Int) : D := .agg [.bool (decide (z < 0)), .ints .i64 (mg 10000 z.natAbs)]
theorem madeP_c (b : Bool) (xs : List Int) (hd : Dg 10000 xs) (hl : xs.length ≤ 281474976710656) : Called Tryz.prog 155 [.bool b, .ints .i64 xs] (plD (if b then -(val 10000 xs) else val 10000 xs)) := by
  have hc := cut_c xs hd hl
  have h0 := val_nonneg hd
  obtain ⟨n, hn⟩ : ∃ n : Nat, val 10000 xs = n := ⟨(val 10000 xs).toNat, by omega⟩
  have hlen : ((0 : Int) < ((mg 10000 n).length : Int)) ↔ 0 < n := by
    have := mg_nil (B := 10000) (n := n) (by omega)
    rcases Nat.eq_zero_or_pos n with e | e
    · rw [e]; simp [mg_zero]
    · have h1 : mg 10000 n ≠ [] := fun h => by have := this.1 h; omega
      have := List.length_pos_iff.2 h1
      constructor <;> intro <;> omega
  rw [hn] at hc ⊢
  rw [Int.toNat_natCast] at hc
  refine called_of_run tbOk 6 ⟨Tryz.func155, rfl, rfl, Nat.le_of_ble_eq_true rfl⟩ ?_
  (conv => whnf)
  refine V.st ?_
  repeat ((try ((with_reducible refine .ext ?_); (conv => whnf))); (with_reducible refine call_intro (r := ?_) ?_ ?_); rotate_left; (focus (first | exact (hc))); (conv => whnf); refine V.st ?_)
  refine Fin.of ?_
  cases b with
  | false =>
    have e1 : decide ((n : Int) < 0) = false := by simp
    simp [plD, e1]
  | true =>
    have e1 : decide (-(n : Int) < 0) = decide (((mg 10000 n).length : Int) > 0) := by
      apply decide_eq_decide.2
      constructor
      · intro h; exact hlen.2 (by omega)
      · intro h; have := hlen.1 h; omega
    simp [plD]
    omega
end Go.Proofs.YtpcpgjcdkgcbpaaGreatDoor
end
section
namespace Go.Proofs.YtpcpgjcdkgcbpaaGreatDoor
open Go Go.V Go.Nb
theorem turn_c (z : Int) (hz : (mg 10000 z.natAbs).length ≤ 281474976710656) : Called Tryz.prog 169 [plD z] (plD (-z)) := by
  have hv := mg_val (B := 10000) (by omega) z.natAbs
  have hm := madeP_c (!decide (z < 0)) (mg 10000 z.natAbs) (mg_dg (by omega) _) hz
  have e : (if (!decide (z < 0)) = true then -(val 10000 (mg 10000 z.natAbs)) else val 10000 (mg 10000 z.natAbs)) = -z := by
    rw [hv]
    by_cases h : z < 0
    · simp [h]; omega
    · simp [h]; omega
  rw [e] at hm
  refine called_of_run tbOk 6 ⟨Tryz.func169, rfl, rfl, Nat.le_of_ble_eq_true rfl⟩ ?_
  (conv => whnf)
  refine V.st ?_
  repeat ((try ((with_reducible refine .ext ?_); (conv => whnf))); (with_reducible refine call_intro (r := ?_) ?_ ?_); rotate_left; (focus (first | exact (hm))); (conv => whnf); refine V.st ?_)
  exact Fin.of rfl
theorem dig_step {B : Nat} {out : List Int} {q : Nat} {m : Int} (hB : 2 ≤ B) (h : val B out + (B : Int) ^ out.length * q = m) : val B (out ++ [((q % B : Nat) : Int)]) + (B : Int) ^ (out ++ [((q % B : Nat) : Int)]).length * ((q / B : Nat) : Int) = m := by
  rw [val_snoc, List.length_append, List.length_singleton, Int.pow_succ, Int.mul_assoc, Int.add_assoc, ← Int.mul_add, ← Int.natCast_mul, ← Int.natCast_add, Nat.mod_add_div]
  exact h
theorem integer_pos (n : Nat) (hn : n < 10000 ^ 5) : Called Tryz.prog 154 [.int .i64 n] (plD n) := by
  have hlen := mg_len_le (B := 10000) (by omega) hn
  refine called_of_run tbOk 6 ⟨Tryz.func154, rfl, rfl, Nat.le_of_ble_eq_true rfl⟩ ?_
  (conv => whnf)
  refine V.st ?_
  refine Lp.ghostSlot 19 3 .i64 (by decide) ?_
  (conv => whnf)
  refine lp_any ((n, []) : Nat × List Int) (fun s => val 10000 s.2 + ((10000 : Nat) : Int) ^ s.2.length * s.1 = n ∧ Dg 10000 s.2 ∧ s.1 ≤ n ∧ s.2.length + (mg 10000 s.1).length = (mg 10000 n).length) (fun s => s.1) (fun s => [(0, .int .i64 s.1), (3, .osl 19 0 s.2.length)]) (fun s => [(19, .arr .i64 s.2)]) ?_ ?_ ?_
  · exact V.wk
  · exact ⟨by simp [val], fun x hx => by simp at hx, Nat.le_refl _, by simp⟩
  rintro ⟨q, out⟩ ⟨h1, h2, h3, h4⟩
  dsimp only at h1 h2 h3 h4 ⊢
  (conv => whnf)
  refine V.st ?_
  refine Cnd.split (CondB.mk (fun hq => ?_) (fun hq => ?_))
  · rw [decide_eq_true_eq] at hq
    have hq0 : 0 < q := by omega
    have hmg := mg_pos (B := 10000) (by omega) hq0
    have hst := dig_step (B := 10000) (by omega) h1
    have hlt : q / 10000 < q := Nat.div_lt_self hq0 (by omega)
    have hdg : Dg 10000 (out ++ [((q % 10000 : Nat) : Int)]) := dg_append h2 (dg_one ⟨by omega, by have := Nat.mod_lt q (by omega : 10000 > 0); omega⟩)
    have e1 : (q : Int) % 10000 = ((q % 10000 : Nat) : Int) := by omega
    have e2 : (q : Int) / 10000 = ((q / 10000 : Nat) : Int) := by omega
    have hl2 : (out ++ [((q % 10000 : Nat) : Int)]).length = out.length + 1 := by simp
    have hl3 : out.length + (List.take 1 (List.drop 0 [((q % 10000 : Nat) : Int)])).length = (out ++ [((q % 10000 : Nat) : Int)]).length := by simp
    rw [hmg, List.length_cons] at h4
    (conv => whnf)
    (try simp only [e1, e2])
    repeat ((first | refine V.s1 ?_); (try simp only [e1, e2]))
    refine Cnd.split (CondB.mk (fun hneg => ?_) (fun hneg => ?_))
    · exfalso
      rw [decide_eq_true_eq] at hneg
      omega
    (conv => whnf)
    (try simp only [e1, e2, hl3])
    repeat ((first | refine V.s1 ?_); (try simp only [e1, e2, hl3]))
    try refine And.intro (fun _ => ⟨trivial, by omega⟩) ?_
    (conv => whnf)
    (try simp only [e1, e2, hl3])
    repeat ((first | refine V.s1 ?_); (try simp only [e1, e2, hl3]))
    exact ⟨(q / 10000, out ++ [((q % 10000 : Nat) : Int)]), ⟨hst, hdg, by dsimp only; omega, by dsimp only; omega⟩, hlt, V.wk⟩
  · have hq0 : q = 0 := by simp at hq; exact hq
    subst hq0
    have hv : val 10000 out = (n : Int) := by simpa using h1
    have hm := madeP_c false out h2 (by omega)
    rw [hv] at hm
    have e0 : decide ((n : Int) < 0) = false := by simp
    (conv => whnf)
    (try simp only [e0, List.take_length])
    repeat ((first | refine V.s1 ?_ | ((try ((with_reducible refine .ext ?_); (conv => whnf); (try simp only [e0, List.take_length]))); (with_reducible refine call_intro (r := ?_) ?_ ?_); rotate_left; (focus (first | exact (hm))); (conv => whnf))); (try simp only [e0, List.take_length]))
    exact Fin.of rfl
end Go.Proofs.YtpcpgjcdkgcbpaaGreatDoor
end
section
namespace Go.Proofs.YtpcpgjcdkgcbpaaGreatDoor
open Go Go.V Go.Nb
theorem integer_neg (n : Nat) (hn0 : 0 < n) (hn : n < 10000 ^ 5) : Called Tryz.prog 154 [.int .i64 (-(n : Int))] (plD (-(n : Int))) := by
  have hlen := mg_len_le (B := 10000) (by omega) hn
  have e00 : decide (-(n : Int) < 0) = true := by simp; omega
  refine called_of_run tbOk 6 ⟨Tryz.func154, rfl, rfl, Nat.le_of_ble_eq_true rfl⟩ ?_
  (conv => whnf)
  (conv => whnf)
  (try simp only [e00])
  repeat ((first | refine V.s1 ?_); (try simp only [e00]))
  refine Lp.ghostSlot 19 3 .i64 (by decide) ?_
  (conv => whnf)
  refine lp_any ((n, []) : Nat × List Int) (fun s => val 10000 s.2 + ((10000 : Nat) : Int) ^ s.2.length * s.1 = n ∧ Dg 10000 s.2 ∧ s.1 ≤ n ∧ s.2.length + (mg 10000 s.1).length = (mg 10000 n).length) (fun s => s.1) (fun s => [(0, .int .i64 (-(s.1 : Int))), (3, .osl 19 0 s.2.length)]) (fun s => [(19, .arr .i64 s.2)]) ?_ ?_ ?_
  · exact V.wk
  · exact ⟨by simp [val], fun x hx => by simp at hx, Nat.le_refl _, by simp⟩
  rintro ⟨q, out⟩ ⟨h1, h2, h3, h4⟩
  dsimp only at h1 h2 h3 h4 ⊢
  (conv => whnf)
  refine V.st ?_
  refine Cnd.split (CondB.mk (fun hq => ?_) (fun hq => ?_))
  · rw [decide_eq_true_eq] at hq
    have hq0 : 0 < q := by omega
    have hmg := mg_pos (B := 10000) (by omega) hq0
    have hst := dig_step (B := 10000) (by omega) h1
    have hlt : q / 10000 < q := Nat.div_lt_self hq0 (by omega)
    have hdg : Dg 10000 (out ++ [((q % 10000 : Nat) : Int)]) := dg_append h2 (dg_one ⟨by omega, by have := Nat.mod_lt q (by omega : 10000 > 0); omega⟩)
    have e1 : (-(q : Int)).tmod 10000 = -((q % 10000 : Nat) : Int) := by rw [Int.neg_tmod, Int.tmod_eq_emod_of_nonneg (by omega)]; simp
    have e2 : (-(q : Int)).tdiv 10000 = -((q / 10000 : Nat) : Int) := by rw [Int.neg_tdiv, Int.tdiv_eq_ediv_of_nonneg (by omega)]; simp
    have hl2 : (out ++ [((q % 10000 : Nat) : Int)]).length = out.length + 1 := by simp
    have hl3 : out.length + (List.take 1 (List.drop 0 [((q % 10000 : Nat) : Int)])).length = (out ++ [((q % 10000 : Nat) : Int)]).length := by simp
    have hme : 0 ≤ ((q % 10000 : Nat) : Int) ∧ ((q % 10000 : Nat) : Int) < 10000 := by have := Nat.mod_lt q (by omega : 10000 > 0); omega
    have hqe : 0 ≤ ((q / 10000 : Nat) : Int) ∧ ((q / 10000 : Nat) : Int) ≤ q := by have := Nat.div_le_self q 10000; omega
    rw [hmg, List.length_cons] at h4
    (conv => whnf)
    (try simp only [e1])
    repeat ((first | refine V.s1 ?_); (try simp only [e1]))
    refine Cnd.split (CondB.mk (fun hneg => ?_) (fun hneg => ?_))
    · rw [decide_eq_true_eq] at hneg
      have e3 : 0 - -((q % 10000 : Nat) : Int) = ((q % 10000 : Nat) : Int) := by omega
      (conv => whnf)
      (try simp only [e1, e2, e3, hl3])
      repeat ((first | refine V.s1 ?_); (try simp only [e1, e2, e3, hl3]))
      try refine And.intro (fun _ => ⟨trivial, by omega⟩) ?_
      (conv => whnf)
      (try simp only [e1, e2, e3, hl3])
      repeat ((first | refine V.s1 ?_); (try simp only [e1, e2, e3, hl3]))
      exact ⟨(q / 10000, out ++ [((q % 10000 : Nat) : Int)]), ⟨hst, hdg, by dsimp only; omega, by dsimp only; omega⟩, hlt, V.wk⟩
    · rw [decide_eq_false_iff_not] at hneg
      have e3 : -((q % 10000 : Nat) : Int) = ((q % 10000 : Nat) : Int) := by omega
      (conv => whnf)
      (try simp only [e1, e2, e3, hl3])
      repeat ((first | refine V.s1 ?_); (try simp only [e1, e2, e3, hl3]))
      try refine And.intro (fun _ => ⟨trivial, by omega⟩) ?_
      (conv => whnf)
      (try simp only [e1, e2, e3, hl3])
      repeat ((first | refine V.s1 ?_); (try simp only [e1, e2, e3, hl3]))
      exact ⟨(q / 10000, out ++ [((q % 10000 : Nat) : Int)]), ⟨hst, hdg, by dsimp only; omega, by dsimp only; omega⟩, hlt, V.wk⟩
  · have hq0 : q = 0 := by simp at hq; omega
    subst hq0
    have hv : val 10000 out = (n : Int) := by simpa using h1
    have hm := madeP_c true out h2 (by omega)
    rw [hv] at hm
    (conv => whnf)
    (try simp only [List.take_length])
    repeat ((first | refine V.s1 ?_ | ((try ((with_reducible refine .ext ?_); (conv => whnf); (try simp only [List.take_length]))); (with_reducible refine call_intro (r := ?_) ?_ ?_); rotate_left; (focus (first | exact (hm))); (conv => whnf))); (try simp only [List.take_length]))
    exact Fin.of rfl
theorem integer_c (z : Int) (h : InR .i64 z) : Called Tryz.prog 154 [.int .i64 z] (plD z) := by
  simp only [V.InR, V.lo, V.hi] at h
  rcases Int.le_total 0 z with h0 | h0
  · obtain ⟨n, rfl⟩ : ∃ n : Nat, z = n := ⟨z.toNat, by omega⟩
    exact integer_pos n (by omega)
  · rcases Int.lt_or_le z 0 with h1 | h1
    · obtain ⟨n, rfl⟩ : ∃ n : Nat, z = -(n : Int) := ⟨z.natAbs, by omega⟩
      exact integer_neg n (by omega) (by omega)
    · obtain rfl : z = 0 := by omega
      exact integer_pos 0 (by omega)
end Go.Proofs.YtpcpgjcdkgcbpaaGreatDoor
end
section
namespace Go.Nb
open Go
theorem pow_pos' {B : Nat} (hB : 2 ≤ B) (k : Nat) : (0 : Int) < (B : Int) ^ k := Int.pow_pos (by omega)
theorem mg_of_ge {B : Nat} (hB : 2 ≤ B) {l : List Int} (hd : Dg B l) (h : (B : Int) ^ (l.length - 1) ≤ val B l) : l = mg B (val B l).toNat := by
  refine mg_of hB hd fun x hx e => ?_
  subst e
  rcases List.eq_nil_or_concat l with rfl | ⟨r, y, rfl⟩
  · simp at hx
  · simp only [List.concat_eq_append] at *
    rw [List.getLast?_append] at hx
    simp at hx
    subst hx
    have h1 := val_lt (B := B) (l := r) fun y hy => hd y (by simp [hy])
    rw [val_snoc, List.length_append, List.length_singleton, Nat.add_sub_cancel] at h
    simp at h
    omega
theorem add_step {B : Nat} {out : List Int} {c u v x y d c' : Int} {k : Nat} (hk : out.length = k) (h : val B out + c * (B : Int) ^ k = u + v) (hs : d + c' * B = c + x + y) :
    val B (out ++ [d]) + c' * (B : Int) ^ (k + 1) = (u + (B : Int) ^ k * x) + (v + (B : Int) ^ k * y) := by
  rw [val_snoc, hk, Int.pow_succ]
  generalize (B : Int) ^ k = P at *
  have e1 : P * d + c' * (P * B) = P * (d + c' * B) := by rw [Int.mul_add]; congr 1; ac_rfl
  have e2 : P * (c + x + y) = c * P + P * x + P * y := by rw [Int.mul_add, Int.mul_add, Int.mul_comm P c]
  rw [hs, e2] at e1
  omega
theorem sub_step {B : Nat} {out : List Int} {b u v x y d b' : Int} {k : Nat} (hk : out.length = k) (h : val B out - b * (B : Int) ^ k = u - v) (hs : d - b' * B = x - y - b) :
    val B (out ++ [d]) - b' * (B : Int) ^ (k + 1) = (u + (B : Int) ^ k * x) - (v + (B : Int) ^ k * y) := by
  rw [val_snoc, hk, Int.pow_succ]
  generalize (B : Int) ^ k = P at *
  have e1 : P * d - b' * (P * B) = P * (d - b' * B) := by rw [Int.mul_sub]; congr 1; ac_rfl
  have e2 : P * (x - y - b) = P * x - P * y - b * P := by rw [Int.mul_sub, Int.mul_sub, Int.mul_comm P b]
  rw [hs, e2] at e1
  omega
end Go.Nb
end
section
namespace Go.Proofs.YtpcpgjcdkgcbpaaGreatDoor
open Go Go.V Go.Nb
theorem val_take_getD (B : Nat) (xs : List Int) (k : Nat) : val B (xs.take (k + 1)) = val B (xs.take k) + (B : Int) ^ k * xs.getD k 0 := by
  rcases Nat.lt_or_ge k xs.length with h | h
  · have h1 : xs[k]? = some (xs.getD k 0) := by rw [List.getD_eq_getElem?_getD, List.getElem?_eq_getElem h]; rfl
    exact val_take_succ h1
  · rw [List.take_of_length_le (by omega), List.take_of_length_le h, List.getD_eq_getElem?_getD, List.getElem?_eq_none h]
    simp
theorem dg_getD {B : Nat} (hB : 1 ≤ B) {xs : List Int} (hd : Dg B xs) (k : Nat) : 0 ≤ xs.getD k 0 ∧ xs.getD k 0 < B := by
  rcases Nat.lt_or_ge k xs.length with h | h
  · have h1 : xs[k]? = some (xs.getD k 0) := by rw [List.getD_eq_getElem?_getD, List.getElem?_eq_getElem h]; rfl
    exact hd _ (List.mem_of_getElem? h1)
  · rw [List.getD_eq_getElem?_getD, List.getElem?_eq_none h]
    simp; omega
theorem getD_ge {xs : List Int} {k : Nat} (h : xs.length ≤ k) : xs.getD k 0 = 0 := by
  rw [List.getD_eq_getElem?_getD, List.getElem?_eq_none h]; rfl
theorem sum_inv {k m n : Nat} {out : List Int} {c x y : Int} (h1 : out.length = k) (h2 : Dg 10000 out) (h3 : 0 ≤ c ∧ c ≤ 1) {P : Prop} (h5 : k ≤ max m n ∨ (k = max m n + 1 ∧ c = 0 ∧ P)) (hq : k < m ∨ k < n ∨ 0 < c) (gx : m ≤ k → x = 0) (gy : n ≤ k → y = 0) :
    k + 1 ≤ max m n ∨ (k + 1 = max m n + 1 ∧ (c + x + y) / 10000 = 0 ∧ ((10000 : Nat) : Int) ^ (max m n) ≤ val 10000 (out ++ [(c + x + y) % 10000])) := by
  rcases Nat.lt_or_ge k (max m n) with hm | hm
  · exact .inl (by omega)
  · have hk : k = max m n := by omega
    have e1 := gx (by omega)
    have e2 := gy (by omega)
    have e3 : c = 1 := by omega
    subst e1 e2 e3
    refine .inr ⟨by omega, by decide, ?_⟩
    rw [val_snoc, h1, ← hk]
    have := val_nonneg h2
    have e : (1 + 0 + 0 : Int) % 10000 = 1 := by decide
    rw [e]; omega
theorem sum_c (a b : Nat) (ha : (mg 10000 a).length ≤ 100000000) (hb : (mg 10000 b).length ≤ 100000000) : Called Tryz.prog 186 [.ints .i64 (mg 10000 a), .ints .i64 (mg 10000 b)] (.ints .i64 (mg 10000 (a + b))) := by
  have hdx := mg_dg (B := 10000) (by omega) a
  have hdy := mg_dg (B := 10000) (by omega) b
  have hvx := mg_val (B := 10000) (by omega) a
  have hvy := mg_val (B := 10000) (by omega) b
  have hpx := fun h => pow_le_mg (B := 10000) (n := a) (by omega) h
  have hpy := fun h => pow_le_mg (B := 10000) (n := b) (by omega) h
  have hex := mg_nil (B := 10000) (n := a) (by omega)
  have hey := mg_nil (B := 10000) (n := b) (by omega)
  generalize mg 10000 a = xs at *
  generalize mg 10000 b = ys at *
  refine called_of_run tbOk 6 ⟨Tryz.func186, rfl, rfl, Nat.le_of_ble_eq_true rfl⟩ ?_
  (conv => whnf)
  refine V.st ?_
  refine Lp.ghostSlot 48 5 .i64 (by decide) ?_
  (conv => whnf)
  refine lp_any ((0, [], 0) : Nat × List Int × Int) (fun s => s.2.1.length = s.1 ∧ Dg 10000 s.2.1 ∧ (0 ≤ s.2.2 ∧ s.2.2 ≤ 1) ∧ val 10000 s.2.1 + s.2.2 * ((10000 : Nat) : Int) ^ s.1 = val 10000 (xs.take s.1) + val 10000 (ys.take s.1) ∧ (s.1 ≤ max xs.length ys.length ∨ (s.1 = max xs.length ys.length + 1 ∧ s.2.2 = 0 ∧ ((10000 : Nat) : Int) ^ (max xs.length ys.length) ≤ val 10000 s.2.1))) (fun s => max xs.length ys.length + 2 - s.1)
    (fun s => [(7, .int .i64 s.1), (6, .int .i64 s.2.2), (5, .osl 48 0 s.2.1.length)]) (fun s => [(48, .arr .i64 s.2.1)]) ?_ ?_ ?_
  · exact V.wk
  · exact ⟨rfl, fun x hx => by simp at hx, by simp, by simp [val], .inl (by simp)⟩
  rintro ⟨k, out, c⟩ ⟨h1, h2, h3, h4, h5⟩
  dsimp only at h1 h2 h3 h4 h5 ⊢
  have vx := val_take_getD 10000 xs k
  have vy := val_take_getD 10000 ys k
  have bx := dg_getD (by omega) hdx k
  have by' := dg_getD (by omega) hdy k
  have gx := getD_ge (xs := xs) (k := k)
  have gy := getD_ge (xs := ys) (k := k)
  generalize hx0 : xs.getD k 0 = x at *
  generalize hy0 : ys.getD k 0 = y at *
  (conv => whnf)
  refine V.st ?_
  refine Cnd.split (CondB.mk (fun hq => ?_) (fun hq => ?_))
  · simp only [Bool.or_eq_true, decide_eq_true_eq] at hq
    (conv => whnf)
    refine V.st ?_
    refine Cnd.split (CondB.mk (fun hx => ?_) (fun hx => ?_))
    · rw [decide_eq_true_eq] at hx
      (conv => whnf)
      (try simp only [Int.toNat_natCast, hx0])
      repeat ((first | refine V.s1 ?_); (try simp only [Int.toNat_natCast, hx0]))
      refine Cnd.split (CondB.mk (fun hy => ?_) (fun hy => ?_))
      · rw [decide_eq_true_eq] at hy
        (conv => whnf)
        (try simp only [Int.toNat_natCast, hy0])
        repeat ((first | refine V.s1 ?_); (try simp only [Int.toNat_natCast, hy0]))
        have hE : c + x + y = c + x + y := by omega
        rw [hE]
        have hd0 : 0 ≤ (c + x + y) % 10000 ∧ (c + x + y) % 10000 < 10000 := ⟨Int.emod_nonneg _ (by omega), Int.emod_lt_of_pos _ (by omega)⟩
        have hst := add_step (B := 10000) (x := x) (y := y) (d := (c + x + y) % 10000) (c' := (c + x + y) / 10000) h1 h4 (by have := Int.emod_add_mul_ediv (c + x + y) 10000; omega)
        rw [← vx, ← vy] at hst
        have hdg : Dg 10000 (out ++ [(c + x + y) % 10000]) := dg_append h2 (dg_one hd0)
        have hl2 : (out ++ [(c + x + y) % 10000]).length = k + 1 := by simp [h1]
        have hl3 : out.length + (List.take 1 (List.drop 0 [(c + x + y) % 10000])).length = (out ++ [(c + x + y) % 10000]).length := by simp
        have hkc : ((k : Int) + 1) = ((k + 1 : Nat) : Int) := by omega
        (conv => whnf)
        (try simp only [hl3, hkc])
        repeat ((first | refine V.s1 ?_); (try simp only [hl3, hkc]))
        try refine And.intro (fun _ => ⟨trivial, by omega⟩) ?_
        (conv => whnf)
        (try simp only [hl3, hkc])
        repeat ((first | refine V.s1 ?_); (try simp only [hl3, hkc]))
        exact ⟨(k + 1, out ++ [(c + x + y) % 10000], (c + x + y) / 10000), ⟨hl2, hdg, by dsimp only; omega, hst, sum_inv h1 h2 h3 h5 (by omega) gx gy⟩, by dsimp only; omega, V.wk⟩
      · rw [decide_eq_false_iff_not] at hy
        have := gy (by omega)
        (conv => whnf)
        refine V.st ?_
        have hE : c + x = c + x + y := by omega
        rw [hE]
        have hd0 : 0 ≤ (c + x + y) % 10000 ∧ (c + x + y) % 10000 < 10000 := ⟨Int.emod_nonneg _ (by omega), Int.emod_lt_of_pos _ (by omega)⟩
        have hst := add_step (B := 10000) (x := x) (y := y) (d := (c + x + y) % 10000) (c' := (c + x + y) / 10000) h1 h4 (by have := Int.emod_add_mul_ediv (c + x + y) 10000; omega)
        rw [← vx, ← vy] at hst
        have hdg : Dg 10000 (out ++ [(c + x + y) % 10000]) := dg_append h2 (dg_one hd0)
        have hl2 : (out ++ [(c + x + y) % 10000]).length = k + 1 := by simp [h1]
        have hl3 : out.length + (List.take 1 (List.drop 0 [(c + x + y) % 10000])).length = (out ++ [(c + x + y) % 10000]).length := by simp
        have hkc : ((k : Int) + 1) = ((k + 1 : Nat) : Int) := by omega
        (conv => whnf)
        (try simp only [hl3, hkc])
        repeat ((first | refine V.s1 ?_); (try simp only [hl3, hkc]))
        try refine And.intro (fun _ => ⟨trivial, by omega⟩) ?_
        (conv => whnf)
        (try simp only [hl3, hkc])
        repeat ((first | refine V.s1 ?_); (try simp only [hl3, hkc]))
        exact ⟨(k + 1, out ++ [(c + x + y) % 10000], (c + x + y) / 10000), ⟨hl2, hdg, by dsimp only; omega, hst, sum_inv h1 h2 h3 h5 (by omega) gx gy⟩, by dsimp only; omega, V.wk⟩
    · rw [decide_eq_false_iff_not] at hx
      have := gx (by omega)
      (conv => whnf)
      refine V.st ?_
      refine Cnd.split (CondB.mk (fun hy => ?_) (fun hy => ?_))
      · rw [decide_eq_true_eq] at hy
        (conv => whnf)
        (try simp only [Int.toNat_natCast, hy0])
        repeat ((first | refine V.s1 ?_); (try simp only [Int.toNat_natCast, hy0]))
        have hE : c + y = c + x + y := by omega
        rw [hE]
        have hd0 : 0 ≤ (c + x + y) % 10000 ∧ (c + x + y) % 10000 < 10000 := ⟨Int.emod_nonneg _ (by omega), Int.emod_lt_of_pos _ (by omega)⟩
        have hst := add_step (B := 10000) (x := x) (y := y) (d := (c + x + y) % 10000) (c' := (c + x + y) / 10000) h1 h4 (by have := Int.emod_add_mul_ediv (c + x + y) 10000; omega)
        rw [← vx, ← vy] at hst
        have hdg : Dg 10000 (out ++ [(c + x + y) % 10000]) := dg_append h2 (dg_one hd0)
        have hl2 : (out ++ [(c + x + y) % 10000]).length = k + 1 := by simp [h1]
        have hl3 : out.length + (List.take 1 (List.drop 0 [(c + x + y) % 10000])).length = (out ++ [(c + x + y) % 10000]).length := by simp
        have hkc : ((k : Int) + 1) = ((k + 1 : Nat) : Int) := by omega
        (conv => whnf)
        (try simp only [hl3, hkc])
        repeat ((first | refine V.s1 ?_); (try simp only [hl3, hkc]))
        try refine And.intro (fun _ => ⟨trivial, by omega⟩) ?_
        (conv => whnf)
        (try simp only [hl3, hkc])
        repeat ((first | refine V.s1 ?_); (try simp only [hl3, hkc]))
        exact ⟨(k + 1, out ++ [(c + x + y) % 10000], (c + x + y) / 10000), ⟨hl2, hdg, by dsimp only; omega, hst, sum_inv h1 h2 h3 h5 (by omega) gx gy⟩, by dsimp only; omega, V.wk⟩
      · rw [decide_eq_false_iff_not] at hy
        have := gy (by omega)
        (conv => whnf)
        refine V.st ?_
        have hE : c = c + x + y := by omega
        rw [hE]
        have hd0 : 0 ≤ (c + x + y) % 10000 ∧ (c + x + y) % 10000 < 10000 := ⟨Int.emod_nonneg _ (by omega), Int.emod_lt_of_pos _ (by omega)⟩
        have hst := add_step (B := 10000) (x := x) (y := y) (d := (c + x + y) % 10000) (c' := (c + x + y) / 10000) h1 h4 (by have := Int.emod_add_mul_ediv (c + x + y) 10000; omega)
        rw [← vx, ← vy] at hst
        have hdg : Dg 10000 (out ++ [(c + x + y) % 10000]) := dg_append h2 (dg_one hd0)
        have hl2 : (out ++ [(c + x + y) % 10000]).length = k + 1 := by simp [h1]
        have hl3 : out.length + (List.take 1 (List.drop 0 [(c + x + y) % 10000])).length = (out ++ [(c + x + y) % 10000]).length := by simp
        have hkc : ((k : Int) + 1) = ((k + 1 : Nat) : Int) := by omega
        (conv => whnf)
        (try simp only [hl3, hkc])
        repeat ((first | refine V.s1 ?_); (try simp only [hl3, hkc]))
        try refine And.intro (fun _ => ⟨trivial, by omega⟩) ?_
        (conv => whnf)
        (try simp only [hl3, hkc])
        repeat ((first | refine V.s1 ?_); (try simp only [hl3, hkc]))
        exact ⟨(k + 1, out ++ [(c + x + y) % 10000], (c + x + y) / 10000), ⟨hl2, hdg, by dsimp only; omega, hst, sum_inv h1 h2 h3 h5 (by omega) gx gy⟩, by dsimp only; omega, V.wk⟩
  · simp only [Bool.or_eq_false_iff, decide_eq_false_iff_not] at hq
    have hc : c = 0 := by omega
    have hkm : max xs.length ys.length ≤ k := by omega
    subst hc
    rw [List.take_of_length_le (by omega), List.take_of_length_le (by omega), hvx, hvy, Int.zero_mul, Int.add_zero] at h4
    have hge : ((10000 : Nat) : Int) ^ (out.length - 1) ≤ val 10000 out ∨ (out = [] ∧ a + b = 0) := by
      rcases h5 with h5 | h5
      · rcases Nat.eq_zero_or_pos (a + b) with h0 | h0
        · right
          have e1 := hex.mpr (by omega)
          have e2 := hey.mpr (by omega)
          subst e1 e2
          have : k = 0 := by simpa using h5
          exact ⟨List.length_eq_zero_iff.mp (by omega), h0⟩
        · left
          rw [h4, h1]
          have hk : k = max xs.length ys.length := by omega
          rcases Nat.lt_or_ge xs.length ys.length with hl | hl
          · have hb0 : 0 < b := Nat.pos_of_ne_zero fun h => by
              rw [← hey] at h; rw [h] at hl; simp at hl
            have h9 := hpy hb0
            have hk' : k = ys.length := by omega
            rw [← hk'] at h9
            have h8 : (((10000 ^ (k - 1) : Nat)) : Int) ≤ (b : Int) := by exact_mod_cast h9
            rw [Int.natCast_pow] at h8
            omega
          · have ha0 : 0 < a := Nat.pos_of_ne_zero fun h => by
              have h' := h
              rw [← hex] at h'
              rw [h'] at hl
              have : ys = [] := List.length_eq_zero_iff.mp (by simpa using hl)
              have := hey.mp this
              omega
            have h9 := hpx ha0
            have hk' : k = xs.length := by omega
            rw [← hk'] at h9
            have h8 : (((10000 ^ (k - 1) : Nat)) : Int) ≤ (a : Int) := by exact_mod_cast h9
            rw [Int.natCast_pow] at h8
            omega
      · left
        rw [h1, h5.1]
        exact h5.2.2
    have hout : out = mg 10000 (a + b) := by
      rcases hge with hge | hge
      · have := mg_of_ge (by omega) h2 hge
        rw [this, h4]; congr 1
      · rw [hge.1, hge.2]; rfl
    (conv => whnf)
    refine V.st ?_
    exact Fin.of (by rw [List.take_length, hout])
end Go.Proofs.YtpcpgjcdkgcbpaaGreatDoor
end
section
namespace Go.Proofs.YtpcpgjcdkgcbpaaGreatDoor
open Go Go.V Go.Nb
theorem difference_c (a b : Nat) (hba : b ≤ a) (ha : (mg 10000 a).length ≤ 100000000) : Called Tryz.prog 175 [.ints .i64 (mg 10000 a), .ints .i64 (mg 10000 b)] (.ints .i64 (mg 10000 (a - b))) := by
  have hdx := mg_dg (B := 10000) (by omega) a
  have hdy := mg_dg (B := 10000) (by omega) b
  have hvx := mg_val (B := 10000) (by omega) a
  have hvy := mg_val (B := 10000) (by omega) b
  have hlen := mg_len_mono (B := 10000) (by omega) hba
  generalize mg 10000 a = xs at *
  generalize mg 10000 b = ys at *
  refine called_of_run tbOk 6 ⟨Tryz.func175, rfl, rfl, Nat.le_of_ble_eq_true rfl⟩ ?_
  (conv => whnf)
  refine V.st ?_
  refine Lp.ghostSlot 38 5 .i64 (by decide) ?_
  (conv => whnf)
  refine lp_any ((0, [], 0) : Nat × List Int × Int) (fun s => s.2.1.length = s.1 ∧ Dg 10000 s.2.1 ∧ (0 ≤ s.2.2 ∧ s.2.2 ≤ 1) ∧ val 10000 s.2.1 - s.2.2 * ((10000 : Nat) : Int) ^ s.1 = val 10000 (xs.take s.1) - val 10000 (ys.take s.1) ∧ s.1 ≤ xs.length) (fun s => xs.length + 2 - s.1)
    (fun s => [(7, .int .i64 s.1), (6, .int .i64 s.2.2), (5, .osl 38 0 s.2.1.length)]) (fun s => [(38, .arr .i64 s.2.1)]) ?_ ?_ ?_
  · exact V.wk
  · exact ⟨rfl, fun x hx => by simp at hx, by simp, by simp [val], by simp⟩
  rintro ⟨k, out, bw⟩ ⟨h1, h2, h3, h4, h5⟩
  dsimp only at h1 h2 h3 h4 h5 ⊢
  have vx := val_take_getD 10000 xs k
  have vy := val_take_getD 10000 ys k
  have bx := dg_getD (by omega) hdx k
  have by' := dg_getD (by omega) hdy k
  have gy := getD_ge (xs := ys) (k := k)
  generalize hx0 : xs.getD k 0 = x at *
  generalize hy0 : ys.getD k 0 = y at *
  (conv => whnf)
  refine V.st ?_
  refine Cnd.split (CondB.mk (fun hq => ?_) (fun hq => ?_))
  · rw [decide_eq_true_eq] at hq
    (conv => whnf)
    (try simp only [Int.toNat_natCast, hx0])
    repeat ((first | refine V.s1 ?_); (try simp only [Int.toNat_natCast, hx0]))
    refine Cnd.split (CondB.mk (fun hy => ?_) (fun hy => ?_))
    · rw [decide_eq_true_eq] at hy
      (conv => whnf)
      (try simp only [Int.toNat_natCast, hy0])
      repeat ((first | refine V.s1 ?_); (try simp only [Int.toNat_natCast, hy0]))
      refine Cnd.split (CondB.mk (fun hz => ?_) (fun hz => ?_))
      · rw [decide_eq_true_eq] at hz
        have hE : x - bw - y = x - y - bw := by omega
        rw [hE]
        have hst := sub_step (B := 10000) (x := x) (y := y) (d := (x - y - bw + 10000)) (b' := 1) h1 h4 (by omega)
        rw [← vx, ← vy] at hst
        have hdg : Dg 10000 (out ++ [(x - y - bw + 10000)]) := dg_append h2 (dg_one (by omega))
        have hl2 : (out ++ [(x - y - bw + 10000)]).length = k + 1 := by simp [h1]
        have hl3 : out.length + (List.take 1 (List.drop 0 [(x - y - bw + 10000)])).length = (out ++ [(x - y - bw + 10000)]).length := by simp
        have hkc : ((k : Int) + 1) = ((k + 1 : Nat) : Int) := by omega
        (conv => whnf)
        (try simp only [hl3, hkc])
        repeat ((first | refine V.s1 ?_); (try simp only [hl3, hkc]))
        try refine And.intro (fun _ => ⟨trivial, by omega⟩) ?_
        (conv => whnf)
        (try simp only [hl3, hkc])
        repeat ((first | refine V.s1 ?_); (try simp only [hl3, hkc]))
        exact ⟨(k + 1, out ++ [(x - y - bw + 10000)], 1), ⟨hl2, hdg, by dsimp only; omega, hst, by dsimp only; omega⟩, by dsimp only; omega, V.wk⟩
      · rw [decide_eq_false_iff_not] at hz
        have hE : x - bw - y = x - y - bw := by omega
        rw [hE]
        have hst := sub_step (B := 10000) (x := x) (y := y) (d := (x - y - bw)) (b' := 0) h1 h4 (by omega)
        rw [← vx, ← vy] at hst
        have hdg : Dg 10000 (out ++ [(x - y - bw)]) := dg_append h2 (dg_one (by omega))
        have hl2 : (out ++ [(x - y - bw)]).length = k + 1 := by simp [h1]
        have hl3 : out.length + (List.take 1 (List.drop 0 [(x - y - bw)])).length = (out ++ [(x - y - bw)]).length := by simp
        have hkc : ((k : Int) + 1) = ((k + 1 : Nat) : Int) := by omega
        (conv => whnf)
        (try simp only [hl3, hkc])
        repeat ((first | refine V.s1 ?_); (try simp only [hl3, hkc]))
        try refine And.intro (fun _ => ⟨trivial, by omega⟩) ?_
        (conv => whnf)
        (try simp only [hl3, hkc])
        repeat ((first | refine V.s1 ?_); (try simp only [hl3, hkc]))
        exact ⟨(k + 1, out ++ [(x - y - bw)], 0), ⟨hl2, hdg, by dsimp only; omega, hst, by dsimp only; omega⟩, by dsimp only; omega, V.wk⟩
    · rw [decide_eq_false_iff_not] at hy
      have := gy (by omega)
      (conv => whnf)
      refine V.st ?_
      refine Cnd.split (CondB.mk (fun hz => ?_) (fun hz => ?_))
      · rw [decide_eq_true_eq] at hz
        have hE : x - bw = x - y - bw := by omega
        rw [hE]
        have hst := sub_step (B := 10000) (x := x) (y := y) (d := (x - y - bw + 10000)) (b' := 1) h1 h4 (by omega)
        rw [← vx, ← vy] at hst
        have hdg : Dg 10000 (out ++ [(x - y - bw + 10000)]) := dg_append h2 (dg_one (by omega))
        have hl2 : (out ++ [(x - y - bw + 10000)]).length = k + 1 := by simp [h1]
        have hl3 : out.length + (List.take 1 (List.drop 0 [(x - y - bw + 10000)])).length = (out ++ [(x - y - bw + 10000)]).length := by simp
        have hkc : ((k : Int) + 1) = ((k + 1 : Nat) : Int) := by omega
        (conv => whnf)
        (try simp only [hl3, hkc])
        repeat ((first | refine V.s1 ?_); (try simp only [hl3, hkc]))
        try refine And.intro (fun _ => ⟨trivial, by omega⟩) ?_
        (conv => whnf)
        (try simp only [hl3, hkc])
        repeat ((first | refine V.s1 ?_); (try simp only [hl3, hkc]))
        exact ⟨(k + 1, out ++ [(x - y - bw + 10000)], 1), ⟨hl2, hdg, by dsimp only; omega, hst, by dsimp only; omega⟩, by dsimp only; omega, V.wk⟩
      · rw [decide_eq_false_iff_not] at hz
        have hE : x - bw = x - y - bw := by omega
        rw [hE]
        have hst := sub_step (B := 10000) (x := x) (y := y) (d := (x - y - bw)) (b' := 0) h1 h4 (by omega)
        rw [← vx, ← vy] at hst
        have hdg : Dg 10000 (out ++ [(x - y - bw)]) := dg_append h2 (dg_one (by omega))
        have hl2 : (out ++ [(x - y - bw)]).length = k + 1 := by simp [h1]
        have hl3 : out.length + (List.take 1 (List.drop 0 [(x - y - bw)])).length = (out ++ [(x - y - bw)]).length := by simp
        have hkc : ((k : Int) + 1) = ((k + 1 : Nat) : Int) := by omega
        (conv => whnf)
        (try simp only [hl3, hkc])
        repeat ((first | refine V.s1 ?_); (try simp only [hl3, hkc]))
        try refine And.intro (fun _ => ⟨trivial, by omega⟩) ?_
        (conv => whnf)
        (try simp only [hl3, hkc])
        repeat ((first | refine V.s1 ?_); (try simp only [hl3, hkc]))
        exact ⟨(k + 1, out ++ [(x - y - bw)], 0), ⟨hl2, hdg, by dsimp only; omega, hst, by dsimp only; omega⟩, by dsimp only; omega, V.wk⟩
  · rw [decide_eq_false_iff_not] at hq
    have hk : k = xs.length := by omega
    rw [List.take_of_length_le (by omega), List.take_of_length_le (by omega), hvx, hvy] at h4
    have hlt := val_lt h2
    have hnn := val_nonneg h2
    rw [h1] at hlt
    have hbw : bw = 0 := by
      rcases (by omega : bw = 0 ∨ bw = 1) with e | e
      · exact e
      · subst e; omega
    subst hbw
    rw [Int.zero_mul, Int.sub_zero] at h4
    have hc := cut_c out h2 (by omega)
    rw [h4] at hc
    have e1 : ((a : Int) - (b : Int)).toNat = a - b := by omega
    rw [e1] at hc
    have hc2 : Called Tryz.prog 171 [.ints .i64 (List.take out.length out)] (.ints .i64 (mg 10000 (a - b))) := by rw [List.take_length]; exact hc
    (conv => whnf)
    refine V.st ?_
    repeat ((try ((with_reducible refine .ext ?_); (conv => whnf))); (with_reducible refine call_intro (r := ?_) ?_ ?_); rotate_left; (focus (first | exact (hc2))); (conv => whnf); refine V.st ?_)
    exact Fin.of rfl
end Go.Proofs.YtpcpgjcdkgcbpaaGreatDoor
end
section
namespace Go.Proofs.YtpcpgjcdkgcbpaaGreatDoor
open Go Go.V Go.Nb
def ordR (xs ys : List Int) : Nat → Int
  | 0 => 0
  | k + 1 => if xs.getD k 0 = ys.getD k 0 then ordR xs ys k else xs.getD k 0 - ys.getD k 0
def ordV (xs ys : List Int) : Int := if xs.length = ys.length then ordR xs ys xs.length else (xs.length : Int) - ys.length
theorem val_take_lt {B : Nat} (hB : 2 ≤ B) {xs : List Int} (hd : Dg B xs) (k : Nat) : val B (xs.take k) < (B : Int) ^ k := by
  have h := val_lt (dg_take hd k)
  have h2 : B ^ (xs.take k).length ≤ B ^ k := Nat.pow_le_pow_right (by omega) (by rw [List.length_take]; omega)
  have h3 : (((B ^ (xs.take k).length : Nat)) : Int) ≤ ((B ^ k : Nat) : Int) := by exact_mod_cast h2
  rw [Int.natCast_pow, Int.natCast_pow] at h3
  omega
theorem ordR_sign {B : Nat} (hB : 2 ≤ B) {xs ys : List Int} (hx : Dg B xs) (hy : Dg B ys) : ∀ k, (ordR xs ys k < 0 ↔ val B (xs.take k) < val B (ys.take k)) ∧ (ordR xs ys k = 0 ↔ val B (xs.take k) = val B (ys.take k))
  | 0 => by simp [ordR]
  | k + 1 => by
    obtain ⟨i1, i2⟩ := ordR_sign hB hx hy k
    rw [val_take_getD, val_take_getD, ordR]
    have l1 := val_take_lt hB hx k
    have l2 := val_take_lt hB hy k
    have n1 := val_nonneg (dg_take hx k)
    have n2 := val_nonneg (dg_take hy k)
    generalize xs.getD k 0 = x
    generalize ys.getD k 0 = y
    generalize val B (xs.take k) = u at *
    generalize val B (ys.take k) = v at *
    generalize (B : Int) ^ k = P at *
    by_cases e : x = y
    · subst e; rw [if_pos rfl]; omega
    · rw [if_neg e]
      rcases Int.lt_or_gt_of_ne e with h | h
      · have : P * (x + 1) ≤ P * y := Int.mul_le_mul_of_nonneg_left (by omega) (by omega)
        rw [Int.mul_add, Int.mul_one] at this
        omega
      · have : P * (y + 1) ≤ P * x := Int.mul_le_mul_of_nonneg_left (by omega) (by omega)
        rw [Int.mul_add, Int.mul_one] at this
        omega
theorem ordV_signB {B : Nat} (hB : 2 ≤ B) (a b : Nat) : (ordV (mg B a) (mg B b) < 0 ↔ a < b) ∧ (ordV (mg B a) (mg B b) = 0 ↔ a = b) := by
  unfold ordV
  have m1 := fun h : a ≤ b => mg_len_mono (B := B) hB h
  have m2 := fun h : b ≤ a => mg_len_mono (B := B) hB h
  by_cases e : (mg B a).length = (mg B b).length
  · rw [if_pos e]
    have h := ordR_sign hB (mg_dg (B := B) hB a) (mg_dg (B := B) hB b) (mg B a).length
    rw [List.take_of_length_le (Nat.le_refl _), List.take_of_length_le (by omega), mg_val hB, mg_val hB] at h
    omega
  · rw [if_neg e]
    rcases Nat.lt_trichotomy a b with h | h | h
    · have := m1 (by omega); omega
    · subst h; exact absurd rfl e
    · have := m2 (by omega); omega
theorem ordV_sign (a b : Nat) : (ordV (mg 10000 a) (mg 10000 b) < 0 ↔ a < b) ∧ (ordV (mg 10000 a) (mg 10000 b) = 0 ↔ a = b) := ordV_signB (by omega) a b
end Go.Proofs.YtpcpgjcdkgcbpaaGreatDoor
end
section
namespace Go.Proofs.YtpcpgjcdkgcbpaaGreatDoor
open Go Go.V Go.Nb
theorem val_set (B : Nat) (d : Int) : ∀ (l : List Int) (k : Nat), k < l.length → val B (l.set k d) = val B l + (B : Int) ^ k * (d - l.getD k 0)
  | [], k, h => by simp at h
  | x :: l, 0, _ => by simp [val]; omega
  | x :: l, k + 1, h => by
    have ih := val_set B d l k (by simpa using h)
    simp only [List.set_cons_succ, val, List.getD_cons_succ]
    rw [ih, Int.pow_succ, Int.mul_add]
    generalize (B : Int) ^ k = P
    have : (B : Int) * (P * (d - l.getD k 0)) = P * B * (d - l.getD k 0) := by ac_rfl
    omega
theorem dg_set {B : Nat} {l : List Int} {k : Nat} {d : Int} (h : Dg B l) (hd : 0 ≤ d ∧ d < B) : Dg B (l.set k d) := fun x hx => by
  rcases List.mem_or_eq_of_mem_set hx with h1 | h1
  · exact h x h1
  · subst h1; exact hd
end Go.Proofs.YtpcpgjcdkgcbpaaGreatDoor
end
section
namespace Go.Proofs.YtpcpgjcdkgcbpaaGreatDoor
open Go Go.V Go.Nb
theorem prod_step {B : Nat} {o : List Int} {i j : Nat} {c q x y U Y d c' : Int} (hlt : i + j < o.length) (hq : o.getD (i + j) 0 = q) (h : val B o + (B : Int) ^ (i + j) * c = U + (B : Int) ^ i * x * Y) (hs : d + c' * B = c + q + x * y) :
    val B (o.set (i + j) d) + (B : Int) ^ (i + (j + 1)) * c' = U + (B : Int) ^ i * x * (Y + (B : Int) ^ j * y) := by
  rw [val_set B d o (i + j) hlt, hq, ← Nat.add_assoc, Int.pow_succ]
  have e0 : (B : Int) ^ i * x * (Y + (B : Int) ^ j * y) = (B : Int) ^ i * x * Y + (B : Int) ^ (i + j) * (x * y) := by
    rw [Int.mul_add, Int.pow_add]; congr 1; ac_rfl
  rw [e0]
  generalize (B : Int) ^ (i + j) = P at *
  have e1 : P * (d + c' * B) = P * d + P * B * c' := by rw [Int.mul_add]; congr 1; ac_rfl
  rw [hs] at e1
  have e2 : P * (c + q + x * y) = P * c + P * q + P * (x * y) := by rw [Int.mul_add, Int.mul_add]
  rw [Int.mul_sub]
  omega
theorem prod_end {B : Nat} {o xs : List Int} {i n : Nat} {c x YS : Int} (hlt : i + n < o.length) (hq : o.getD (i + n) 0 = 0) (h : val B o + (B : Int) ^ (i + n) * c = val B (xs.take i) * YS + (B : Int) ^ i * x * YS) (hx : xs.getD i 0 = x) :
    val B (o.set (i + n) c) = val B (xs.take (i + 1)) * YS := by
  rw [val_set B c o (i + n) hlt, hq, val_take_getD, hx, Int.add_mul, Int.sub_zero]
  exact h
theorem getD_set_ne {l : List Int} {i k : Nat} {d : Int} (h : i ≠ k) : (l.set i d).getD k 0 = l.getD k 0 := by
  simp [List.getD_eq_getElem?_getD, List.getElem?_set, h]
theorem getD_set_eq {l : List Int} {i : Nat} {d : Int} (h : i < l.length) : (l.set i d).getD i 0 = d := by
  simp [List.getD_eq_getElem?_getD, List.getElem?_set, h]
theorem val_drop {B : Nat} {l : List Int} {k : Nat} (h : k < l.length) : val B (l.drop k) = l.getD k 0 + B * val B (l.drop (k + 1)) := by
  rw [List.drop_eq_getElem_cons h, val]
  congr 1
  simp [List.getD_eq_getElem?_getD, h]
theorem drop_set_gt {l : List Int} {i k : Nat} {d : Int} (h : i < k) : (l.set i d).drop k = l.drop k := by
  rw [List.drop_set_of_lt h]
theorem once_step {B : Nat} {xs out : List Int} {k : Nat} {d r x t : Int} (hk : k < xs.length) (hl : k < out.length) (hx : xs.getD k 0 = x) (h : val B (xs.drop (k + 1)) = val B (out.drop (k + 1)) * d + r) (ht : t = r * B + x) :
    val B (xs.drop k) = val B ((out.set k (t / d)).drop k) * d + t % d := by
  have e0 := val_drop (B := B) (l := out.set k (t / d)) (k := k) (by rw [List.length_set]; exact hl)
  rw [getD_set_eq hl, drop_set_gt (l := out) (i := k) (k := k + 1) (by omega)] at e0
  rw [val_drop hk, e0, hx, h]
  have := Int.emod_add_mul_ediv t d
  have e1 : (t / d + (B : Int) * val B (out.drop (k + 1))) * d = d * (t / d) + B * (val B (out.drop (k + 1)) * d) := by rw [Int.add_mul]; congr 1 <;> ac_rfl
  rw [e1, Int.mul_add]
  have e2 : (B : Int) * r = r * B := Int.mul_comm _ _
  omega
theorem once_bounds {B : Nat} {d r x : Int} (hd : 0 < d) (hr : 0 ≤ r ∧ r < d) (hx : 0 ≤ x ∧ x < B) : 0 ≤ (r * B + x) / d ∧ (r * B + x) / d < B ∧ 0 ≤ (r * B + x) % d ∧ (r * B + x) % d < d := by
  have h0 : 0 ≤ r * (B : Int) := Int.mul_nonneg hr.1 (by omega)
  refine ⟨Int.ediv_nonneg (by omega) (by omega), ?_, Int.emod_nonneg _ (by omega), Int.emod_lt_of_pos _ hd⟩
  refine Int.ediv_lt_of_lt_mul hd ?_
  have h1 : (r + 1) * (B : Int) ≤ d * B := Int.mul_le_mul_of_nonneg_right (by omega) (by omega)
  rw [Int.add_mul, Int.one_mul] at h1
  rw [Int.mul_comm d (B : Int)] at h1
  omega
end Go.Proofs.YtpcpgjcdkgcbpaaGreatDoor
end
section
namespace Go.Proofs.YtpcpgjcdkgcbpaaGreatDoor
open Go Go.V Go.Nb
theorem order_c (xs ys : List Int) (ha : xs.length ≤ 100000000) (hb : ys.length ≤ 100000000) (hdx : Dg 10000 xs) (hdy : Dg 10000 ys) : Called Tryz.prog 173 [.ints .i64 xs, .ints .i64 ys] (.int .i64 (ordV xs ys)) := by
  refine called_of_run tbOk 6 ⟨Tryz.func173, rfl, rfl, Nat.le_of_ble_eq_true rfl⟩ ?_
  (conv => whnf)
  refine V.st ?_
  refine Cnd.split (CondB.mk (fun hq => ?_) (fun hq => ?_))
  · rw [decide_eq_true_eq] at hq
    (conv => whnf)
    refine V.st ?_
    exact Fin.of (by unfold ordV; rw [if_neg (by omega)])
  · rw [decide_eq_false_iff_not] at hq
    have hq' : xs.length = ys.length := by omega
    (conv => whnf)
    refine V.st ?_
    refine lp_any (xs.length) (fun k => k ≤ xs.length ∧ ordR xs ys k = ordR xs ys xs.length) (fun k => k) (fun k => [(5, .int .i64 ((k : Int) - 1))]) (fun k => []) ?_ ?_ ?_
    · exact V.wk
    · exact ⟨Nat.le_refl _, rfl⟩
    intro k hk
    have bx := dg_getD (by omega) hdx (k - 1)
    have by' := dg_getD (by omega) hdy (k - 1)
    (conv => whnf)
    refine V.st ?_
    refine Cnd.split (CondB.mk (fun hz => ?_) (fun hz => ?_))
    · rw [decide_eq_true_eq] at hz
      (conv => whnf)
      refine V.st ?_
      refine ⟨(.take 0 (.take 1 (.take 2 (.take 3 (.take 4 (.take 5 (.take 6 (.take 7 (.take 8 (.done)))))))))), [], ⟨by kernel_rfl, by kernel_rfl, by kernel_rfl, by kernel_rfl⟩, .go (drawD_one ?_)⟩
      (conv => whnf)
      refine V.st ?_
      have hk0 : 0 < k := by omega
      obtain ⟨j, rfl⟩ : ∃ j, k = j + 1 := ⟨k - 1, by omega⟩
      have e1 : ((((j + 1 : Nat) : Int) - 1).toNat) = j := by omega
      have e2 : (((j + 1 : Nat) : Int) - 1) = (j : Int) := by omega
      have hr := hk.2
      rw [ordR] at hr
      refine Cnd.split (CondB.mk (fun hn => ?_) (fun hn => ?_))
      · rw [decide_eq_true_eq, e1] at hn
        (conv => whnf)
        refine V.st ?_
        refine ⟨(.take 0 (.take 1 (.take 2 (.take 3 (.take 4 (.take 5 (.take 6 (.take 7 (.take 8 (.take 9 (.done))))))))))), [], ⟨by kernel_rfl, by kernel_rfl, by kernel_rfl, by kernel_rfl⟩, .go (drawD_one ?_)⟩
        (conv => whnf)
        refine V.st ?_
        rw [Nat.add_sub_cancel] at bx by'
        rw [e1]
        generalize xs.getD j 0 = x at *
        generalize ys.getD j 0 = y at *
        refine And.intro (fun _ _ _ => ?_) ?_
        · refine ⟨?_, ?_⟩ <;> simp only [V.lo, V.hi] <;> omega
        (conv => whnf)
        refine V.st ?_
        exact Fin.of (by unfold ordV; rw [if_pos hq', ← hr, if_neg hn])
      · rw [decide_eq_false_iff_not, e1] at hn
        rw [if_pos (by omega)] at hr
        (conv => whnf)
        (try simp only [e2])
        repeat ((first | refine V.s1 ?_); (try simp only [e2]))
        exact ⟨j, ⟨by omega, hr⟩, by omega, V.wk⟩
    · rw [decide_eq_false_iff_not] at hz
      have hk0 : k = 0 := by omega
      subst hk0
      (conv => whnf)
      refine V.st ?_
      exact Fin.of (by unfold ordV; rw [if_pos hq', ← hk.2]; rfl)
end Go.Proofs.YtpcpgjcdkgcbpaaGreatDoor
end
section
namespace Go.Proofs.YtpcpgjcdkgcbpaaGreatDoor
open Go Go.V Go.Nb
theorem product_g (xs ys : List Int) (ha : xs.length ≤ 100000000) (hb : ys.length ≤ 100000000) (hdx : Dg 10000 xs) (hdy : ∀ j, 0 ≤ ys.getD j 0 ∧ ys.getD j 0 ≤ 10000 ∧ (0 < j → ys.getD j 0 < 10000)) : Called Tryz.prog 174 [.ints .i64 xs, .ints .i64 ys] (.ints .i64 (mg 10000 (val 10000 xs * val 10000 ys).toNat)) := by
  have hmn : ((xs.length : Int) + (ys.length : Int)).toNat = xs.length + ys.length := by omega
  refine called_of_run tbOk 6 ⟨Tryz.func174, rfl, rfl, Nat.le_of_ble_eq_true rfl⟩ ?_
  (conv => whnf)
  (conv => whnf)
  (try simp only [hmn])
  repeat ((first | refine V.s1 ?_); (try simp only [hmn]))
  refine lp_any ((0, List.replicate (xs.length + ys.length) 0) : Nat × List Int) (fun s => s.1 ≤ xs.length ∧ s.2.length = xs.length + ys.length ∧ Dg 10000 s.2 ∧ (∀ k, s.1 + ys.length ≤ k → s.2.getD k 0 = 0) ∧ val 10000 s.2 = val 10000 (xs.take s.1) * val 10000 ys) (fun s => xs.length - s.1)
    (fun s => [(6, .int .i64 s.1), (5, .osl 14 0 (xs.length + ys.length))]) (fun s => [(14, .arr .i64 s.2)]) ?_ ?_ ?_
  · exact V.wk
  · exact ⟨Nat.zero_le _, by simp, dg_zeros (by omega) _, fun k _ => by simp [List.getD_eq_getElem?_getD, List.getElem?_replicate]; split <;> simp, by simp [val, val_zeros]⟩
  rintro ⟨i, out⟩ ⟨h1, h2, h3, h4, h5⟩
  dsimp only at h1 h2 h3 h4 h5 ⊢
  have vx := val_take_getD 10000 xs i
  have bx := dg_getD (by omega) hdx i
  generalize hx0 : xs.getD i 0 = x at *
  (conv => whnf)
  refine V.st ?_
  refine Cnd.split (CondB.mk (fun hq => ?_) (fun hq => ?_))
  · rw [decide_eq_true_eq] at hq
    (conv => whnf)
    refine V.st ?_
    refine lp_any ((0, out, 0) : Nat × List Int × Int) (fun s => s.1 ≤ ys.length ∧ s.2.1.length = xs.length + ys.length ∧ Dg 10000 s.2.1 ∧ (∀ k, i + ys.length ≤ k → s.2.1.getD k 0 = 0) ∧ (0 ≤ s.2.2 ∧ s.2.2 < 10000 ∧ (s.1 = 0 → s.2.2 = 0)) ∧ val 10000 s.2.1 + ((10000 : Nat) : Int) ^ (i + s.1) * s.2.2 = val 10000 (xs.take i) * val 10000 ys + ((10000 : Nat) : Int) ^ i * x * val 10000 (ys.take s.1)) (fun s => ys.length - s.1)
      (fun s => [(8, .int .i64 s.1), (7, .int .i64 s.2.2), (6, .int .i64 i), (5, .osl 14 0 (xs.length + ys.length))]) (fun s => [(14, .arr .i64 s.2.1)]) ?_ ?_ ?_
    · exact V.wk
    · exact ⟨Nat.zero_le _, h2, h3, h4, by simp, by simp [val, h5]⟩
    rintro ⟨j, o, c⟩ ⟨g1, g2, g3, g4, g5, g6⟩
    dsimp only at g1 g2 g3 g4 g5 g6 ⊢
    have vy := val_take_getD 10000 ys j
    have by' := hdy j
    have bo := dg_getD (by omega) g3 (i + j)
    generalize hy0 : ys.getD j 0 = y at *
    generalize ho0 : o.getD (i + j) 0 = q at *
    have eij : ((i : Int) + (j : Int)).toNat = i + j := by omega
    have hxy : 0 ≤ x * y ∧ x * y ≤ 9999 * y := ⟨Int.mul_nonneg (by omega) (by omega), Int.mul_le_mul_of_nonneg_right (by omega) (by omega)⟩
    have hkj : ((j : Int) + 1) = ((j + 1 : Nat) : Int) := by omega
    have hki : ((i : Int) + 1) = ((i + 1 : Nat) : Int) := by omega
    have ein : ((i : Int) + (ys.length : Int)).toNat = i + ys.length := by omega
    (conv => whnf)
    refine V.st ?_
    refine Cnd.split (CondB.mk (fun hw => ?_) (fun hw => ?_))
    · rw [decide_eq_true_eq] at hw
      have hm : 0 ≤ (c + q + x * y) % 10000 ∧ (c + q + x * y) % 10000 < 10000 := ⟨Int.emod_nonneg _ (by omega), Int.emod_lt_of_pos _ (by omega)⟩
      have hc9 : 0 ≤ (c + q + x * y) / 10000 ∧ (c + q + x * y) / 10000 < 10000 := by
        rcases Nat.eq_zero_or_pos j with e | e
        · have := g5.2.2 e
          omega
        · have := by'.2.2 e
          omega
      have hst := prod_step (B := 10000) (x := x) (y := y) (q := q) (c := c) (d := (c + q + x * y) % 10000) (c' := (c + q + x * y) / 10000) (by omega) ho0 g6 (by have := Int.emod_add_mul_ediv (c + q + x * y) 10000; omega)
      rw [← vy] at hst
      (conv => whnf)
      (try simp only [eij, Nat.zero_add, Int.toNat_natCast, hx0, hy0, ho0, hkj])
      repeat ((first | refine V.s1 ?_); (try simp only [eij, Nat.zero_add, Int.toNat_natCast, hx0, hy0, ho0, hkj]))
      refine ⟨(.take 0 (.take 1 (.take 2 (.take 3 (.take 4 (.take 5 (.take 6 (.take 7 (.take 8 (.take 9 (.take 10 (.take 11 (.take 12 (.take 13 (.take 14 (.take 15 (.take 16 (.take 17 (.ev (.cons 18 [] (.done) (.nil))))))))))))))))))))), [], ⟨by kernel_rfl, by kernel_rfl, by kernel_rfl, by kernel_rfl⟩, .go (drawD_one ?_)⟩
      (conv => whnf)
      (try simp only [eij, Nat.zero_add, Int.toNat_natCast, hx0, hy0, ho0, hkj])
      repeat ((first | refine V.s1 ?_); (try simp only [eij, Nat.zero_add, Int.toNat_natCast, hx0, hy0, ho0, hkj]))
      exact ⟨(j + 1, o.set (i + j) ((c + q + x * y) % 10000), (c + q + x * y) / 10000), ⟨by dsimp only; omega, by dsimp only; rw [List.length_set]; exact g2, dg_set g3 hm, fun k hk => by dsimp only; rw [getD_set_ne (by omega)]; exact g4 k hk, ⟨hc9.1, hc9.2, fun h => by simp at h⟩, hst⟩, by dsimp only; omega, V.wk⟩
    · rw [decide_eq_false_iff_not] at hw
      have hj : j = ys.length := by omega
      subst hj
      rw [List.take_length] at g6
      have hst := prod_end (B := 10000) (by omega) (g4 _ (Nat.le_refl _)) g6 hx0
      (conv => whnf)
      (try simp only [ein, Nat.zero_add, hki])
      repeat ((first | refine V.s1 ?_); (try simp only [ein, Nat.zero_add, hki]))
      exact ⟨(i + 1, o.set (i + ys.length) c), ⟨by dsimp only; omega, by dsimp only; rw [List.length_set]; exact g2, dg_set g3 ⟨g5.1, g5.2.1⟩, fun k hk => by dsimp only at hk ⊢; rw [getD_set_ne (by omega)]; exact g4 k (by omega), hst⟩, by dsimp only; omega, V.wk⟩
  · rw [decide_eq_false_iff_not] at hq
    rw [List.take_of_length_le (by omega)] at h5
    have hc := cut_c out h3 (by omega)
    rw [h5] at hc
    rw [← List.take_length (l := out), h2] at hc
    (conv => whnf)
    refine V.st ?_
    repeat ((try ((with_reducible refine .ext ?_); (conv => whnf))); (with_reducible refine call_intro (r := ?_) ?_ ?_); rotate_left; (focus (first | exact (hc))); (conv => whnf); refine V.st ?_)
    exact Fin.of rfl
end Go.Proofs.YtpcpgjcdkgcbpaaGreatDoor
end
section
namespace Go.Proofs.YtpcpgjcdkgcbpaaGreatDoor
open Go Go.V Go.Nb
theorem once_g (xs : List Int) (d : Int) (ha : xs.length ≤ 100000000) (hdx : Dg 10000 xs) (hd0 : 0 < d) (hd1 : d ≤ 10000) : Called Tryz.prog 172 [.ints .i64 xs, .int .i64 d] (.tup [.ints .i64 (mg 10000 (val 10000 xs / d).toNat), .int .i64 (val 10000 xs % d)]) := by
  have hmn : ((xs.length : Int)).toNat = xs.length := by omega
  refine called_of_run tbOk 6 ⟨Tryz.func172, rfl, rfl, Nat.le_of_ble_eq_true rfl⟩ ?_
  (conv => whnf)
  (conv => whnf)
  (try simp only [hmn])
  repeat ((first | refine V.s1 ?_); (try simp only [hmn]))
  refine lp_any ((xs.length, List.replicate xs.length 0, 0) : Nat × List Int × Int) (fun s => s.1 ≤ xs.length ∧ s.2.1.length = xs.length ∧ Dg 10000 s.2.1 ∧ (0 ≤ s.2.2 ∧ s.2.2 < d) ∧ val 10000 (xs.drop s.1) = val 10000 (s.2.1.drop s.1) * d + s.2.2) (fun s => s.1)
    (fun s => [(8, .int .i64 ((s.1 : Int) - 1)), (7, .int .i64 s.2.2), (6, .osl 11 0 xs.length)]) (fun s => [(11, .arr .i64 s.2.1)]) ?_ ?_ ?_
  · exact V.wk
  · exact ⟨Nat.le_refl _, by simp, dg_zeros (by omega) _, ⟨by simp, hd0⟩, by simp [val]⟩
  rintro ⟨k, out, r⟩ ⟨h1, h2, h3, h4, h5⟩
  dsimp only at h1 h2 h3 h4 h5 ⊢
  (conv => whnf)
  refine V.st ?_
  refine Cnd.split (CondB.mk (fun hq => ?_) (fun hq => ?_))
  · rw [decide_eq_true_eq] at hq
    obtain ⟨j, rfl⟩ : ∃ j, k = j + 1 := ⟨k - 1, by omega⟩
    have hj : j < xs.length := by omega
    have bx := dg_getD (by omega) hdx j
    generalize hx0 : xs.getD j 0 = x at *
    have e2 : (((j + 1 : Nat) : Int) - 1) = (j : Int) := by omega
    have hb := once_bounds (B := 10000) hd0 h4 bx
    have hst := once_step (B := 10000) hj (by omega) hx0 h5 (t := r * 10000 + x) rfl
    have hr0 : 0 ≤ r * 10000 + x := by omega
    (conv => whnf)
    (try simp only [e2, Nat.zero_add, Int.toNat_natCast, hx0])
    repeat ((first | refine V.s1 ?_); (try simp only [e2, Nat.zero_add, Int.toNat_natCast, hx0]))
    exact ⟨(j, out.set j ((r * 10000 + x) / d), (r * 10000 + x) % d), ⟨by dsimp only; omega, by dsimp only; rw [List.length_set]; exact h2, dg_set h3 ⟨hb.1, hb.2.1⟩, ⟨hb.2.2.1, hb.2.2.2⟩, hst⟩, by dsimp only; omega, V.wk⟩
  · rw [decide_eq_false_iff_not] at hq
    obtain rfl : k = 0 := by omega
    rw [List.drop_zero, List.drop_zero] at h5
    have e1 : val 10000 xs / d = val 10000 out := by
      rw [h5, Int.add_comm, Int.add_mul_ediv_right _ _ (by omega), Int.ediv_eq_zero_of_lt h4.1 h4.2, Int.zero_add]
    have e2 : val 10000 xs % d = r := by
      rw [h5, Int.add_comm, Int.add_mul_emod_self_right, Int.emod_eq_of_lt h4.1 h4.2]
    have hc := cut_c out h3 (by omega)
    rw [← e1, ← List.take_length (l := out), h2] at hc
    (conv => whnf)
    refine V.st ?_
    repeat ((try ((with_reducible refine .ext ?_); (conv => whnf))); (with_reducible refine call_intro (r := ?_) ?_ ?_); rotate_left; (focus (first | exact (hc))); (conv => whnf); refine V.st ?_)
    exact Fin.of (by rw [e1, e2])
end Go.Proofs.YtpcpgjcdkgcbpaaGreatDoor
end
section
namespace Go.Proofs.YtpcpgjcdkgcbpaaGreatDoor
open Go Go.V Go.Nb
theorem val_drop' (B : Nat) (l : List Int) (k : Nat) : val B (l.drop k) = l.getD k 0 + B * val B (l.drop (k + 1)) := by
  rcases Nat.lt_or_ge k l.length with h | h
  · exact val_drop h
  · rw [List.drop_eq_nil_of_le h, List.drop_eq_nil_of_le (by omega), getD_ge h]; simp [val]
theorem val_ends {B : Nat} {l : List Int} (hB : 2 ≤ B) (hd : Dg B l) (k : Nat) : val B (l.drop k) * (B : Int) ^ k ≤ val B l ∧ val B l < (val B (l.drop k) + 1) * (B : Int) ^ k := by
  rcases Nat.le_total k l.length with h | h
  · have h1 := val_split B l k h
    have h2 := val_nonneg (dg_take hd k)
    have h3 := val_lt (dg_take hd k)
    rw [List.length_take, Nat.min_eq_left h] at h3
    rw [Int.add_mul, Int.one_mul, h1, Int.mul_comm (val B (l.drop k))]
    omega
  · rw [List.drop_eq_nil_of_le h]
    have h2 := val_nonneg hd
    have h3 := val_lt hd
    have h4 : B ^ l.length ≤ B ^ k := Nat.pow_le_pow_right (by omega) h
    have h5 : ((B ^ l.length : Nat) : Int) ≤ ((B ^ k : Nat) : Int) := by exact_mod_cast h4
    rw [Int.natCast_pow, Int.natCast_pow] at h5
    simp [val]
    omega
theorem trial_ends {B F top P R b : Int} (hB : 2 ≤ B) (hP : 0 < P) (ht : B ≤ top) (hF0 : 0 ≤ F) (hb1 : top * P ≤ b) (hb2 : b < (top + 1) * P) (hR1 : F * P ≤ R) (hR2 : R < (F + 1) * P) (hlt : R < B * b) :
    0 ≤ F / (top + 1) ∧ F / (top + 1) * b ≤ R ∧ R < (F / top + 1) * b ∧ F / top + 1 ≤ B + 1 := by
  have h0 : 0 ≤ F / (top + 1) := Int.ediv_nonneg hF0 (by omega)
  refine ⟨h0, ?_, ?_, ?_⟩
  · have h1 : F / (top + 1) * b ≤ F / (top + 1) * ((top + 1) * P) := Int.mul_le_mul_of_nonneg_left (by omega) h0
    have h2 : F / (top + 1) * (top + 1) ≤ F := Int.ediv_mul_le _ (by omega)
    have h3 : F / (top + 1) * (top + 1) * P ≤ F * P := Int.mul_le_mul_of_nonneg_right h2 (by omega)
    rw [Int.mul_assoc] at h3
    omega
  · have h1 : F < (F / top + 1) * top := Int.lt_ediv_add_one_mul_self _ (by omega)
    have h2 : (F + 1) * P ≤ (F / top + 1) * top * P := Int.mul_le_mul_of_nonneg_right (by omega) (by omega)
    have h4 : 0 ≤ F / top := Int.ediv_nonneg hF0 (by omega)
    have h3 : (F / top + 1) * (top * P) ≤ (F / top + 1) * b := Int.mul_le_mul_of_nonneg_left hb1 (by omega)
    rw [Int.mul_assoc] at h2
    omega
  · have h1 : F * P < B * (top + 1) * P := by
      have : B * b < B * ((top + 1) * P) := Int.mul_lt_mul_of_pos_left hb2 (by omega)
      rw [Int.mul_assoc]; omega
    have h2 := Int.lt_of_mul_lt_mul_right h1 (by omega)
    rw [Int.mul_add, Int.mul_one] at h2
    have h3 : F / top < B + 1 := Int.ediv_lt_of_lt_mul (by omega) (by rw [Int.add_mul, Int.one_mul]; omega)
    omega
theorem trial_out {R b low high : Int} (hb : 0 < b) (h1 : low * b ≤ R) (h2 : R < high * b) (h3 : high - low ≤ 1) : low = R / b ∧ R - b * low = R % b := by
  have h4 : low < high := Int.lt_of_mul_lt_mul_right (Int.lt_of_le_of_lt h1 h2) (by omega)
  obtain rfl : high = low + 1 := by omega
  have h5 : low = R / b := by
    refine Int.le_antisymm ((Int.le_ediv_iff_mul_le hb).2 h1) ?_
    have := (Int.ediv_lt_iff_lt_mul hb).2 h2
    omega
  refine ⟨h5, ?_⟩
  have := Int.emod_add_mul_ediv R b
  rw [h5]; omega
end Go.Proofs.YtpcpgjcdkgcbpaaGreatDoor
end
