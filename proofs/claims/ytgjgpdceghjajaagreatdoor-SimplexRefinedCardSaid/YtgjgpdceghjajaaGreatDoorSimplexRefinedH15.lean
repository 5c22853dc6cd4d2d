/- What functions of the program answer at given values, part 15. Conditions: those that each theorem names. -/
import Derived.Test.YtgjgpdceghjajaaGreatDoorSimplexRefinedSi
import Derived.WalkKit
import Derived.BigCall
import Derived.Test.YtgjgpdceghjajaaGreatDoorSimplexRefinedH13
import Derived.Test.YtgjgpdceghjajaaGreatDoorProg
import Derived.Lib.AppendIntMem
set_option linter.unusedSimpArgs false
set_option linter.unusedVariables false
set_option maxHeartbeats 8000000
set_option maxRecDepth 100000
section
namespace Go.Proofs.YtgjgpdceghjajaaGreatDoor
open Go Go.RowKit Go.Proofs
set_option maxHeartbeats 4000000
set_option maxRecDepth 1000000
theorem bTp : Tryz.prog.underlying 257 = some (.pointer 259) := by kernel_rfl
theorem bUp : Tryz.prog.underlying 288 = some .unsafePointer := by kernel_rfl
theorem bSl : Tryz.prog.underlying 22 = some (.slice 5) := by kernel_rfl
theorem bStr : Tryz.prog.underlying 9 = some .string := by kernel_rfl
theorem bSize : (Tryz.prog.info? 259).map (·.size) = some 2 := by kernel_rfl
theorem bLies : liesAt Tryz.prog Tryz.prog.depth 259 (2 / Tryz.prog.cellsOf 259) 0 259 1 = true := by kernel_rfl
theorem bByte : (Tryz.prog.info? 5).map (fun i => (i.zero, i.size, i.bytes)) = some (some (.int .u8 0), 1, 1) := by kernel_rfl
theorem jfi (b : Nat) (w : World) (h0 : w.cell? ⟨b, 0, none⟩ = some (.pointer (some ⟨b, 0, none⟩))) :
  Calls Tryz.prog 210 #[.pointer (some ⟨b, 0, none⟩)] w fun e w' => e = .returned (.tuple #[]) ∧ w' = w := by
 obtain ⟨j, hj, _⟩ := Option.map_eq_some_iff.1 bSize
 go_enter Tryz.func210, Tryz.ntmps210
 go_wp2
 rw [Lib.run_neq_ptr_same w _ bTp hj]
 go_wp2
 go_end0
 exact ⟨rfl, rfl⟩
theorem jfb (b : Nat) (w : World) (h0 : w.cell? ⟨b, 0, none⟩ = some (.pointer none)) (hsh : w.shape? b = some (259, 2)) (hfz : w.frozen? ⟨b, 0, none⟩ = false) :
  Calls Tryz.prog 210 #[.pointer (some ⟨b, 0, none⟩)] w fun e w' => e = .returned (.tuple #[]) ∧ w' = w.setCell ⟨b, 0, none⟩ (.pointer (some ⟨b, 0, none⟩)) := by
 obtain ⟨j, hj, hjs⟩ := Option.map_eq_some_iff.1 bSize
 go_enter Tryz.func210, Tryz.ntmps210
 go_wp2
 rw [Lib.run_to_unsafe w ⟨b, 0, none⟩ bTp bUp hj (by rw [hjs]; decide) hsh (Nat.zero_lt_succ 1)]
 simp only [Result.andThen]
 rw [Oper.upon_value]
 go_wp2
 rw [run_callFunc_extern Tryz.func219 (by kernel_rfl) (by kernel_rfl) (by kernel_rfl) (e := Extern.AbiNoEscape.same) (by kernel_rfl)]
 rw [Lib.run_noEscape]
 simp only [Result.andThen]
 rw [Oper.upon_value]
 go_wp2
 rw [Lib.run_from_unsafe w ⟨b, 0, none⟩ bUp bTp hj hsh bLies]
 simp only [Result.andThen]
 rw [Oper.upon_value]
 go_wp2
 go_end0
 exact ⟨rfl, rfl⟩
theorem jfa (B b : Nat) (bs : List Value) (w : World) (h : Lib.IsBuilderF 259 5 B b bs w) :
  Calls Tryz.prog 210 #[.pointer (some ⟨b, 0, none⟩)] w fun e w' => e = .returned (.tuple #[]) ∧ (Lib.BuilderAtF 259 5 B b (.pointer (some ⟨b, 0, none⟩)) bs w' ∧ Below B w w' ∧ Lib.OthersKept 5 (some b) w w') := by
 rcases h with h | h
 ·refine (jfb b w h.cell0 h.shape h.frozen0).mono ?_
  rintro e w' ⟨rfl, rfl⟩
  exact ⟨rfl, h.used _, (Below.refl B w).setCell (p := ⟨b, 0, none⟩) h.1 _, (Lib.OthersKept.refl _ _ w).setCell ⟨b, 0, none⟩ rfl _⟩
 ·refine (jfi b w h.cell0).mono ?_
  rintro e w' ⟨rfl, rfl⟩
  exact ⟨rfl, h, Below.refl B _, Lib.OthersKept.refl _ _ _⟩
theorem jgS (B b : Nat) (bs : List Value) (c : Int) (w : World) (h : Lib.IsBuilderF 259 5 B b bs w) (hlen : bs.length + 1 ≤ 140737488355328) (hBw : B ≤ w.heap.size) :
  Calls Tryz.prog 187 #[.pointer (some ⟨b, 0, none⟩), .int .u8 c] w fun e w' => e = .returned .nilIface ∧ (Lib.BuilderAtF 259 5 B b (.pointer (some ⟨b, 0, none⟩)) (bs ++ [.int .u8 c]) w' ∧ Below B w w' ∧ Lib.OthersKept 5 (some b) w w') := by
 obtain ⟨i0, hi, hz0, hz1, hz2⟩ := info_parts bByte
 go_enter Tryz.func187, Tryz.ntmps187
 go_wp2_with (go_at_call 210; refine (jfa B b bs _ h).mono ?_)
 rintro e w1 ⟨rfl, h1, hb1, hk1⟩
 obtain ⟨hB, v, hbk, hown, hne⟩ := h1
 have c0 : w1.cell? ⟨b, 0, none⟩ = some (.pointer (some ⟨b, 0, none⟩)) := by rw [Lib.cell_of_heap hbk]; rfl
 have c1 : w1.cell? ⟨b, 1, none⟩ = some v := by rw [Lib.cell_of_heap hbk]; rfl
 go_wp2_with (at_builtin; refine wpList_append_ownF _ rfl _ _ 22 rfl B 5 i0 (.int .u8 0) 1 1 bSl hi hz0 hz1 hz2 rfl (by decide) _ _ _ rfl (hown.alloc _) ⟨w1.heap.size, 0, none⟩ 1 1 [.int .u8 c] rfl rfl ?c1 ?c2 ?c3 ?c4 ?c5 ?_)
 case c1 =>
  intro j u hj
  match j, hj with
  | 0, hj => simp at hj; subst hj; simp [Addr.add]
 case c2 => intro u hu; simp at hu; subst hu; rfl
 case c3 => unfold maxLen; omega
 case c4 => omega
 case c5 => have := hb1.size; simp; omega
 intro v' w2 hown' hgrow _
 have hlt : b < w1.heap.size := by
  rcases jip b w1.heap.size with h' | h'
  ·exact h'
  ·simp [Array.getElem?_eq_none h'] at hbk
 have hb2 : w2.heap[b]? = some (.cells #[.pointer (some ⟨b, 0, none⟩), v] 259 (0, 0)) := by
  rw [hgrow.block b (by simp; omega) (fun e => hne e.symm), Lib.alloc_old w1 _ b hlt]
  exact hbk
 have d0 : w2.cell? ⟨b, 0, none⟩ = some (.pointer (some ⟨b, 0, none⟩)) := by rw [Lib.cell_of_heap hb2]; rfl
 have d1 : w2.cell? ⟨b, 1, none⟩ = some v := by rw [Lib.cell_of_heap hb2]; rfl
 have f1 : w2.frozen? ⟨b, 1, none⟩ = false := Lib.frozen_of_heap hb2 1
 obtain ⟨g, cap, rfl⟩ : ∃ g cap, v' = .slice (some ⟨g, 0, none⟩) (bs.length + 1) cap := by
  rcases hown'.2 with ⟨_, h0⟩ | ⟨g, cap, cur, fz, hv, _⟩
  ·omega
  ·exact ⟨g, cap, hv⟩
 go_wp2
 go_ret
 refine ⟨rfl, ?_, ?_, ((hk1.alloc _).grown hgrow (Lib.ownsRowF_kind (hown.alloc _))).setCell ⟨b, 1, none⟩ rfl _⟩
 ·exact Lib.BuilderAtF.put (T := 259) (e := 5) hB hb2 (bs' := bs ++ [.int .u8 c]) (by simpa using hown') (by decide)
 ·exact ((hb1.alloc (by have := hb1.size; omega) _).grown hgrow (by have := hb1.size; simp; omega) (fun k hk => (hown.lt k hk).1)).setCell (p := ⟨b, 1, none⟩) hB _
theorem jfO (B b : Nat) (bs : List Value) (s : ByteArray) (w : World) (h : Lib.IsBuilderF 259 5 B b bs w) (hlen : bs.length + s.size ≤ 140737488355328) (hBw : B ≤ w.heap.size) :
  Calls Tryz.prog 188 #[.pointer (some ⟨b, 0, none⟩), .string s] w fun e w' => e = .returned (.tuple #[.int .i64 s.size, .nilIface]) ∧ (Lib.BuilderAtF 259 5 B b (.pointer (some ⟨b, 0, none⟩)) (bs ++ Lib.strCells s) w' ∧ Below B w w' ∧ Lib.OthersKept 5 (some b) w w') := by
 obtain ⟨i0, hi, hz0, hz1, hz2⟩ := info_parts bByte
 go_enter Tryz.func188, Tryz.ntmps188
 go_wp2_with (go_at_call 210; refine (jfa B b bs _ h).mono ?_)
 rintro e w1 ⟨rfl, h1, hb1, hk1⟩
 obtain ⟨hB, v, hbk, hown, hne⟩ := h1
 have c0 : w1.cell? ⟨b, 0, none⟩ = some (.pointer (some ⟨b, 0, none⟩)) := by rw [Lib.cell_of_heap hbk]; rfl
 have c1 : w1.cell? ⟨b, 1, none⟩ = some v := by rw [Lib.cell_of_heap hbk]; rfl
 go_wp2_with (at_builtin; refine Lib.wpList_append_own_stringF _ rfl _ _ 22 9 rfl B 5 i0 bSl bStr hi hz0 hz1 hz2 _ _ _ rfl hown s rfl ?c3 ?c4 ?c5 ?_)
 case c3 => unfold maxLen; omega
 case c4 => omega
 case c5 => have := hb1.size; omega
 intro v' w2 hown' hgrow _
 have hlt : b < w1.heap.size := by
  rcases jip b w1.heap.size with h' | h'
  ·exact h'
  ·simp [Array.getElem?_eq_none h'] at hbk
 have hb2 : w2.heap[b]? = some (.cells #[.pointer (some ⟨b, 0, none⟩), v] 259 (0, 0)) := by
  rw [hgrow.block b hlt (fun e => hne e.symm)]
  exact hbk
 have d0 : w2.cell? ⟨b, 0, none⟩ = some (.pointer (some ⟨b, 0, none⟩)) := by rw [Lib.cell_of_heap hb2]; rfl
 have d1 : w2.cell? ⟨b, 1, none⟩ = some v := by rw [Lib.cell_of_heap hb2]; rfl
 have f1 : w2.frozen? ⟨b, 1, none⟩ = false := Lib.frozen_of_heap hb2 1
 obtain ⟨ao, n', cap, rfl⟩ : ∃ ao n' cap, v' = .slice ao n' cap := by
  rcases hown'.2 with ⟨hv, _⟩ | ⟨g, cap, cur, fz, hv, _⟩
  ·exact ⟨_, _, _, hv⟩
  ·exact ⟨_, _, _, hv⟩
 go_wp2
 go_ret2
 refine ⟨rfl, ?_, ?_, (hk1.grown hgrow (Lib.ownsRowF_kind hown)).setCell ⟨b, 1, none⟩ rfl _⟩
 ·exact Lib.BuilderAtF.put (T := 259) (e := 5) hB hb2 (bs' := bs ++ Lib.strCells s) (by simpa [Lib.strCells_length] using hown') (by decide)
 ·exact (hb1.grown hgrow (by have := hb1.size; omega) (fun k hk => (hown.lt k hk).1)).setCell (p := ⟨b, 1, none⟩) hB _
end Go.Proofs.YtgjgpdceghjajaaGreatDoor
end
section
namespace Go.Proofs.YtgjgpdceghjajaaGreatDoor
open Go Go.V
def tb : V.Tb := [(2, ⟨1, 8, .int .i64, [.int .i64 0]⟩),
 (3, ⟨1, 8, .int .i64, [.int .i64 0]⟩),
 (4, ⟨1, 1, .bool, [.bool false]⟩),
 (5, ⟨1, 1, .int .u8, [.int .u8 0]⟩),
 (9, ⟨1, 16, .str, [.str []]⟩),
 (21, ⟨1, 4, .int .i32, [.int .i32 0]⟩),
 (22, ⟨1, 24, .slice 5, [.nil]⟩),
 (23, ⟨1, 24, .slice 28, [.nil]⟩),
 (25, ⟨4, 64, .struct [(0, 22), (1, 5), (2, 23), (3, 4)], [.nil, .int .u8 0, .nil, .bool false]⟩),
 (26, ⟨1, 2, .int .i16, [.int .i16 0]⟩),
 (27, ⟨4, 8, .arr 4 26, [.int .i16 0, .int .i16 0, .int .i16 0, .int .i16 0]⟩),
 (28, ⟨1, 2, .int .u16, [.int .u16 0]⟩),
 (30, ⟨3, 40, .struct [(0, 4), (1, 23), (2, 28)], [.bool false, .nil, .int .u16 0]⟩),
 (32, ⟨6, 80, .struct [(0, 30), (3, 30)], [.bool false, .nil, .int .u16 0, .bool false, .nil, .int .u16 0]⟩),
 (33, ⟨24, 320, .arr 4 32, [.bool false, .nil, .int .u16 0, .bool false, .nil, .int .u16 0, .bool false, .nil, .int .u16 0, .bool false, .nil, .int .u16 0, .bool false, .nil, .int .u16 0, .bool false, .nil, .int .u16 0, .bool false, .nil, .int .u16 0, .bool false, .nil, .int .u16 0]⟩),
 (35, ⟨28, 328, .struct [(0, 27), (4, 33)], [.int .i16 0, .int .i16 0, .int .i16 0, .int .i16 0, .bool false, .nil, .int .u16 0, .bool false, .nil, .int .u16 0, .bool false, .nil, .int .u16 0, .bool false, .nil, .int .u16 0, .bool false, .nil, .int .u16 0, .bool false, .nil, .int .u16 0, .bool false, .nil, .int .u16 0, .bool false, .nil, .int .u16 0]⟩),
 (37, ⟨1, 24, .slice 3, [.nil]⟩),
 (39, ⟨3, 56, .struct [(0, 37), (1, 3), (2, 37)], [.nil, .int .i64 0, .nil]⟩),
 (41, ⟨1, 8, .int .i64, [.int .i64 0]⟩),
 (44, ⟨1, 24, .slice 50, [.nil]⟩),
 (45, ⟨3, 72, .arr 3 44, [.nil, .nil, .nil]⟩),
 (48, ⟨1, 16, .str, [.str []]⟩),
 (50, ⟨2, 32, .struct [(0, 48), (1, 48)], [.str [], .str []]⟩),
 (68, ⟨3, 3, .arr 3 5, [.int .u8 0, .int .u8 0, .int .u8 0]⟩),
 (71, ⟨2, 4, .arr 2 26, [.int .i16 0, .int .i16 0]⟩),
 (73, ⟨8, 16, .arr 4 71, [.int .i16 0, .int .i16 0, .int .i16 0, .int .i16 0, .int .i16 0, .int .i16 0, .int .i16 0, .int .i16 0]⟩),
 (74, ⟨2, 4, .arr 2 28, [.int .u16 0, .int .u16 0]⟩),
 (75, ⟨8, 16, .arr 4 74, [.int .u16 0, .int .u16 0, .int .u16 0, .int .u16 0, .int .u16 0, .int .u16 0, .int .u16 0, .int .u16 0]⟩),
 (76, ⟨1, 24, .slice 80, [.nil]⟩),
 (80, ⟨2, 16, .struct [(0, 3), (1, 3)], [.int .i64 0, .int .i64 0]⟩),
 (86, ⟨1, 24, .slice 37, [.nil]⟩),
 (97, ⟨1, 8, .func, [.any]⟩),
 (99, ⟨3, 56, .struct [(0, 39)], [.nil, .int .i64 0, .nil]⟩),
 (102, ⟨4, 32, .arr 4 3, [.int .i64 0, .int .i64 0, .int .i64 0, .int .i64 0]⟩),
 (105, ⟨6, 128, .struct [(0, 39), (3, 37), (4, 37), (5, 44)], [.nil, .int .i64 0, .nil, .nil, .nil, .nil]⟩),
 (118, ⟨1, 8, .func, [.any]⟩),
 (120, ⟨1, 8, .func, [.any]⟩),
 (124, ⟨1, 8, .func, [.any]⟩),
 (130, ⟨2, 32, .struct [(0, 4), (1, 37)], [.bool false, .nil]⟩),
 (132, ⟨4, 64, .struct [(0, 130), (2, 130)], [.bool false, .nil, .bool false, .nil]⟩),
 (138, ⟨1, 8, .func, [.any]⟩),
 (140, ⟨4, 32, .arr 4 3, [.int .i64 0, .int .i64 0, .int .i64 0, .int .i64 0]⟩),
 (142, ⟨1, 8, .func, [.any]⟩),
 (146, ⟨1, 8, .func, [.any]⟩),
 (154, ⟨1, 8, .func, [.any]⟩),
 (156, ⟨1, 8, .func, [.any]⟩),
 (160, ⟨1, 8, .func, [.any]⟩),
 (164, ⟨1, 8, .func, [.any]⟩),
 (167, ⟨1, 8, .func, [.any]⟩),
 (169, ⟨8, 128, .arr 4 50, [.str [], .str [], .str [], .str [], .str [], .str [], .str [], .str []]⟩),
 (175, ⟨1, 8, .func, [.any]⟩),
 (177, ⟨1, 24, .slice 220, [.nil]⟩),
 (179, ⟨2, 32, .struct [(0, 177), (1, 4)], [.nil, .bool false]⟩),
 (181, ⟨3, 56, .struct [(0, 179), (2, 177)], [.nil, .bool false, .nil]⟩),
 (187, ⟨1, 8, .int .u64, [.int .u64 0]⟩),
 (188, ⟨1, 8, .func, [.any]⟩),
 (199, ⟨1, 8, .func, [.any]⟩),
 (200, ⟨1, 8, .func, [.any]⟩),
 (204, ⟨1, 8, .func, [.any]⟩),
 (220, ⟨1, 4, .int .u32, [.int .u32 0]⟩),
 (222, ⟨1, 16, .other, [.any]⟩),
 (235, ⟨1, 8, .func, [.any]⟩),
 (241, ⟨2, 16, .struct [(0, 142), (1, 142)], [.any, .any]⟩),
 (242, ⟨8, 64, .arr 4 241, [.any, .any, .any, .any, .any, .any, .any, .any]⟩),
 (245, ⟨1, 24, .slice 220, [.nil]⟩),
 (247, ⟨2, 32, .struct [(0, 245), (1, 4)], [.nil, .bool false]⟩),
 (257, ⟨1, 8, .ptr 259, [.any]⟩),
 (259, ⟨2, 32, .struct [(0, 257), (1, 22)], [.any, .nil]⟩),
 (274, ⟨1, 8, .int .u64, [.int .u64 0]⟩),
 (275, ⟨1, 8, .ptr 286, [.any]⟩),
 (278, ⟨1, 8, .ptr 5, [.any]⟩),
 (286, ⟨3, 48, .struct [(0, 9), (1, 9), (2, 222)], [.str [], .str [], .any]⟩),
 (288, ⟨1, 8, .other, [.any]⟩),
 (290, ⟨24, 24, .arr 24 5, [.int .u8 0, .int .u8 0, .int .u8 0, .int .u8 0, .int .u8 0, .int .u8 0, .int .u8 0, .int .u8 0, .int .u8 0, .int .u8 0, .int .u8 0, .int .u8 0, .int .u8 0, .int .u8 0, .int .u8 0, .int .u8 0, .int .u8 0, .int .u8 0, .int .u8 0, .int .u8 0, .int .u8 0, .int .u8 0, .int .u8 0, .int .u8 0]⟩),
 (295, ⟨1, 8, .ptr 297, [.any]⟩),
 (297, ⟨1, 16, .struct [(0, 9)], [.str []]⟩),
 (300, ⟨20, 160, .arr 20 187, [.int .u64 0, .int .u64 0, .int .u64 0, .int .u64 0, .int .u64 0, .int .u64 0, .int .u64 0, .int .u64 0, .int .u64 0, .int .u64 0, .int .u64 0, .int .u64 0, .int .u64 0, .int .u64 0, .int .u64 0, .int .u64 0, .int .u64 0, .int .u64 0, .int .u64 0, .int .u64 0]⟩),
 (301, ⟨65, 65, .arr 65 5, [.int .u8 0, .int .u8 0, .int .u8 0, .int .u8 0, .int .u8 0, .int .u8 0, .int .u8 0, .int .u8 0, .int .u8 0, .int .u8 0, .int .u8 0, .int .u8 0, .int .u8 0, .int .u8 0, .int .u8 0, .int .u8 0, .int .u8 0, .int .u8 0, .int .u8 0, .int .u8 0, .int .u8 0, .int .u8 0, .int .u8 0, .int .u8 0, .int .u8 0, .int .u8 0, .int .u8 0, .int .u8 0, .int .u8 0, .int .u8 0, .int .u8 0, .int .u8 0, .int .u8 0, .int .u8 0, .int .u8 0, .int .u8 0, .int .u8 0, .int .u8 0, .int .u8 0, .int .u8 0, .int .u8 0, .int .u8 0, .int .u8 0, .int .u8 0, .int .u8 0, .int .u8 0, .int .u8 0, .int .u8 0, .int .u8 0, .int .u8 0, .int .u8 0, .int .u8 0, .int .u8 0, .int .u8 0, .int .u8 0, .int .u8 0, .int .u8 0, .int .u8 0, .int .u8 0, .int .u8 0, .int .u8 0, .int .u8 0, .int .u8 0, .int .u8 0, .int .u8 0]⟩),
 (304, ⟨32, 32, .arr 32 5, [.int .u8 0, .int .u8 0, .int .u8 0, .int .u8 0, .int .u8 0, .int .u8 0, .int .u8 0, .int .u8 0, .int .u8 0, .int .u8 0, .int .u8 0, .int .u8 0, .int .u8 0, .int .u8 0, .int .u8 0, .int .u8 0, .int .u8 0, .int .u8 0, .int .u8 0, .int .u8 0, .int .u8 0, .int .u8 0, .int .u8 0, .int .u8 0, .int .u8 0, .int .u8 0, .int .u8 0, .int .u8 0, .int .u8 0, .int .u8 0, .int .u8 0, .int .u8 0]⟩),
 (305, ⟨64, 64, .arr 64 5, [.int .u8 0, .int .u8 0, .int .u8 0, .int .u8 0, .int .u8 0, .int .u8 0, .int .u8 0, .int .u8 0, .int .u8 0, .int .u8 0, .int .u8 0, .int .u8 0, .int .u8 0, .int .u8 0, .int .u8 0, .int .u8 0, .int .u8 0, .int .u8 0, .int .u8 0, .int .u8 0, .int .u8 0, .int .u8 0, .int .u8 0, .int .u8 0, .int .u8 0, .int .u8 0, .int .u8 0, .int .u8 0, .int .u8 0, .int .u8 0, .int .u8 0, .int .u8 0, .int .u8 0, .int .u8 0, .int .u8 0, .int .u8 0, .int .u8 0, .int .u8 0, .int .u8 0, .int .u8 0, .int .u8 0, .int .u8 0, .int .u8 0, .int .u8 0, .int .u8 0, .int .u8 0, .int .u8 0, .int .u8 0, .int .u8 0, .int .u8 0, .int .u8 0, .int .u8 0, .int .u8 0, .int .u8 0, .int .u8 0, .int .u8 0, .int .u8 0, .int .u8 0, .int .u8 0, .int .u8 0, .int .u8 0, .int .u8 0, .int .u8 0, .int .u8 0]⟩)]
theorem tbOk : V.TbOk Tryz.prog tb := V.tbB_ok (by kernel_rfl)
end Go.Proofs.YtgjgpdceghjajaaGreatDoor
end
section
namespace Go.Nb
open Go
def val (B : Nat) : List Int → Int
 | [] => 0
 | x :: r => x + B * val B r
def Dg (B : Nat) (l : List Int) : Prop := ∀ x ∈ l, 0 ≤ x ∧ x < B
def mgF (B : Nat) : Nat → Nat → List Int
 | 0, _ => []
 | f + 1, n => if n = 0 then [] else ((n % B : Nat) : Int) :: mgF B f (n / B)
def mg (B n : Nat) : List Int := mgF B n n
theorem mgF_le {B : Nat} (hB : 2 ≤ B) : ∀ (f n : Nat), n ≤ f → mgF B f n = mgF B n n := by
  have key : ∀ (f g n : Nat), n ≤ f → n ≤ g → mgF B f n = mgF B g n := by
    intro f
    induction f with
    | zero => intro g n h1 h2; obtain rfl : n = 0 := by omega
              cases g <;> simp [mgF]
    | succ f ih =>
      intro g n h1 h2
      cases g with
      | zero => obtain rfl : n = 0 := by omega
                simp [mgF]
      | succ g =>
        simp only [mgF]
        by_cases h0 : n = 0
        · simp [h0]
        · rw [if_neg h0, if_neg h0]
          have : n / B < n := Nat.div_lt_self (by omega) (by omega)
          rw [ih g (n / B) (by omega) (by omega)]
  exact fun f n h => key f n n h (jii _)
theorem jck (B : Nat) : mg B 0 = [] := rfl
theorem jb7 {B n : Nat} (hB : 2 ≤ B) (hn : 0 < n) : mg B n = ((n % B : Nat) : Int) :: mg B (n / B) := by
 obtain ⟨m, rfl⟩ : ∃ m, n = m + 1 := ⟨n - 1, by omega⟩
 have : (m + 1) / B < m + 1 := Nat.div_lt_self (by omega) (by omega)
 conv => lhs; unfold mg mgF
 rw [if_neg (by omega), mgF_le hB m _ (by omega)]
 rfl
theorem mg_ind {B : Nat} (hB : 2 ≤ B) {p : Nat → Prop} (h0 : p 0) (h1 : ∀ n, 0 < n → p (n / B) → p n) (n : Nat) : p n := by
 induction n using Nat.strongRecOn with
 | _ n ih =>
  by_cases hn : n = 0
  ·rw [hn]; exact h0
  ·exact h1 n (by omega) (ih _ (Nat.div_lt_self (by omega) (by omega)))
theorem mg_dg {B : Nat} (hB : 2 ≤ B) (n : Nat) : Dg B (mg B n) := by
 refine mg_ind hB (p := fun n => Dg B (mg B n)) (by intro x hx; simp [jck] at hx) (fun n hn ih x hx => ?_) n
 rw [jb7 hB hn] at hx
 rcases jiL.1 hx with rfl | hx
 ·have := jik n (by omega : B > 0)
  omega
 ·exact ih x hx
theorem jaC {B : Nat} (hB : 2 ≤ B) (n : Nat) : val B (mg B n) = n := by
 refine mg_ind hB (p := fun n => val B (mg B n) = n) rfl (fun n hn ih => ?_) n
 rw [jb7 hB hn]
 simp only [val, ih]
 have := Nat.mod_add_div n B
 rw [← jis]
 omega
theorem jb8 {B n : Nat} (hB : 2 ≤ B) : mg B n = [] ↔ n = 0 := by
 constructor
 ·intro h
  have := jaC hB n
  rw [h] at this
  simp [val] at this
  omega
 ·intro h; rw [h]; rfl
theorem jan {B : Nat} {l : List Int} (h : Dg B l) : 0 ≤ val B l := by
 induction l with
 | nil => simp [val]
 | cons x r ih =>
  have h1 := h x (by simp)
  have h2 := ih fun y hy => h y (by simp [hy])
  have h3 : 0 ≤ (B : Int) * val B r := jie (by omega) h2
  simp only [val]
  omega
theorem jbC (B : Nat) (l r : List Int) : val B (l ++ r) = val B l + (B : Int) ^ l.length * val B r := by
 induction l with
 | nil => simp [val]
 | cons x l ih =>
  simp only [List.cons_append, val, jiY, ih, Int.pow_succ]
  rw [jit, ← Int.add_assoc, jiu ((B : Int) ^ l.length) (B : Int), jiv]
theorem jb2 {B : Nat} {l : List Int} (h : Dg B l) : val B l < (B : Int) ^ l.length := by
 induction l with
 | nil => simp [val]
 | cons x r ih =>
  have h1 := h x (by simp)
  have h2 := ih fun y hy => h y (by simp [hy])
  simp only [val, jiY, Int.pow_succ]
  have h3 : (B : Int) * (val B r + 1) ≤ (B : Int) * (B : Int) ^ r.length := jiw h2 (by omega)
  rw [jit, Int.mul_one] at h3
  rw [jiu ((B : Int) ^ r.length)]
  omega
theorem jah {B : Nat} {l r : List Int} (h1 : Dg B l) (h2 : Dg B r) : Dg B (l ++ r) := fun x hx => by
 rcases List.mem_append.1 hx with h | h
 ·exact h1 x h
 ·exact h2 x h
theorem jbi {B : Nat} {l : List Int} (h : Dg B l) (k : Nat) : Dg B (l.take k) := fun x hx => h x (jiV hx)
theorem jbq {B : Nat} {l : List Int} (h : Dg B l) (k : Nat) : Dg B (l.drop k) := fun x hx => h x (jiU hx)
theorem jau {B : Nat} {x : Int} (h : 0 ≤ x ∧ x < B) : Dg B [x] := fun y hy => by simp at hy; subst hy; exact h
theorem jbT {B : Nat} (hB : 1 ≤ B) (k : Nat) : Dg B (List.replicate k 0) := fun y hy => by
 rw [List.eq_of_mem_replicate hy]; omega
theorem jew (B k : Nat) : val B (List.replicate k 0) = 0 := by
 induction k with
 | zero => rfl
 | succ k ih => simp [List.replicate_succ, val, ih]
theorem jaQ (B : Nat) (l : List Int) (x : Int) : val B (l ++ [x]) = val B l + (B : Int) ^ l.length * x := by
 rw [jbC]; simp [val]
theorem jda {B : Nat} {l : List Int} {k : Nat} {x : Int} (h : l[k]? = some x) : val B (l.take (k + 1)) = val B (l.take k) + (B : Int) ^ k * x := by
 have hk := (jiT.1 h).1
 rw [ji9, h]
 have : (l.take k).length = k := by rw [jiQ]; omega
 rw [show (some x).toList = [x] from rfl, jaQ, this]
theorem jbH (B : Nat) (l : List Int) (k : Nat) (hk : k ≤ l.length) : val B l = val B (l.take k) + (B : Int) ^ k * val B (l.drop k) := by
 conv => lhs; rw [← List.take_append_drop k l]
 rw [jbC, jiQ, Nat.min_eq_left hk]
theorem mg_of {B : Nat} (hB : 2 ≤ B) : ∀ {l : List Int}, Dg B l → (∀ x, l.getLast? = some x → x ≠ 0) → l = mg B (val B l).toNat
 | [], _, _ => rfl
 | x :: r, hd, hl => by
  have hx := hd x (by simp)
  have hr : Dg B r := fun y hy => hd y (by simp [hy])
  have h0 := jan hr
  have hlr : ∀ y, r.getLast? = some y → y ≠ 0 := fun y hy => hl y (by
   cases r with
   | nil => simp at hy
   | cons a s => rw [List.getLast?_cons_cons]; exact hy)
  have ih := mg_of hB hr hlr
  have hpos : 0 < val B (x :: r) := by
   simp only [val]
   cases r with
   | nil =>
    have := hl x (by simp)
    simp [val]
    omega
   | cons a s =>
    have hne : (val B (a :: s)).toNat ≠ 0 := fun e => by
     rw [e, jck] at ih
     cases ih
    have h1 : 1 ≤ val B (a :: s) := by omega
    have h2 : (B : Int) * 1 ≤ (B : Int) * val B (a :: s) := jiw h1 (by omega)
    omega
  rw [jb7 hB (by omega)]
  obtain ⟨v, hv⟩ : ∃ v : Nat, val B r = v := ⟨(val B r).toNat, by omega⟩
  obtain ⟨y, rfl⟩ : ∃ y : Nat, x = y := ⟨x.toNat, by omega⟩
  have e : (val B ((y : Int) :: r)).toNat = y + B * v := by
   simp only [val, hv]
   rw [← jis, ← Int.natCast_add, jih]
  have hy : y < B := by omega
  rw [e, Nat.add_mul_mod_self_left, jim hy, Nat.add_mul_div_left _ _ (by omega : 0 < B), Nat.div_eq_of_lt hy, jif]
  rw [hv, jih] at ih
  rw [← ih]
theorem jdP {B n : Nat} (hB : 2 ≤ B) : ∀ x, (mg B n).getLast? = some x → x ≠ 0 := by
 refine mg_ind hB (p := fun n => ∀ x, (mg B n).getLast? = some x → x ≠ 0) (fun x h => by simp [jck] at h) (fun n hn ih x h => ?_) n
 rw [jb7 hB hn] at h
 by_cases hd : n / B = 0
 ·rw [hd, jck] at h
  simp at h
  have := Nat.mod_add_div n B
  rw [hd] at this
  omega
 ·rw [jb7 hB (Nat.pos_of_ne_zero hd), List.getLast?_cons_cons] at h
  rw [jb7 hB (Nat.pos_of_ne_zero hd)] at ih
  exact ih x h
theorem jav {B n k : Nat} (hB : 2 ≤ B) (h : n < B ^ k) : (mg B n).length ≤ k := by
  induction k generalizing n with
  | zero => obtain rfl : n = 0 := by simp at h; omega
            simp [jck]
  | succ k ih =>
    by_cases hn : n = 0
    · rw [hn, jck]; simp
    · rw [jb7 hB (by omega), jiY]
      have : n / B < B ^ k := Nat.div_lt_of_lt_mul (by rw [Nat.pow_succ, jil] at h; exact h)
      have := ih this
      omega
theorem jaH {B n : Nat} (hB : 2 ≤ B) : n < B ^ (mg B n).length := by
 have h1 := jb2 (mg_dg hB n)
 rw [jaC hB] at h1
 have e : ((B : Int) ^ (mg B n).length) = ((B ^ (mg B n).length : Nat) : Int) := by simp
 rw [e] at h1
 omega
theorem jaf {B m n : Nat} (hB : 2 ≤ B) (h : m ≤ n) : (mg B m).length ≤ (mg B n).length :=
 jav hB (Nat.lt_of_le_of_lt h (jaH hB))
theorem jcz {B n : Nat} (hB : 2 ≤ B) (hn : 0 < n) : B ^ ((mg B n).length - 1) ≤ n := by
 rcases jip n (B ^ ((mg B n).length - 1)) with h | h
 ·have h1 := jav hB h
  have h2 : (mg B n) ≠ [] := fun e => by rw [jb8 hB] at e; omega
  have := List.length_pos_iff.2 h2
  omega
 ·exact h
def decF : Nat → Nat → List UInt8
 | 0, _ => []
 | f + 1, n => if n < 10 then [UInt8.ofNat (48 + n)] else decF f (n / 10) ++ [UInt8.ofNat (48 + n % 10)]
def dec (n : Nat) : List UInt8 := decF (n + 1) n
theorem decF_le : ∀ (f g n : Nat), n < f → n < g → decF f n = decF g n := by
 intro f
 induction f with
 | zero => intro g n h1; omega
 | succ f ih =>
  intro g n h1 h2
  cases g with
  | zero => omega
  | succ g =>
   simp only [decF]
   by_cases h0 : n < 10
   ·simp [h0]
   ·rw [if_neg h0, if_neg h0, ih g (n / 10) (by omega) (by omega)]
theorem jbv {n : Nat} (h : n < 10) : dec n = [UInt8.ofNat (48 + n)] := by simp [dec, decF, h]
theorem jcr {n : Nat} (h : 10 ≤ n) : dec n = dec (n / 10) ++ [UInt8.ofNat (48 + n % 10)] := by
 conv => lhs; unfold dec decF
 rw [if_neg (by omega), decF_le n (n / 10 + 1) (n / 10) (by omega) (by omega)]
 rfl
def decZ (z : Int) : List UInt8 := if z < 0 then 45 :: dec z.natAbs else dec z.natAbs
def pad : Nat → Nat → List UInt8
 | 0, _ => []
 | k + 1, n => pad k (n / 10) ++ [UInt8.ofNat (48 + n % 10)]
theorem jdM (k n : Nat) : (pad k n).length = k := by
 induction k generalizing n with
 | zero => rfl
 | succ k ih => simp [pad, ih]
theorem jhG {a : Nat} (ha : 0 < a) : ∀ (k b : Nat), b < 10 ^ k → dec (a * 10 ^ k + b) = dec a ++ pad k b
 | 0, b, h => by
  obtain rfl : b = 0 := by simp at h; omega
  simp [pad]
 | k + 1, b, h => by
  have hb : b / 10 < 10 ^ k := Nat.div_lt_of_lt_mul (by rw [Nat.pow_succ, jil] at h; exact h)
  have e : a * 10 ^ (k + 1) + b = (a * 10 ^ k) * 10 + b := by rw [Nat.pow_succ, Nat.mul_assoc]
  have hp : 1 ≤ a * 10 ^ k := Nat.mul_pos ha (Nat.pow_pos (by omega))
  have e1 : (a * 10 ^ (k + 1) + b) / 10 = a * 10 ^ k + b / 10 := by omega
  have e2 : (a * 10 ^ (k + 1) + b) % 10 = b % 10 := by omega
  rw [jcr (by omega), e1, e2, jhG ha k _ hb, jiR]
  rfl
theorem jbn : ∀ (k b : Nat), 0 < k → b < 10 ^ k → (dec b).length ≤ k ∧ pad k b = List.replicate (k - (dec b).length) 48 ++ dec b
 | 0, b, h, _ => by omega
 | k + 1, b, _, h => by
  by_cases hb : b < 10
  ·rw [jbv hb]
   simp only [List.length_singleton, pad]
   refine ⟨by omega, ?_⟩
   have e0 : b / 10 = 0 := by omega
   have e1 : b % 10 = b := by omega
   have hz : ∀ j, pad j 0 = List.replicate j 48 := by
    intro j
    induction j with
    | zero => rfl
    | succ j ih => rw [pad, Nat.zero_div, ih, List.replicate_succ']; rfl
   rw [e0, e1, hz]
   rfl
  ·have h10 : b / 10 < 10 ^ k := Nat.div_lt_of_lt_mul (by rw [Nat.pow_succ, jil] at h; exact h)
   have hk : 0 < k := by
    rcases jij k with e | e
    ·subst e; simp at h10; omega
    ·exact e
   obtain ⟨h1, h2⟩ := jbn k (b / 10) hk h10
   rw [jcr (by omega), jiP, List.length_singleton]
   refine ⟨by omega, ?_⟩
   rw [pad, h2, jiR]
   congr 2
   omega
def rdv (s : List UInt8) : Nat := s.foldl (fun v c => v * 10 + (c.toNat - 48)) 0
def isDig (c : UInt8) : Bool := decide (48 ≤ c.toNat ∧ c.toNat ≤ 57)
theorem rdv_foldl (s : List UInt8) (v : Nat) : s.foldl (fun v c => v * 10 + (c.toNat - 48)) v = v * 10 ^ s.length + rdv s := by
 induction s generalizing v with
 | nil => simp [rdv]
 | cons c s ih =>
  simp only [List.foldl_cons, rdv, jiY]
  rw [ih, ih (0 * 10 + (c.toNat - 48)), Nat.pow_succ, Nat.add_mul, Nat.zero_mul, jif, Nat.mul_assoc, jil 10]
  omega
theorem jbb (s t : List UInt8) : rdv (s ++ t) = rdv s * 10 ^ t.length + rdv t := by
 conv => lhs; unfold rdv
 rw [List.foldl_append, rdv_foldl]
 rfl
theorem jdK (c : UInt8) : rdv [c] = c.toNat - 48 := by simp [rdv]
theorem jcI {n : Nat} (h : n < 10) : (UInt8.ofNat (48 + n)).toNat = 48 + n := by
 rw [UInt8.toNat_ofNat']
 omega
theorem rdv_dec (n : Nat) : rdv (dec n) = n := by
 induction n using Nat.strongRecOn with
 | _ n ih =>
  by_cases h : n < 10
  ·rw [jbv h, jdK, jcI h]; omega
  ·rw [jcr (by omega), jbb, jdK, jcI (by omega), ih _ (by omega)]
   simp
   omega
theorem jgk (n : Nat) : ∀ c ∈ dec n, isDig c = true := by
 induction n using Nat.strongRecOn with
 | _ n ih =>
  intro c hc
  by_cases h : n < 10
  ·rw [jbv h] at hc
   simp at hc
   subst hc
   simp [isDig, jcI h]
   omega
  ·rw [jcr (by omega)] at hc
   rcases List.mem_append.1 hc with hc | hc
   ·exact ih _ (by omega) c hc
   ·simp at hc
    subst hc
    have := jcI (n := n % 10) (by omega)
    simp [isDig, this]
    omega
theorem ja4 (n : Nat) : 0 < (dec n).length := by
 by_cases h : n < 10
 ·rw [jbv h]; simp
 ·rw [jcr (by omega)]; simp
theorem jfs {s : List UInt8} (h : ∀ c ∈ s, isDig c = true) : rdv s < 10 ^ s.length := by
 induction s with
 | nil => simp [rdv]
 | cons c s ih =>
  have h1 := h c (by simp)
  have h2 := ih fun x hx => h x (by simp [hx])
  simp [isDig] at h1
  have e : rdv (c :: s) = (c.toNat - 48) * 10 ^ s.length + rdv s := by
   have := jbb [c] s
   rw [jdK] at this
   exact this
  rw [e, jiY, Nat.pow_succ]
  have h3 : (c.toNat - 48) * 10 ^ s.length ≤ 9 * 10 ^ s.length := Nat.mul_le_mul_right _ (by omega)
  omega
end Go.Nb
end
section
namespace Go.Proofs.YtgjgpdceghjajaaGreatDoor
open Go Go.V Go.Nb
theorem jaV {P : Program} {f : Nat} {fn : Func} {c : Code} {ds : List D} {r : D} (hf : P.funcs[f]? = some fn) (hn : (fn.name == "runtime.NumGoroutine") = false) (hb : fn.body = some c) (hr : r.pure = true)
  (h : ∀ (w : World) (hp : Pub) (vs : List Value), Agree hp w → DenL Env.dummy hp ds vs → Calls P f vs.toArray w fun e w' => (∃ v, e = .returned v ∧ ∀ hp, Den Env.dummy hp r v) ∧ RowKit.Below w.heap.size w w') : Called P f ds r :=
 ⟨jeZ hf hn hb, fun hp w vs ha hd => (h w hp vs ha hd).mono fun e w' ⟨⟨v, e1, e2⟩, e3⟩ => ⟨v, hp, e1, e2 hp, ha.of_blocks fun b ⟨o, v, hv⟩ => e3.block b (ha.lt hv), Pub.Le.refl _, e3, fun _ _ _ => rfl⟩⟩
theorem jdD (n : Nat) : Go.Lib.decDigits n = dec n := by
 induction n using Nat.strongRecOn with
 | _ n ih =>
  rw [Go.Lib.decDigits]
  by_cases h : n < 10
  ·rw [dif_pos h, jbv h]
  ·rw [dif_neg h, jcr (by omega), ih (n / 10) (by omega)]
theorem itoa_decZ (n : Int) : Go.Lib.itoa n = decZ n := by
 unfold Go.Lib.itoa decZ
 split
 ·rw [jdD]
 ·rw [jdD]
  congr 1
  omega
theorem je8 (n : Nat) (k : Nat) (h : n < 10 ^ k) (hk : 0 < k) : (dec n).length ≤ k := (jbn k n hk h).1
theorem itoa_c (n : Int) : Called Tryz.prog 169 [.int .i64 n] (.str (decZ n)) := by
 refine jaV Tryz.func169 rfl rfl rfl fun w hp vs ha hd => ?_
 simp only [DenL, Den] at hd
 obtain ⟨v, _, rfl, ⟨rfl, h1⟩, rfl⟩ := hd
 have ht : Go.Lib.TabIs Tryz.prog w "internal/strconv.uint64pow10" .u64 Go.Lib.pow10Tab := by
  obtain ⟨_, T, f, h2⟩ := ha.blk.1 2 _ (by unfold glb; first | exact List.mem_cons_of_mem _ (List.mem_cons_self ..) | exact List.mem_cons_self ..)
  unfold Go.Lib.TabIs World.var?
  rw [show Tryz.prog.globalNamed "internal/strconv.uint64pow10" = some 2 by kernel_rfl]
  simp only [Option.bind_some, h2]
  rfl
 obtain ⟨h3, h4⟩ := h1
 refine (Tryz.strconv_Itoa n h3 h4 w ht).mono fun e w' ⟨he, k, os, hw⟩ => ⟨⟨_, he, fun hp => ?_⟩, ?_⟩
 ·rw [itoa_decZ]
  simp only [Den]
  refine ⟨trivial, ?_⟩
  simp only [V.lo, V.hi] at h3 h4
  have hl := je8 n.natAbs 20 (by omega) (by omega)
  unfold decZ
  split
  ·rw [jiY]; omega
  ·omega
 ·rw [hw]
  exact Go.Lib.below_grow _ _ (jii _) _ _
theorem je9 (s p : List UInt8) : Called Tryz.prog 176 [.str s, .str p] (.tup [.str (Go.Lib.trimPrefix s p), .bool (Go.Lib.hasPrefix s p)]) := by
 refine jaV Tryz.func176 rfl rfl rfl fun w hp vs ha hd => ?_
 simp only [DenL, Den] at hd
 obtain ⟨v, _, rfl, ⟨rfl, h1⟩, v2, _, rfl, ⟨rfl, h2⟩, rfl⟩ := hd
 refine (Tryz.strings_CutPrefix ⟨s.toArray⟩ ⟨p.toArray⟩ w).mono fun e w' ⟨he, hw⟩ => ⟨⟨_, he, fun hp => ?_⟩, ?_⟩
 ·simp only [Den, DenL]
  refine ⟨_, rfl, _, _, rfl, ⟨rfl, ?_⟩, _, _, rfl, rfl, rfl⟩
  unfold Go.Lib.trimPrefix
  split
  ·rw [ji7]; omega
  ·exact h1
 ·rw [hw]; exact RowKit.Below.refl _ _
end Go.Proofs.YtgjgpdceghjajaaGreatDoor
end
section
namespace Go.Proofs.YtgjgpdceghjajaaGreatDoor
open Go Go.V Go.Nb Go.RowKit Go.Proofs
set_option maxHeartbeats 4000000
set_option maxRecDepth 1000000
theorem jfd {P : Program} {f : Nat} {ds : List D} {r : D} (c : Called P f ds r) (w : World) (hg : GlW w) {vs : List Value} (hd : DenL Env.dummy (pubOf w) ds vs) :
  Calls P f vs.toArray w fun e w' => ∃ v h', e = .returned v ∧ Den Env.dummy h' r v ∧ RowKit.Below w.heap.size w w' := by
 refine (c.call (pubOf w) w vs (jfg w hg) hd).mono fun e w' ⟨v, h', he, hv, _, _, hb, _⟩ => ⟨v, h', he, hv, hb⟩
theorem jgJ {B : Nat} {w w' : World} (h : GlW w) (hb : RowKit.Below B w w') (hlt : GlLt B) : GlW w' := ⟨fun g vs hg => by
 obtain ⟨h1, T, f, h2⟩ := h.1 g vs hg
 exact ⟨h1, T, f, by rw [hb.block g (hlt.1 g vs hg)]; exact h2⟩, fun g hg => by
 obtain ⟨tp, p, T, f, h2⟩ := h.2 g hg
 exact ⟨tp, p, T, f, by rw [hb.block g (hlt.2 g hg)]; exact h2⟩⟩
theorem glLt {w : World} (h : GlW w) : GlLt w.heap.size := ⟨fun g vs hg => by
 obtain ⟨_, T, f, h2⟩ := h.1 g vs hg
 exact (Array.getElem?_eq_some_iff.1 h2).1, fun g hg => by
 obtain ⟨_, _, T, f, h2⟩ := h.2 g hg
 exact (Array.getElem?_eq_some_iff.1 h2).1⟩
theorem itoa_k (n : Int) (h : InR .i64 n) (w : World) (hg : GlW w) : Calls Tryz.prog 169 #[.int .i64 n] w fun e w' => e = .returned (.string ⟨(decZ n).toArray⟩) ∧ RowKit.Below w.heap.size w w' := by
 refine (jfd (itoa_c n) w hg (vs := [.int .i64 n]) ?_).mono ?_
 ·simp only [DenL, Den]; exact ⟨_, _, rfl, ⟨rfl, h⟩, rfl⟩
 ·rintro e w' ⟨v, h', rfl, hv, hb⟩
  simp only [Den] at hv
  rw [hv.1]
  exact ⟨rfl, hb⟩
theorem isB_below {T e B b : Nat} {bs : List Value} {w w' : World} (h : Lib.IsBuilderF T e B b bs w) (hb : RowKit.Below w.heap.size w w') : Lib.IsBuilderF T e B b bs w' := by
 have key : ∀ p, Lib.BuilderAtF T e B b p bs w → Lib.BuilderAtF T e B b p bs w' := by
  rintro p ⟨h1, v, h2, ⟨h3, h4⟩, h5⟩
  refine ⟨h1, v, by rw [hb.block b (Array.getElem?_eq_some_iff.1 h2).1]; exact h2, ⟨h3, ?_⟩, h5⟩
  rcases h4 with h4 | ⟨g, cap, cur, fz, g1, g2, g3, g4⟩
  ·exact .inl h4
  ·exact .inr ⟨g, cap, cur, fz, g1, g2, by rw [hb.block g (Array.getElem?_eq_some_iff.1 g3).1]; exact g3, g4⟩
 exact h.elim (fun x => .inl (key _ x)) (fun x => .inr (key _ x))
theorem jgm (k : Nat) (bs : List UInt8) : Lib.byteCells (bs ++ List.replicate (k + 1) 48) = Lib.byteCells (bs ++ List.replicate k 48) ++ [.int .u8 48] := by
 rw [List.replicate_succ', ← jiR, Lib.byteCells_append]; rfl
theorem jgs (l : List UInt8) : Lib.strCells ⟨l.toArray⟩ = Lib.byteCells l := by
 simp [Lib.strCells, Lib.byteCells]
theorem put_k (B b : Nat) (bs : List UInt8) (g : Nat) (k : Int) (w : World) (hgl : GlW w) (hlt : GlLt B) (hB : B ≤ w.heap.size) (h : Lib.IsBuilderF 259 5 B b (Lib.byteCells bs) w) (hg : g < 1000000000) (hk : 0 ≤ k ∧ k ≤ 9) (hl : bs.length ≤ 1000000000000) :
  Calls Tryz.prog 186 #[.int .u32 g, .int .i64 k, .pointer (some ⟨b, 0, none⟩)] w fun e w' => e = .returned (.tuple #[]) ∧ Lib.IsBuilderF 259 5 B b (Lib.byteCells (bs ++ List.replicate (k.toNat - (dec g).length) 48 ++ dec g)) w' ∧ RowKit.Below B w w' := by
 go_enter Tryz.func186, Tryz.ntmps186
 go_wp2_with (go_at_call 169; refine (itoa_k (g : Int) ⟨by simp only [lo]; omega, by simp only [hi]; omega⟩ _ hgl).mono ?_)
 rintro e w1 ⟨rfl, hb1⟩
 have hdz : decZ (g : Int) = dec g := by unfold decZ; rw [if_neg (by omega), jix]
 rw [hdz]
 have hdl := je8 g 9 (by omega) (by omega)
 have h1 := isB_below h hb1
 have hs1 := hb1.size
 have hb1' := hb1.mono hB
 have hsz : (⟨(dec g).toArray⟩ : ByteArray).size = (dec g).length := by simp [ByteArray.size]
 go_wp2
 clear hdz
 go_loopw [13] (fun i wr => ∃ n : Nat, n ≤ k.toNat - (dec g).length ∧ i = .int .i64 n ∧ Lib.IsBuilderF 259 5 B b (Lib.byteCells (bs ++ List.replicate n 48)) wr ∧ RowKit.Below B w1 wr) (fun i _ => k.toNat - (dec g).length - (intOf i).toNat)
 case atStart => exact ⟨0, jib _, rfl, by simpa using h1, Below.refl _ _⟩
 case round =>
  obtain ⟨n, hn, rfl, hI, hbr⟩ := hrel
  have hsr := hbr.size
  have hlen : (Lib.byteCells (bs ++ List.replicate n 48)).length ≤ 1000000000100 := by rw [Lib.byteCells_length]; simp; omega
  by_cases hlt2 : (n : Int) < k - ((dec g).length : Int)
  ·go_wp2_with (go_at_call 187; refine (jgS B b _ 48 _ hI (by omega) (by omega)).mono ?_)
   rintro e W1 ⟨rfl, h2, b2, _⟩
   rw [← jgm] at h2
   go_wp2
   go_roundw
   case rel => exact ⟨n + 1, by omega, by go_num, Or.inr (by assumption), hbr.trans b2⟩
   case measure => simp [intOf]; omega
  ·have hne : n = k.toNat - (dec g).length := by omega
   go_wp2_with (go_at_call 188; refine (jfO B b _ _ _ hI (by omega) (by omega)).mono ?_)
   rintro e W1 rfl h2 b2 -
   rw [jgs, ← Lib.byteCells_append] at h2
   go_wp2
   go_end0
   exact ⟨rfl, Or.inr h2, (hb1'.trans hbr).trans b2⟩
end Go.Proofs.YtgjgpdceghjajaaGreatDoor
end
section
namespace Go.Proofs.YtgjgpdceghjajaaGreatDoor
open Go Go.V Go.Nb
theorem jcc {B : Nat} {xs : List Int} {k : Nat} (h : xs[k]? = some 0) : val B (xs.take (k + 1)) = val B (xs.take k) := by
 rw [jda h]; simp
theorem jgY {B : Nat} (hB : 2 ≤ B) {xs : List Int} {k : Nat} (hd : Dg B xs) (hv : val B (xs.take k) = val B xs) (hk : k ≤ xs.length) (h : k = 0 ∨ ∃ x, xs[k - 1]? = some x ∧ x ≠ 0) : xs.take k = mg B (val B xs).toNat := by
 rw [← hv]
 refine mg_of hB (jbi hd k) fun y hy => ?_
 rcases h with rfl | ⟨x, h1, h2⟩
 ·simp at hy
 ·have hk0 : 0 < k := by
   rcases jij k with e | e
   ·subst e; simp at hy
   ·exact e
  have hlen : (xs.take k).length = k := by rw [jiQ]; omega
  rw [List.getLast?_eq_getElem?, hlen, ji8 (by omega), h1] at hy
  cases hy
  exact h2
theorem cut_c (xs : List Int) (hd : Dg 10000 xs) (hl : xs.length ≤ 281474976710656) : Called Tryz.prog 156 [.ints .i64 xs] (.ints .i64 (mg 10000 (val 10000 xs).toNat)) := by
 refine V.en tbOk Tryz.func156 ?_
 (conv => whnf)
 refine V.st ?_
 refine jac (xs.length) (fun k => k ≤ xs.length ∧ val 10000 (xs.take k) = val 10000 xs) (fun k => k) (fun k => [(3, .int .i64 k)]) (fun k => []) ?_ ?_ ?_
 ·exact V.wk
 ·exact ⟨jii _, by rw [jja]⟩
 intro k hk
 (conv => whnf)
 refine V.st ?_
 refine V.br (fun hq => ?_) (fun hq => ?_)
 ·rw [jh9, decide_eq_true_eq, decide_eq_true_eq] at hq
  have hk0 : 0 < k := by omega
  obtain ⟨j, rfl⟩ : ∃ j, k = j + 1 := ⟨k - 1, by omega⟩
  obtain ⟨x, hx, ex⟩ := getxn (xs := xs) (k := j) (by omega)
  have e1 : ((((j + 1 : Nat) : Int) - 1).toNat) = j := by omega
  have e2 : (((j + 1 : Nat) : Int) - 1) = (j : Int) := by omega
  rw [e1, ex] at hq
  rw [hq.2] at hx
  refine V.r0 e2 ?_
  exact ⟨j, ⟨by omega, by rw [← hk.2, jcc hx]⟩, by omega, V.wk⟩
 ·have h3 : k = 0 ∨ ∃ x, xs[k - 1]? = some x ∧ x ≠ 0 := by
   rcases jij k with e | e
   ·exact .inl e
   ·refine .inr ?_
    obtain ⟨x, hx, ex⟩ := getxn (xs := xs) (k := (k - 1)) (by omega)
    refine ⟨x, hx, fun e0 => ?_⟩
    have e1 : (((k : Nat) : Int) - 1).toNat = k - 1 := by omega
    rw [e1, ex, e0] at hq
    simp at hq
    omega
  refine V.r0 @jih ?_
  exact Fin.of (by rw [jgY (by omega) hd hk.2 hk.1 h3])
theorem jfm (xs : List Int) (hd : Dg 1000000000 xs) (hl : xs.length ≤ 281474976710656) : Called Tryz.prog 183 [.ints .u32 xs] (.ints .u32 (mg 1000000000 (val 1000000000 xs).toNat)) := by
 refine V.en tbOk Tryz.func183 ?_
 (conv => whnf)
 refine V.st ?_
 refine jac (xs.length) (fun k => k ≤ xs.length ∧ val 1000000000 (xs.take k) = val 1000000000 xs) (fun k => k) (fun k => [(0, .ints .u32 (xs.take k))]) (fun k => []) ?_ ?_ ?_
 ·rw [jja]
  exact V.wk
 ·exact ⟨jii _, by rw [jja]⟩
 intro k hk
 have hlt : (xs.take k).length = k := by rw [jiQ]; omega
 refine V.r0 hlt ?_
 refine V.br (fun hq => ?_) (fun hq => ?_)
 ·rw [jh9, decide_eq_true_eq, decide_eq_true_eq] at hq
  have hk0 : 0 < k := by omega
  obtain ⟨j, rfl⟩ : ∃ j, k = j + 1 := ⟨k - 1, by omega⟩
  obtain ⟨x, hx, ex⟩ := getxn (xs := xs) (k := j) (by omega)
  have e1 : ((((j + 1 : Nat) : Int) - 1).toNat) = j := by omega
  have e2 : (((j + 1 : Nat) : Int) - 1) = (j : Int) := by omega
  have e3 : (xs.take (j + 1)).getD j 0 = x := by
   rw [jiJ, ji8 (by omega), hx]; rfl
  have e4 : (xs.take (j + 1)).take j = xs.take j := by rw [List.take_take, Nat.min_eq_left (by omega)]
  rw [e1, e3] at hq
  rw [hq.2] at hx
  refine V.r0 (V.a4 e2 hlt @jih e4) ?_
  exact ⟨j, ⟨by omega, by rw [← hk.2, jcc hx]⟩, by omega, V.wk⟩
 ·have h3 : k = 0 ∨ ∃ x, xs[k - 1]? = some x ∧ x ≠ 0 := by
   rcases jij k with e | e
   ·exact .inl e
   ·refine .inr ?_
    obtain ⟨x, hx, ex⟩ := getxn (xs := xs) (k := (k - 1)) (by omega)
    refine ⟨x, hx, fun e0 => ?_⟩
    have e1 : (((k : Nat) : Int) - 1).toNat = k - 1 := by omega
    have e3 : (xs.take k).getD (k - 1) 0 = x := by
     rw [jiJ, ji8 (by omega), hx]; rfl
    rw [e1, e3, e0] at hq
    simp at hq
    omega
  (conv => whnf)
  refine V.st ?_
  exact Fin.of (by rw [jgY (by omega) hd hk.2 hk.1 h3])
def plD (z : Int) : D := .agg [.bool (decide (z < 0)), .ints .i64 (mg 10000 z.natAbs)]
theorem jeL (b : Bool) (xs : List Int) (hd : Dg 10000 xs) (hl : xs.length ≤ 281474976710656) : Called Tryz.prog 117 [.bool b, .ints .i64 xs] (plD (if b then -(val 10000 xs) else val 10000 xs)) := by
 have hc := cut_c xs hd hl
 have h0 := jan hd
 obtain ⟨n, hn⟩ : ∃ n : Nat, val 10000 xs = n := ⟨(val 10000 xs).toNat, by omega⟩
 have hlen : ((0 : Int) < ((mg 10000 n).length : Int)) ↔ 0 < n := by
  have := jb8 (B := 10000) (n := n) (by omega)
  rcases jij n with e | e
  ·rw [e]; simp [jck]
  ·have h1 : mg 10000 n ≠ [] := fun h => by have := this.1 h; omega
   have := List.length_pos_iff.2 h1
   constructor <;> intro <;> omega
 rw [hn] at hc ⊢
 rw [jih] at hc
 refine V.en tbOk Tryz.func117 ?_
 (conv => whnf)
 refine V.st ?_
 repeat ((try ((with_reducible refine .ext ?_); (conv => whnf))); (with_reducible refine jaa (r := ?_) ?_ ?_); rotate_left; (focus (first | exact (hc))); (conv => whnf); refine V.st ?_)
 refine Fin.of ?_
 cases b with
 | false =>
  have e1 : decide ((n : Int) < 0) = false := by simp
  simp [plD, e1]
 | true =>
  have e1 : decide (-(n : Int) < 0) = decide (((mg 10000 n).length : Int) > 0) := by
   apply decide_eq_decide.2
   constructor
   ·intro h; exact hlen.2 (by omega)
   ·intro h; have := hlen.1 h; omega
  simp [plD]
  omega
end Go.Proofs.YtgjgpdceghjajaaGreatDoor
end
