/- What some functions of the program answer at values that mean given lists, texts and numbers, each proved of the program's own code: part 5. Conditions: those that each theorem names. -/
import Derived.Test.YtlcaefokcnohnaaGreatDoorSi
import Derived.WalkKit
import Derived.BigCall
import Derived.Test.YtlcaefokcnohnaaGreatDoorH3
import Derived.Test.YtlcaefokcnohnaaGreatDoorW9
import Derived.Test.YtlcaefokcnohnaaGreatDoorH4
import Derived.Test.YtlcaefokcnohnaaGreatDoorH2
set_option linter.unusedSimpArgs false
set_option linter.unusedVariables false
set_option maxHeartbeats 8000000
set_option maxRecDepth 100000
section
namespace Go.Proofs.YtlcaefokcnohnaaGreatDoor
open Go Go.RowKit Go.Proofs
set_option maxHeartbeats 4000000
set_option maxRecDepth 1000000
theorem bTp : Tryz.prog.underlying 150 = some (.pointer 152) := by kernel_rfl
theorem bUp : Tryz.prog.underlying 176 = some .unsafePointer := by kernel_rfl
theorem bSl : Tryz.prog.underlying 29 = some (.slice 5) := by kernel_rfl
theorem bStr : Tryz.prog.underlying 9 = some .string := by kernel_rfl
theorem bSize : (Tryz.prog.info? 152).map (·.size) = some 2 := by kernel_rfl
theorem bLies : liesAt Tryz.prog Tryz.prog.depth 152 (2 / Tryz.prog.cellsOf 152) 0 152 1 = true := by kernel_rfl
theorem bByte : (Tryz.prog.info? 5).map (fun i => (i.zero, i.size, i.bytes)) = some (some (.int .u8 0), 1, 1) := by kernel_rfl
theorem copyCheck_used (b : Nat) (w : World) (h0 : w.cell? ⟨b, 0, none⟩ = some (.pointer (some ⟨b, 0, none⟩))) :
    Calls Tryz.prog 101 #[.pointer (some ⟨b, 0, none⟩)] w fun e w' => e = .returned (.tuple #[]) ∧ w' = w := by
  obtain ⟨j, hj, _⟩ := Option.map_eq_some_iff.1 bSize
  go_enter Tryz.func101, Tryz.ntmps101
  go_wp2
  rw [Lib.run_neq_ptr_same w _ bTp hj]
  go_wp2
  go_end0
  exact ⟨rfl, rfl⟩
theorem copyCheck_fresh (b : Nat) (w : World) (h0 : w.cell? ⟨b, 0, none⟩ = some (.pointer none)) (hsh : w.shape? b = some (152, 2)) (hfz : w.frozen? ⟨b, 0, none⟩ = false) :
    Calls Tryz.prog 101 #[.pointer (some ⟨b, 0, none⟩)] w fun e w' => e = .returned (.tuple #[]) ∧ w' = w.setCell ⟨b, 0, none⟩ (.pointer (some ⟨b, 0, none⟩)) := by
  obtain ⟨j, hj, hjs⟩ := Option.map_eq_some_iff.1 bSize
  go_enter Tryz.func101, Tryz.ntmps101
  go_wp2
  rw [Lib.run_to_unsafe w ⟨b, 0, none⟩ bTp bUp hj (by rw [hjs]; decide) hsh (Nat.zero_lt_succ 1)]
  simp only [Result.andThen]
  rw [Oper.upon_value]
  go_wp2
  rw [run_callFunc_extern Tryz.func108 (by kernel_rfl) (by kernel_rfl) (by kernel_rfl) (e := Extern.AbiNoEscape.same) (by kernel_rfl)]
  rw [Lib.run_noEscape]
  simp only [Result.andThen]
  rw [Oper.upon_value]
  go_wp2
  rw [Lib.run_from_unsafe w ⟨b, 0, none⟩ bUp bTp hj hsh bLies]
  simp only [Result.andThen]
  rw [Oper.upon_value]
  go_wp2
  go_end0
  exact ⟨rfl, rfl⟩
theorem copyCheck_k (B b : Nat) (bs : List Value) (w : World) (h : Lib.IsBuilderF 152 5 B b bs w) :
    Calls Tryz.prog 101 #[.pointer (some ⟨b, 0, none⟩)] w fun e w' => e = .returned (.tuple #[]) ∧ (Lib.BuilderAtF 152 5 B b (.pointer (some ⟨b, 0, none⟩)) bs w' ∧ Below B w w' ∧ Lib.OthersKept 5 (some b) w w') := by
  rcases h with h | h
  · refine (copyCheck_fresh b w h.cell0 h.shape h.frozen0).mono ?_
    rintro e w' ⟨rfl, rfl⟩
    exact ⟨rfl, h.used _, (Below.refl B w).setCell (p := ⟨b, 0, none⟩) h.1 _, (Lib.OthersKept.refl _ _ w).setCell ⟨b, 0, none⟩ rfl _⟩
  · refine (copyCheck_used b w h.cell0).mono ?_
    rintro e w' ⟨rfl, rfl⟩
    exact ⟨rfl, h, Below.refl B _, Lib.OthersKept.refl _ _ _⟩
theorem writeByte_k (B b : Nat) (bs : List Value) (c : Int) (w : World) (h : Lib.IsBuilderF 152 5 B b bs w) (hlen : bs.length + 1 ≤ 140737488355328) (hBw : B ≤ w.heap.size) :
    Calls Tryz.prog 88 #[.pointer (some ⟨b, 0, none⟩), .int .u8 c] w fun e w' => e = .returned .nilIface ∧ (Lib.BuilderAtF 152 5 B b (.pointer (some ⟨b, 0, none⟩)) (bs ++ [.int .u8 c]) w' ∧ Below B w w' ∧ Lib.OthersKept 5 (some b) w w') := by
  obtain ⟨i0, hi, hz0, hz1, hz2⟩ := info_parts bByte
  go_enter Tryz.func88, Tryz.ntmps88
  go_wp2_with (go_at_call 101; refine (copyCheck_k B b bs _ h).mono ?_)
  rintro e w1 ⟨rfl, h1, hb1, hk1⟩
  obtain ⟨hB, v, hbk, hown, hne⟩ := h1
  have c0 : w1.cell? ⟨b, 0, none⟩ = some (.pointer (some ⟨b, 0, none⟩)) := by rw [Lib.cell_of_heap hbk]; rfl
  have c1 : w1.cell? ⟨b, 1, none⟩ = some v := by rw [Lib.cell_of_heap hbk]; rfl
  go_wp2_with (at_builtin; refine wpList_append_ownF _ rfl _ _ 29 rfl B 5 i0 (.int .u8 0) 1 1 bSl hi hz0 hz1 hz2 rfl (by decide) _ _ _ rfl (hown.alloc _) ⟨w1.heap.size, 0, none⟩ 1 1 [.int .u8 c] rfl rfl ?c1 ?c2 ?c3 ?c4 ?c5 ?_)
  case c1 =>
    intro j u hj
    match j, hj with
    | 0, hj => simp at hj; subst hj; simp [Addr.add]
  case c2 => intro u hu; simp at hu; subst hu; rfl
  case c3 => unfold maxLen; omega
  case c4 => omega
  case c5 => have := hb1.size; simp; omega
  intro v' w2 hown' hgrow _
  have hlt : b < w1.heap.size := by
    rcases Nat.lt_or_ge b w1.heap.size with h' | h'
    · exact h'
    · simp [Array.getElem?_eq_none h'] at hbk
  have hb2 : w2.heap[b]? = some (.cells #[.pointer (some ⟨b, 0, none⟩), v] 152 (0, 0)) := by
    rw [hgrow.block b (by simp; omega) (fun e => hne e.symm), Lib.alloc_old w1 _ b hlt]
    exact hbk
  have d0 : w2.cell? ⟨b, 0, none⟩ = some (.pointer (some ⟨b, 0, none⟩)) := by rw [Lib.cell_of_heap hb2]; rfl
  have d1 : w2.cell? ⟨b, 1, none⟩ = some v := by rw [Lib.cell_of_heap hb2]; rfl
  have f1 : w2.frozen? ⟨b, 1, none⟩ = false := Lib.frozen_of_heap hb2 1
  obtain ⟨g, cap, rfl⟩ : ∃ g cap, v' = .slice (some ⟨g, 0, none⟩) (bs.length + 1) cap := by
    rcases hown'.2 with ⟨_, h0⟩ | ⟨g, cap, cur, fz, hv, _⟩
    · omega
    · exact ⟨g, cap, hv⟩
  go_wp2
  go_ret
  refine ⟨rfl, ?_, ?_, ((hk1.alloc _).grown hgrow (Lib.ownsRowF_kind (hown.alloc _))).setCell ⟨b, 1, none⟩ rfl _⟩
  · exact Lib.BuilderAtF.put (T := 152) (e := 5) hB hb2 (bs' := bs ++ [.int .u8 c]) (by simpa using hown') (by decide)
  · exact ((hb1.alloc (by have := hb1.size; omega) _).grown hgrow (by have := hb1.size; simp; omega) (fun k hk => (hown.lt k hk).1)).setCell (p := ⟨b, 1, none⟩) hB _
theorem writeString_k (B b : Nat) (bs : List Value) (s : ByteArray) (w : World) (h : Lib.IsBuilderF 152 5 B b bs w) (hlen : bs.length + s.size ≤ 140737488355328) (hBw : B ≤ w.heap.size) :
    Calls Tryz.prog 89 #[.pointer (some ⟨b, 0, none⟩), .string s] w fun e w' => e = .returned (.tuple #[.int .i64 s.size, .nilIface]) ∧ (Lib.BuilderAtF 152 5 B b (.pointer (some ⟨b, 0, none⟩)) (bs ++ Lib.strCells s) w' ∧ Below B w w' ∧ Lib.OthersKept 5 (some b) w w') := by
  obtain ⟨i0, hi, hz0, hz1, hz2⟩ := info_parts bByte
  go_enter Tryz.func89, Tryz.ntmps89
  go_wp2_with (go_at_call 101; refine (copyCheck_k B b bs _ h).mono ?_)
  rintro e w1 ⟨rfl, h1, hb1, hk1⟩
  obtain ⟨hB, v, hbk, hown, hne⟩ := h1
  have c0 : w1.cell? ⟨b, 0, none⟩ = some (.pointer (some ⟨b, 0, none⟩)) := by rw [Lib.cell_of_heap hbk]; rfl
  have c1 : w1.cell? ⟨b, 1, none⟩ = some v := by rw [Lib.cell_of_heap hbk]; rfl
  go_wp2_with (at_builtin; refine Lib.wpList_append_own_stringF _ rfl _ _ 29 9 rfl B 5 i0 bSl bStr hi hz0 hz1 hz2 _ _ _ rfl hown s rfl ?c3 ?c4 ?c5 ?_)
  case c3 => unfold maxLen; omega
  case c4 => omega
  case c5 => have := hb1.size; omega
  intro v' w2 hown' hgrow _
  have hlt : b < w1.heap.size := by
    rcases Nat.lt_or_ge b w1.heap.size with h' | h'
    · exact h'
    · simp [Array.getElem?_eq_none h'] at hbk
  have hb2 : w2.heap[b]? = some (.cells #[.pointer (some ⟨b, 0, none⟩), v] 152 (0, 0)) := by
    rw [hgrow.block b hlt (fun e => hne e.symm)]
    exact hbk
  have d0 : w2.cell? ⟨b, 0, none⟩ = some (.pointer (some ⟨b, 0, none⟩)) := by rw [Lib.cell_of_heap hb2]; rfl
  have d1 : w2.cell? ⟨b, 1, none⟩ = some v := by rw [Lib.cell_of_heap hb2]; rfl
  have f1 : w2.frozen? ⟨b, 1, none⟩ = false := Lib.frozen_of_heap hb2 1
  obtain ⟨ao, n', cap, rfl⟩ : ∃ ao n' cap, v' = .slice ao n' cap := by
    rcases hown'.2 with ⟨hv, _⟩ | ⟨g, cap, cur, fz, hv, _⟩
    · exact ⟨_, _, _, hv⟩
    · exact ⟨_, _, _, hv⟩
  go_wp2
  go_ret2
  refine ⟨rfl, ?_, ?_, (hk1.grown hgrow (Lib.ownsRowF_kind hown)).setCell ⟨b, 1, none⟩ rfl _⟩
  · exact Lib.BuilderAtF.put (T := 152) (e := 5) hB hb2 (bs' := bs ++ Lib.strCells s) (by simpa [Lib.strCells_length] using hown') (by decide)
  · exact (hb1.grown hgrow (by have := hb1.size; omega) (fun k hk => (hown.lt k hk).1)).setCell (p := ⟨b, 1, none⟩) hB _
end Go.Proofs.YtlcaefokcnohnaaGreatDoor
end
section
namespace Go.Proofs.YtlcaefokcnohnaaGreatDoor
open Go Go.V Go.Nb Go.RowKit Go.Proofs
set_option maxHeartbeats 4000000
set_option maxRecDepth 1000000
theorem called_at {P : Program} {f : Nat} {ds : List D} {r : D} (c : Called P f ds r) (w : World) (hg : GlW w) {vs : List Value} (hd : DenL Env.dummy (pubOf w) ds vs) :
    Calls P f vs.toArray w fun e w' => ∃ v h', e = .returned v ∧ Den Env.dummy h' r v ∧ RowKit.Below w.heap.size w w' := by
  refine (c.call (pubOf w) w vs (agree_pubOf w hg) hd).mono fun e w' ⟨v, h', he, hv, _, _, hb, _⟩ => ⟨v, h', he, hv, hb⟩
theorem glW_below {B : Nat} {w w' : World} (h : GlW w) (hb : RowKit.Below B w w') (hlt : GlLt B) : GlW w' := ⟨fun g vs hg => by
  obtain ⟨h1, T, f, h2⟩ := h.1 g vs hg
  exact ⟨h1, T, f, by rw [hb.block g (hlt.1 g vs hg)]; exact h2⟩, fun g hg => by
  obtain ⟨tp, p, T, f, h2⟩ := h.2 g hg
  exact ⟨tp, p, T, f, by rw [hb.block g (hlt.2 g hg)]; exact h2⟩⟩
theorem glLt {w : World} (h : GlW w) : GlLt w.heap.size := ⟨fun g vs hg => by
  obtain ⟨_, T, f, h2⟩ := h.1 g vs hg
  exact (Array.getElem?_eq_some_iff.1 h2).1, fun g hg => by
  obtain ⟨_, _, T, f, h2⟩ := h.2 g hg
  exact (Array.getElem?_eq_some_iff.1 h2).1⟩
theorem itoa_k (n : Int) (h : InR .i64 n) (w : World) (hg : GlW w) : Calls Tryz.prog 57 #[.int .i64 n] w fun e w' => e = .returned (.string ⟨(decZ n).toArray⟩) ∧ RowKit.Below w.heap.size w w' := by
  refine (called_at (itoa_c n) w hg (vs := [.int .i64 n]) ?_).mono ?_
  · simp only [DenL, Den]; exact ⟨_, _, rfl, ⟨rfl, h⟩, rfl⟩
  · rintro e w' ⟨v, h', rfl, hv, hb⟩
    simp only [Den] at hv
    rw [hv.1]
    exact ⟨rfl, hb⟩
theorem isB_below {T e B b : Nat} {bs : List Value} {w w' : World} (h : Lib.IsBuilderF T e B b bs w) (hb : RowKit.Below w.heap.size w w') : Lib.IsBuilderF T e B b bs w' := by
  have key : ∀ p, Lib.BuilderAtF T e B b p bs w → Lib.BuilderAtF T e B b p bs w' := by
    rintro p ⟨h1, v, h2, ⟨h3, h4⟩, h5⟩
    refine ⟨h1, v, by rw [hb.block b (Array.getElem?_eq_some_iff.1 h2).1]; exact h2, ⟨h3, ?_⟩, h5⟩
    rcases h4 with h4 | ⟨g, cap, cur, fz, g1, g2, g3, g4⟩
    · exact .inl h4
    · exact .inr ⟨g, cap, cur, fz, g1, g2, by rw [hb.block g (Array.getElem?_eq_some_iff.1 g3).1]; exact g3, g4⟩
  exact h.elim (fun x => .inl (key _ x)) (fun x => .inr (key _ x))
theorem byteCells_rep (k : Nat) (bs : List UInt8) : Lib.byteCells (bs ++ List.replicate (k + 1) 48) = Lib.byteCells (bs ++ List.replicate k 48) ++ [.int .u8 48] := by
  rw [List.replicate_succ', ← List.append_assoc, Lib.byteCells_append]; rfl
theorem strCells_dec (l : List UInt8) : Lib.strCells ⟨l.toArray⟩ = Lib.byteCells l := by
  simp [Lib.strCells, Lib.byteCells]
theorem put_k (B b : Nat) (bs : List UInt8) (g : Nat) (k : Int) (w : World) (hgl : GlW w) (hlt : GlLt B) (hB : B ≤ w.heap.size) (h : Lib.IsBuilderF 152 5 B b (Lib.byteCells bs) w) (hg : g < 1000000000) (hk : 0 ≤ k ∧ k ≤ 9) (hl : bs.length ≤ 1000000000000) :
    Calls Tryz.prog 87 #[.int .u32 g, .int .i64 k, .pointer (some ⟨b, 0, none⟩)] w fun e w' => e = .returned (.tuple #[]) ∧ Lib.IsBuilderF 152 5 B b (Lib.byteCells (bs ++ List.replicate (k.toNat - (dec g).length) 48 ++ dec g)) w' ∧ RowKit.Below B w w' := by
  go_enter Tryz.func87, Tryz.ntmps87
  go_wp2_with (go_at_call 57; refine (itoa_k (g : Int) ⟨by simp only [lo]; omega, by simp only [hi]; omega⟩ _ hgl).mono ?_)
  rintro e w1 ⟨rfl, hb1⟩
  have hdz : decZ (g : Int) = dec g := by unfold decZ; rw [if_neg (by omega), Int.natAbs_natCast]
  rw [hdz]
  have hdl := dec_len g 9 (by omega) (by omega)
  have h1 := isB_below h hb1
  have hs1 := hb1.size
  have hb1' := hb1.mono hB
  have hsz : (⟨(dec g).toArray⟩ : ByteArray).size = (dec g).length := by simp [ByteArray.size]
  go_wp2
  clear hdz
  go_loopw [13] (fun i wr => ∃ n : Nat, n ≤ k.toNat - (dec g).length ∧ i = .int .i64 n ∧ Lib.IsBuilderF 152 5 B b (Lib.byteCells (bs ++ List.replicate n 48)) wr ∧ RowKit.Below B w1 wr) (fun i _ => k.toNat - (dec g).length - (intOf i).toNat)
  case atStart => exact ⟨0, Nat.zero_le _, rfl, by simpa using h1, Below.refl _ _⟩
  case round =>
    obtain ⟨n, hn, rfl, hI, hbr⟩ := hrel
    have hsr := hbr.size
    have hlen : (Lib.byteCells (bs ++ List.replicate n 48)).length ≤ 1000000000100 := by rw [Lib.byteCells_length]; simp; omega
    by_cases hlt2 : (n : Int) < k - ((dec g).length : Int)
    · go_wp2_with (go_at_call 88; refine (writeByte_k B b _ 48 _ hI (by omega) (by omega)).mono ?_)
      rintro e W1 ⟨rfl, h2, b2, _⟩
      rw [← byteCells_rep] at h2
      go_wp2
      go_roundw
      case rel => exact ⟨n + 1, by omega, by go_num, Or.inr (by assumption), hbr.trans b2⟩
      case measure => simp [intOf]; omega
    · have hne : n = k.toNat - (dec g).length := by omega
      go_wp2_with (go_at_call 89; refine (writeString_k B b _ _ _ hI (by omega) (by omega)).mono ?_)
      rintro e W1 rfl h2 b2 -
      rw [strCells_dec, ← Lib.byteCells_append] at h2
      go_wp2
      go_end0
      exact ⟨rfl, Or.inr h2, (hb1'.trans hbr).trans b2⟩
end Go.Proofs.YtlcaefokcnohnaaGreatDoor
end
section
namespace Go.Proofs.YtlcaefokcnohnaaGreatDoor
open Go Go.V Go.Nb Go.RowKit Go.Proofs
set_option maxHeartbeats 4000000
set_option maxRecDepth 1000000
theorem zero_k (n : Nat) (w : World) (hg : GlW w) (v : Value) (hv : Den Env.dummy (pubOf w) (.ints .u32 (mg 1000000000 n)) v) : Calls Tryz.prog 53 #[v] w fun e w' => e = .returned (.bool (decide (n = 0))) ∧ RowKit.Below w.heap.size w w' := by
  refine (called_at (zero_c n) w hg (vs := [v]) ?_).mono ?_
  · simp only [DenL]; exact ⟨_, _, rfl, hv, rfl⟩
  · rintro e w' ⟨v, h', rfl, hv, hb⟩
    simp only [Den] at hv
    rw [hv]
    exact ⟨rfl, hb⟩
def cv : Nat → Int
  | 0 => -1
  | k + 1 => k
theorem cv_eq (m : Nat) : cv m = (m : Int) - 1 := by cases m <;> simp [cv]
theorem digits_w (n : Nat) (hn : 0 < n) (hl : (mg 1000000000 n).length ≤ 100000000) (w : World) (hg : GlW w) (hlt : GlLt w.heap.size) (v : Value) (hv : Den Env.dummy (pubOf w) (.ints .u32 (mg 1000000000 n)) v) :
    Calls Tryz.prog 71 #[v] w fun e w' => e = .returned (.string ⟨(dec n).toArray⟩) ∧ RowKit.Below w.heap.size w w' := by
  have hz := zero_k n w hg v hv
  have hdx := mg_dg (B := 1000000000) (by omega) n
  have hvx := mg_val (B := 1000000000) (by omega) n
  have hlx := mg_last (B := 1000000000) (n := n) (by omega)
  have hnil := mg_nil (B := 1000000000) (n := n) (by omega)
  generalize mg 1000000000 n = xs at *
  simp only [Den, slIntsOk] at hv
  obtain ⟨a, cap, rfl, hcap, _, _, ha⟩ := hv
  obtain ⟨j, hj⟩ : ∃ j, xs.length = j + 1 := ⟨xs.length - 1, by
    have : xs ≠ [] := fun e => by have := hnil.1 e; omega
    have := List.length_pos_iff.2 this
    omega⟩
  obtain ⟨ad, rfl⟩ : ∃ ad, a = some ad := by
    cases a with
    | none => obtain ⟨h1, _⟩ := ha; rw [h1] at hj; simp at hj
    | some ad => exact ⟨ad, rfl⟩
  obtain ⟨blk, off, spot⟩ := ad
  simp only at ha
  obtain ⟨rfl, hcell⟩ := ha
  have hne : decide (n = 0) = false := decide_eq_false (by omega)
  rw [hne] at hz
  have hc0 : ∀ i, i < xs.length → w.cell? ⟨blk, off + i, none⟩ = some (.int .u32 (xs.getD i 0)) := fun i hi => by
    have := hcell i (xs.getD i 0) (by rw [List.getD_eq_getElem?_getD, List.getElem?_eq_getElem hi]; rfl)
    exact this
  have hblk : blk < w.heap.size := by
    have := hc0 0 (by omega)
    rcases Nat.lt_or_ge blk w.heap.size with h | h
    · exact h
    · simp [World.cell?, Array.getElem?_eq_none h] at this
  clear hcell
  rw [hj] at hz ⊢
  go_enter Tryz.func71, Tryz.ntmps71
  go_wp2_with (go_at_call 53; refine hz.mono ?_)
  rintro e w1 ⟨rfl, hb1⟩
  have hs1 := hb1.size
  have hc1 : (w1.alloc (.cells #[.pointer none, .slice none 0 0] 152)).cell? ⟨blk, off + j, none⟩ = some (.int .u32 (xs.getD j 0)) := by
    have h1 := hb1.alloc (o := .cells #[.pointer none, .slice none 0 0] 152) (by omega)
    rw [h1.cell (by exact hblk)]
    exact hc0 j (by omega)
  have hI0 := Lib.IsBuilderF.of (Lib.fresh_isBuilder 152 5 w1)
  have hgl1 : GlW (w1.alloc (.cells #[.pointer none, .slice none 0 0] 152)) := glW_below hg (hb1.alloc (by omega) _) hlt
  have hlt1 : GlLt w1.heap.size := ⟨fun g vs h => by have := hlt.1 g vs h; omega, fun g h => by have := hlt.2 g h; omega⟩
  have bx := dg_getD (by omega) hdx j
  have hx1 : xs.getD j 0 ≠ 0 := by
    refine hlx _ ?_
    rw [List.getLast?_eq_getElem?, hj, List.getD_eq_getElem?_getD, show j + 1 - 1 = j by omega, List.getElem?_eq_getElem (by omega)]; rfl
  have hvj : val 1000000000 (xs.drop j) = xs.getD j 0 := by rw [val_drop', show xs.drop (j + 1) = [] from List.drop_eq_nil_of_le (by omega)]; simp [val]
  obtain ⟨g, hgx⟩ : ∃ g : Nat, xs.getD j 0 = g := ⟨(xs.getD j 0).toNat, by omega⟩
  rw [hgx] at bx hx1 hvj hc1
  have hput := put_k w1.heap.size w1.heap.size [] g 0 (w1.alloc (.cells #[.pointer none, .slice none 0 0] 152)) hgl1 hlt1 (by simp) hI0 (by omega) (by omega) (by simp)
  have e0 : List.replicate ((0 : Int).toNat - (dec g).length) (48 : UInt8) = [] := by simp
  rw [e0, List.append_nil, List.nil_append] at hput
  clear hz hI0
  go_wp2_with (go_at_call 87; refine hput.mono ?_)
  rintro e w2 ⟨rfl, hI2, hb2⟩
  have hbw2 : RowKit.Below w.heap.size w w2 := (hb1.alloc (by omega) _).trans (hb2.mono hs1)
  have hs2 : w1.heap.size + 1 ≤ w2.heap.size := by have := hb2.size; simpa using this
  have hd0 : dec g = dec (val 1000000000 (xs.drop j)).toNat := by rw [hvj, Int.toNat_natCast]
  rw [hd0] at hI2
  clear hput hd0
  go_wp2
  go_loopw [6] (fun i wr => ∃ m : Nat, m ≤ j ∧ i = .int .i64 (cv m) ∧ Lib.IsBuilderF 152 5 w1.heap.size w1.heap.size (Lib.byteCells (dec (val 1000000000 (xs.drop m)).toNat)) wr ∧ RowKit.Below w1.heap.size w2 wr) (fun i _ => (intOf i + 1).toNat)
  case atStart => exact ⟨j, Nat.le_refl _, by rw [cv_eq], hI2, Below.refl _ _⟩
  case round =>
    obtain ⟨m, hm, rfl, hI, hbr⟩ := hrel
    have hsr := hbr.size
    have hbw : RowKit.Below w.heap.size w wr := hbw2.trans (hbr.mono hs1)
    rcases m with _ | m
    · rw [List.drop_zero, hvx, Int.toNat_natCast] at hI
      simp only [cv]
      go_wp2_with (go_at_call 90; refine (Tryz.Builder_String_any_k w1.heap.size w1.heap.size (dec n) _ hI (by omega)).mono ?_)
      intros
      rename_i e W1 h2
      obtain ⟨rfl, _, b2, _⟩ := h2
      go_wp2
      go_ret
      exact ⟨rfl, hbw.trans (b2.mono hs1)⟩
    · simp only [cv]
      have bm := dg_getD (by omega) hdx m
      have hcm : wr.cell? ⟨blk, off + m, none⟩ = some (.int .u32 (xs.getD m 0)) := by
        rw [hbw.cell (by exact hblk)]; exact hc0 m (by omega)
      obtain ⟨y, hy⟩ : ∃ y : Nat, xs.getD m 0 = y := ⟨(xs.getD m 0).toNat, by omega⟩
      have hvm := val_drop (B := 1000000000) (l := xs) (k := m) (by omega)
      have hv0 := val_nonneg (dg_drop hdx (m + 1))
      have hvp : 0 < val 1000000000 (xs.drop (m + 1)) := by
        have h1 := val_split 1000000000 (xs.drop (m + 1)) (j - (m + 1)) (by rw [List.length_drop]; omega)
        rw [List.drop_drop, show m + 1 + (j - (m + 1)) = j by omega, hvj] at h1
        have h2 := val_nonneg (dg_take (dg_drop hdx (m + 1)) (j - (m + 1)))
        have h3 : (0 : Int) < ((1000000000 : Nat) : Int) ^ (j - (m + 1)) * g := Int.mul_pos (pow_pos' (by omega) _) (by omega)
        omega
      rw [hy] at bm hcm hvm
      obtain ⟨u, hu⟩ : ∃ u : Nat, val 1000000000 (xs.drop (m + 1)) = u := ⟨(val 1000000000 (xs.drop (m + 1))).toNat, by omega⟩
      rw [hu, Int.toNat_natCast] at hI
      have hdp := dec_pad (a := u) (by omega) 9 y (by omega)
      have hpd := pad_dec 9 y (by omega) (by omega)
      have hnew : (val 1000000000 (xs.drop m)).toNat = u * 10 ^ 9 + y := by rw [hvm, hu]; omega
      rw [hpd.2, ← hnew, ← List.append_assoc] at hdp
      have hdlen : (dec u).length ≤ 1000000000000 := by
        have h1 : u < 10 ^ (9 * (j + 1)) := by
          have h2 := val_lt (dg_drop hdx (m + 1))
          rw [hu, List.length_drop, hj] at h2
          have h3 : (1000000000 : Nat) ^ (j + 1 - (m + 1)) ≤ 1000000000 ^ (j + 1) := Nat.pow_le_pow_right (by omega) (by omega)
          rw [← Int.natCast_pow] at h2
          rw [Nat.pow_mul]
          have h4 : u < 1000000000 ^ (j + 1 - (m + 1)) := by exact_mod_cast h2
          exact Nat.lt_of_lt_of_le h4 h3
        have := (pad_dec (9 * (j + 1)) u (by omega) h1).1
        omega
      have hput := put_k w1.heap.size w1.heap.size (dec u) y 9 wr (glW_below hg hbw hlt) hlt1 (by omega) hI (by omega) (by omega) hdlen
      rw [show (9 : Int).toNat = 9 from rfl, ← hdp] at hput
      clear hdp hpd hnew hdlen hu hvm hvp hv0
      go_wp2_with (go_at_call 87; refine hput.mono ?_)
      intros
      rename_i e W1 h2
      obtain ⟨rfl, hI3, b2⟩ := h2
      go_wp2
      go_roundw
      case rel => exact ⟨m, by omega, by (have h := cv_eq m; show Value.int .i64 ((m : Int) - 1) = Value.int .i64 (cv m); rw [h]), hI3, hbr.trans b2⟩
      case measure => simp [intOf]
theorem digits_zero : Called Tryz.prog 71 [.ints .u32 (mg 1000000000 0)] (.str (dec 0)) := by
  have hz := zero_c 0
  refine called_of_run tbOk 6 ⟨Tryz.func71, rfl, rfl, Nat.le_of_ble_eq_true rfl⟩ ?_
  (conv => whnf)
  refine V.st ?_
  repeat ((try ((with_reducible refine .ext ?_); (conv => whnf))); (with_reducible refine call_intro (r := ?_) ?_ ?_); rotate_left; (focus (first | exact (hz))); (conv => whnf); refine V.st ?_)
  exact Fin.of rfl
theorem digits_c (n : Nat) (hl : (mg 1000000000 n).length ≤ 100000000) : Called Tryz.prog 71 [.ints .u32 (mg 1000000000 n)] (.str (dec n)) := by
  rcases Nat.eq_zero_or_pos n with h0 | h0
  · subst h0; exact digits_zero
  refine called_of_grown Tryz.func71 rfl rfl rfl fun w hp vs ha hd => ?_
  simp only [DenL] at hd
  obtain ⟨v, _, rfl, hv, rfl⟩ := hd
  have hle : hp.Le (pubOf w) := fun b o v h => ha.cells b o v h
  refine (digits_w n h0 hl w ha.blk (glLt ha.blk) v (Den.mono hle hv)).mono fun e w' ⟨he, hw⟩ => ⟨⟨_, he, fun hp => ?_⟩, hw⟩
  · simp only [Den]
    refine ⟨trivial, ?_⟩
    have h2 := mg_lt_pow (B := 1000000000) (n := n) (by omega)
    generalize (mg 1000000000 n).length = l at *
    have h1 : n < 10 ^ (9 * (l + 1)) := by
      rw [Nat.pow_mul]
      exact Nat.lt_of_lt_of_le h2 (Nat.pow_le_pow_right (by omega) (by omega))
    have := (pad_dec (9 * (l + 1)) n (by omega) h1).1
    omega
end Go.Proofs.YtlcaefokcnohnaaGreatDoor
end
section
namespace Go.Proofs.YtlcaefokcnohnaaGreatDoor
open Go Go.V Go.Nb
def raD (q : Rat) : D := .agg [.bool (decide (q.num < 0)), .ints .i64 (mg 10000 q.num.natAbs), .bool false, .ints .i64 (mg 10000 q.den)]
theorem low_num (n d : Int) (hd : d ≠ 0) : (if d < 0 then -n else n) / ((Int.gcd (if d < 0 then -n else n) (if d < 0 then -d else d) : Nat) : Int) = (Rat.divInt n d).num := by
  rw [Rat.num_divInt]
  split
  · rw [Int.neg_gcd, Int.gcd_neg, Int.gcd_comm, Int.sign_eq_neg_one_of_neg (by omega), Int.neg_mul, Int.one_mul]
  · rw [Int.gcd_comm, Int.sign_eq_one_of_pos (by omega), Int.one_mul]
theorem low_den (n d : Int) (hd : d ≠ 0) : (if d < 0 then -d else d) / ((Int.gcd (if d < 0 then -n else n) (if d < 0 then -d else d) : Nat) : Int) = ((Rat.divInt n d).den : Int) := by
  rw [Rat.den_divInt, if_neg hd]
  split
  · rw [Int.neg_gcd, Int.gcd_neg, Int.gcd_comm, Int.natCast_ediv]; congr 1; omega
  · rw [Int.gcd_comm, Int.natCast_ediv]; congr 1; omega
theorem natAbs_ediv_le (n : Int) (g : Nat) : (n / (g : Int)).natAbs ≤ n.natAbs := by
  rcases Int.le_total 0 n with h | h
  · have h1 := Int.ediv_nonneg h (by omega : (0 : Int) ≤ g)
    have h2 := Int.ediv_le_self (a := n) (g : Int) h
    omega
  · rcases Nat.eq_zero_or_pos g with e | e
    · subst e; simp
    · have h1 : n / (g : Int) ≤ 0 := by
        have := Int.ediv_le_ediv (by omega : (0 : Int) < g) h
        simpa using this
      have h2 : n ≤ n / (g : Int) := Int.le_ediv_of_mul_le (by omega) (by
        have := Int.mul_le_mul_of_nonpos_left h (by omega : (1 : Int) ≤ g)
        omega)
      omega
theorem lowest_c (n d : Int) (hn : Sm 80000000 n) (hd : Sm 80000000 d) (hd0 : d ≠ 0) : Called Tryz.prog 49 [plD n, plD d] (raD (Rat.divInt n d)) := by
  have e1 := low_num n d hd0
  have e2 := low_den n d hd0
  refine called_of_run tbOk 6 ⟨Tryz.func49, rfl, rfl, Nat.le_of_ble_eq_true rfl⟩ ?_
  (conv => whnf)
  refine V.st ?_
  refine Cnd.split (CondB.mk (fun hq => ?_) (fun hq => ?_))
  · rw [decide_eq_true_eq] at hq
    simp only [if_pos hq] at e1 e2
    have hN := hn.neg
    have hD := hd.neg
    have ht1 := turn_c n (by unfold Sm at hn; omega)
    have ht2 := turn_c d (by unfold Sm at hd; omega)
    (conv => whnf)
    refine V.st ?_
    refine ⟨(.take 0 (.take 2 (.ev (.cons 1 [2] (.ev (.cons 3 [] (.ev (.cons 4 [] (.ev (.cons 5 [] (.done) (.nil))) (.nil))) (.nil))) (.nil))))), ⟨by kernel_rfl, by kernel_rfl, by kernel_rfl⟩, .go ?_⟩
    (conv => whnf)
    refine V.st ?_
    repeat ((try ((with_reducible refine .ext ?_); (conv => whnf))); (with_reducible refine call_intro (r := ?_) ?_ ?_); rotate_left; (focus (first | exact (ht1) | exact (ht2))); (conv => whnf); refine V.st ?_)
    have hgp : 0 < Int.gcd (-n) (-d) := Int.gcd_pos_of_ne_zero_right _ (by omega)
    have hdv := divisor_c (-n) (-d) hN hD
    have hgD : Sm 80000000 ((Int.gcd (-n) (-d) : Nat) : Int) := hD.le (by rw [Int.natAbs_natCast]; exact Nat.le_of_dvd (by omega) (Nat.gcd_dvd_right ((-n)).natAbs ((-d)).natAbs))
    have hp1 := partsP_c (-n) ((Int.gcd (-n) (-d) : Nat) : Int) hN hgD (by omega)
    have hp2 := partsP_c (-d) ((Int.gcd (-n) (-d) : Nat) : Int) hD hgD (by omega)
    rw [e1] at hp1
    rw [e2] at hp2
    (conv => whnf)
    refine V.st ?_
    repeat ((try ((with_reducible refine .ext ?_); (conv => whnf))); (with_reducible refine call_intro (r := ?_) ?_ ?_); rotate_left; (focus (first | exact (hdv) | exact (hp1) | exact (hp2))); (conv => whnf); refine V.st ?_)
    exact Fin.of (by unfold raD; rw [Int.natAbs_natCast, decide_eq_false (p := ((Rat.divInt n d).den : Int) < 0) (by omega)])
  · rw [decide_eq_false_iff_not] at hq
    simp only [if_neg hq] at e1 e2
    have hN := hn
    have hD := hd
    have hgp : 0 < Int.gcd n d := Int.gcd_pos_of_ne_zero_right _ (by omega)
    have hdv := divisor_c n d hN hD
    have hgD : Sm 80000000 ((Int.gcd n d : Nat) : Int) := hD.le (by rw [Int.natAbs_natCast]; exact Nat.le_of_dvd (by omega) (Nat.gcd_dvd_right (n).natAbs (d).natAbs))
    have hp1 := partsP_c n ((Int.gcd n d : Nat) : Int) hN hgD (by omega)
    have hp2 := partsP_c d ((Int.gcd n d : Nat) : Int) hD hgD (by omega)
    rw [e1] at hp1
    rw [e2] at hp2
    (conv => whnf)
    refine V.st ?_
    repeat ((try ((with_reducible refine .ext ?_); (conv => whnf))); (with_reducible refine call_intro (r := ?_) ?_ ?_); rotate_left; (focus (first | exact (hdv) | exact (hp1) | exact (hp2))); (conv => whnf); refine V.st ?_)
    exact Fin.of (by unfold raD; rw [Int.natAbs_natCast, decide_eq_false (p := ((Rat.divInt n d).den : Int) < 0) (by omega)])
theorem quick_c (n d : Int) (hn : InR .i64 n) (hd : InR .i64 d) (hd0 : d ≠ 0) : Called Tryz.prog 39 [.int .i64 n, .int .i64 d] (raD (Rat.divInt n d)) := by
  have h1 := integer_c n hn
  have h2 := integer_c d hd
  simp only [V.InR, V.lo, V.hi] at hn hd
  have h3 := lowest_c n d ((Sm.lit (k := 5) (by omega)).mono (by omega)) ((Sm.lit (k := 5) (by omega)).mono (by omega)) hd0
  refine called_of_run tbOk 6 ⟨Tryz.func39, rfl, rfl, Nat.le_of_ble_eq_true rfl⟩ ?_
  (conv => whnf)
  refine V.st ?_
  repeat ((try ((with_reducible refine .ext ?_); (conv => whnf))); (with_reducible refine call_intro (r := ?_) ?_ ?_); rotate_left; (focus (first | exact (h1) | exact (h2) | exact (h3))); (conv => whnf); refine V.st ?_)
  exact Fin.of rfl
def okF (q : Rat) : Bool := decide ((dec q.num.natAbs).length ≤ 600) && decide ((dec q.den).length ≤ 600)
def frR (q : Rat) : D := .tup [.agg [.str (cond (okF q) (decZ q.num) []), .str (cond (okF q) (dec q.den) [])], .int .i64 (cond (okF q) 0 6)]
theorem outN_c (n : Nat) (hz : Sm 90000000 n) : Called Tryz.prog 48 [.agg [.bool false, .ints .i64 (mg 10000 n)]] (.tup [.str (if 600 < (dec n).length then [] else dec n), .int .i64 (if 600 < (dec n).length then 6 else 0)]) := by
  have h := out_c n hz
  unfold plD decZ at h
  rw [Int.natAbs_natCast, decide_eq_false (p := (n : Int) < 0) (by omega), if_neg (c := (n : Int) < 0) (by omega)] at h
  exact h
theorem out02_c (q : Rat) (hn : Sm 90000000 q.num) (hd : Sm 90000000 (q.den : Int)) : Called Tryz.prog 38 [raD q] (frR q) := by
  have h1 := out_c q.num hn
  have h2 := outN_c q.den hd
  unfold frR okF
  by_cases g1 : 600 < (dec q.num.natAbs).length <;> by_cases g2 : 600 < (dec q.den).length
  all_goals
    simp only [g1, g2, if_true, if_false] at h1 h2
    simp only [← Nat.not_lt, g1, g2, not_true_eq_false, not_false_eq_true, decide_true, decide_false, Bool.and_self, Bool.and_false, Bool.false_and, Bool.and_true, cond_true, cond_false]
    refine called_of_run tbOk 6 ⟨Tryz.func38, rfl, rfl, Nat.le_of_ble_eq_true rfl⟩ ?_
    (conv => whnf)
    refine V.st ?_
    repeat ((try ((with_reducible refine .ext ?_); (conv => whnf))); (with_reducible refine call_intro (r := ?_) ?_ ?_); rotate_left; (focus (first | exact (h1) | exact (h2))); (conv => whnf); refine V.st ?_)
    exact Fin.of rfl
theorem of02_c (n d : Int) (hn : InR .i64 n) (hd : InR .i64 d) (hd0 : d ≠ 0) : Called Tryz.prog 24 [.int .i64 n, .int .i64 d] (frR (Rat.divInt n d)) := by
  have h1 := quick_c n d hn hd hd0
  simp only [V.InR, V.lo, V.hi] at hn hd
  have hnum : Sm 90000000 (Rat.divInt n d).num := by
    have e1 := low_num n d hd0
    have h := natAbs_ediv_le (if d < 0 then -n else n) (Int.gcd (if d < 0 then -n else n) (if d < 0 then -d else d))
    rw [e1] at h
    exact (Sm.lit (k := 5) (by split at h <;> omega)).mono (by omega)
  have hden : Sm 90000000 ((Rat.divInt n d).den : Int) := by
    have e1 := low_den n d hd0
    have h := natAbs_ediv_le (if d < 0 then -d else d) (Int.gcd (if d < 0 then -n else n) (if d < 0 then -d else d))
    rw [e1] at h
    exact (Sm.lit (k := 5) (by split at h <;> omega)).mono (by omega)
  have h2 := out02_c _ hnum hden
  refine called_of_run tbOk 6 ⟨Tryz.func24, rfl, rfl, Nat.le_of_ble_eq_true rfl⟩ ?_
  (conv => whnf)
  refine V.st ?_
  refine Cnd.no (decide_eq_false hd0) ?_
  (conv => whnf)
  refine V.st ?_
  repeat ((try ((with_reducible refine .ext ?_); (conv => whnf))); (with_reducible refine call_intro (r := ?_) ?_ ?_); rotate_left; (focus (first | exact (h1) | exact (h2))); (conv => whnf); refine V.st ?_)
  exact Fin.of rfl
end Go.Proofs.YtlcaefokcnohnaaGreatDoor
end
section
namespace Go.Proofs.YtlcaefokcnohnaaGreatDoor
open Go Go.V Go.Nb
theorem gcd_c (a b : Nat) (ha : (mg 1000000000 a).length ≤ 90000000) (hb : (mg 1000000000 b).length ≤ 90000000) : Called Tryz.prog 67 [.ints .u32 (mg 1000000000 a), .ints .u32 (mg 1000000000 b)] (.ints .u32 (mg 1000000000 (Nat.gcd a b))) := by
  obtain ⟨g, hg⟩ : ∃ g, g = Nat.gcd a b := ⟨_, rfl⟩
  rw [← hg]
  refine called_of_run tbOk 6 ⟨Tryz.func67, rfl, rfl, Nat.le_of_ble_eq_true rfl⟩ ?_
  (conv => whnf)
  refine V.st ?_
  refine lp_any ((a, b) : Nat × Nat) (fun s => Nat.gcd s.1 s.2 = g ∧ (mg 1000000000 s.1).length ≤ 90000000 ∧ (mg 1000000000 s.2).length ≤ 90000000) (fun s => s.2)
    (fun s => [(0, .ints .u32 (mg 1000000000 s.1)), (1, .ints .u32 (mg 1000000000 s.2))]) (fun _ => []) ?_ ?_ ?_
  · exact V.wk
  · exact ⟨hg.symm, ha, hb⟩
  rintro ⟨x, y⟩ ⟨h1, h2, h3⟩
  dsimp only at h1 h2 h3 ⊢
  have hz := zero_c y
  (conv => whnf)
  refine V.st ?_
  repeat ((try ((with_reducible refine .ext ?_); (conv => whnf))); (with_reducible refine call_intro (r := ?_) ?_ ?_); rotate_left; (focus (first | exact (hz))); (conv => whnf); refine V.st ?_)
  refine Cnd.split (CondB.mk (fun hq => ?_) (fun hq => ?_))
  · have hy : ¬ y = 0 := by simpa using hq
    (conv => whnf)
    refine V.st ?_
    refine Cnd.split (CondB.mk (fun hq2 => ?_) (fun hq2 => ?_))
    · rw [Bool.and_eq_true, decide_eq_true_eq, decide_eq_true_eq] at hq2
      have hx18 : x < 1000000000000000000 := by
        have := mg_lt_pow (B := 1000000000) (n := x) (by omega)
        have h5 : 1000000000 ^ (mg 1000000000 x).length ≤ 1000000000 ^ 2 := Nat.pow_le_pow_right (by omega) (by omega)
        omega
      have hy18 : y < 1000000000000000000 := by
        have := mg_lt_pow (B := 1000000000) (n := y) (by omega)
        have h5 : 1000000000 ^ (mg 1000000000 y).length ≤ 1000000000 ^ 2 := Nat.pow_le_pow_right (by omega) (by omega)
        omega
      have hs1 := small_c x hx18
      have hs2 := small_c y hy18
      (conv => whnf)
      refine V.st ?_
      repeat ((try ((with_reducible refine .ext ?_); (conv => whnf))); (with_reducible refine call_intro (r := ?_) ?_ ?_); rotate_left; (focus (first | exact (hs1) | exact (hs2))); (conv => whnf); refine V.st ?_)
      refine lp_any ((x, y) : Nat × Nat) (fun s => Nat.gcd s.1 s.2 = g ∧ s.1 < 1000000000000000000 ∧ s.2 < 1000000000000000000) (fun s => s.2) (fun s => [(5, .int .u64 s.1), (6, .int .u64 s.2)]) (fun _ => []) ?_ ?_ ?_
      · exact V.wk
      · exact ⟨h1, hx18, hy18⟩
      rintro ⟨p, q⟩ ⟨i1, i2, i3⟩
      dsimp only at i1 i2 i3 ⊢
      (conv => whnf)
      refine V.st ?_
      refine Cnd.split (CondB.mk (fun hq3 => ?_) (fun hq3 => ?_))
      · rw [decide_eq_true_eq] at hq3
        have hqp : 0 < q := by omega
        have em : (p : Int) % (q : Int) = ((p % q : Nat) : Int) := by rw [Int.natCast_emod]
        have hlt := Nat.mod_lt p hqp
        (conv => whnf)
        (try simp only [em])
        repeat ((first | refine V.s1 ?_); (try simp only [em]))
        refine ⟨(.take 0 (.take 1 (.take 2 (.take 3 (.ev (.cons 4 [3, 2] (.ev (.cons 5 [] (.done) (.nil))) (.nil))))))), ⟨by kernel_rfl, by kernel_rfl, by kernel_rfl⟩, .go ?_⟩
        (conv => whnf)
        (try simp only [em])
        repeat ((first | refine V.s1 ?_); (try simp only [em]))
        exact ⟨(q, p % q), ⟨by dsimp only; rw [Nat.gcd_comm, ← Nat.gcd_rec, Nat.gcd_comm]; exact i1, i3, by dsimp only; omega⟩, hlt, V.wk⟩
      · rw [decide_eq_false_iff_not] at hq3
        obtain rfl : q = 0 := by omega
        rw [Nat.gcd_zero_right] at i1
        have hf := fromSmall_c p (by omega)
        (conv => whnf)
        refine V.st ?_
        repeat ((try ((with_reducible refine .ext ?_); (conv => whnf))); (with_reducible refine call_intro (r := ?_) ?_ ?_); rotate_left; (focus (first | exact (hf))); (conv => whnf); refine V.st ?_)
        exact Fin.of (by rw [i1])
    · have hd := divide_c x y (by omega) h2 h3
      have hlt := Nat.mod_lt x (by omega : y > 0)
      have hr := mg_len_mono (B := 1000000000) (by omega) (Nat.le_of_lt hlt)
      (conv => whnf)
      refine V.st ?_
      repeat ((try ((with_reducible refine .ext ?_); (conv => whnf))); (with_reducible refine call_intro (r := ?_) ?_ ?_); rotate_left; (focus (first | exact (hd))); (conv => whnf); refine V.st ?_)
      exact ⟨(y, x % y), ⟨by dsimp only; rw [Nat.gcd_comm, ← Nat.gcd_rec, Nat.gcd_comm]; exact h1, h3, by dsimp only; omega⟩, hlt, V.wk⟩
  · have hy : y = 0 := by simpa using hq
    subst hy
    rw [Nat.gcd_zero_right] at h1
    (conv => whnf)
    refine V.st ?_
    exact Fin.of (by rw [h1])
theorem ftext_c (z : Int) (hz : (mg 1000000000 z.natAbs).length ≤ 90000000) : Called Tryz.prog 70 [itD z] (.str (decZ z)) := by
  have hd := digits_c z.natAbs (by omega)
  have hl : (dec z.natAbs).length ≤ 1000000000000 := by
    have h2 := mg_lt_pow (B := 1000000000) (n := z.natAbs) (by omega)
    generalize (mg 1000000000 z.natAbs).length = l at *
    have h1 : z.natAbs < 10 ^ (9 * (l + 1)) := by
      rw [Nat.pow_mul]
      exact Nat.lt_of_lt_of_le h2 (Nat.pow_le_pow_right (by omega) (by omega))
    have := (pad_dec (9 * (l + 1)) z.natAbs (by omega) h1).1
    omega
  refine called_of_run tbOk 6 ⟨Tryz.func70, rfl, rfl, Nat.le_of_ble_eq_true rfl⟩ ?_
  (conv => whnf)
  refine V.st ?_
  refine Cnd.split (CondB.mk (fun hq => ?_) (fun hq => ?_))
  · rw [decide_eq_true_eq] at hq
    (conv => whnf)
    refine V.st ?_
    repeat ((try ((with_reducible refine .ext ?_); (conv => whnf))); (with_reducible refine call_intro (r := ?_) ?_ ?_); rotate_left; (focus (first | exact (hd))); (conv => whnf); refine V.st ?_)
    exact Fin.of (by unfold decZ; rw [if_pos hq]; rfl)
  · rw [decide_eq_false_iff_not] at hq
    (conv => whnf)
    refine V.st ?_
    repeat ((try ((with_reducible refine .ext ?_); (conv => whnf))); (with_reducible refine call_intro (r := ?_) ?_ ?_); rotate_left; (focus (first | exact (hd))); (conv => whnf); refine V.st ?_)
    exact Fin.of (by unfold decZ; rw [if_neg hq])
def rtD (q : Rat) : D := .agg [.ints .u32 (mg 1000000000 q.num.natAbs), .bool (decide (q.num < 0)), .ints .u32 (mg 1000000000 q.den)]
theorem write_c (q : Rat) (hn : (mg 1000000000 q.num.natAbs).length ≤ 90000000) (hd : (mg 1000000000 q.den).length ≤ 90000000) : Called Tryz.prog 56 [rtD q] (frR q) := by
  have h1 := length_c q.num.natAbs (by omega)
  have h2 := length_c q.den (by omega)
  have h3 := ftext_c q.num hn
  have h4 := digits_c q.den (by omega)
  unfold frR okF
  refine called_of_run tbOk 6 ⟨Tryz.func56, rfl, rfl, Nat.le_of_ble_eq_true rfl⟩ ?_
  (conv => whnf)
  refine V.st ?_
  repeat ((try ((with_reducible refine .ext ?_); (conv => whnf))); (with_reducible refine call_intro (r := ?_) ?_ ?_); rotate_left; (focus (first | exact (h1) | exact (h2))); (conv => whnf); refine V.st ?_)
  refine Cnd.split (CondB.mk (fun hq => ?_) (fun hq => ?_))
  · rw [Bool.or_eq_true, decide_eq_true_eq, decide_eq_true_eq] at hq
    have e : (decide ((dec q.num.natAbs).length ≤ 600) && decide ((dec q.den).length ≤ 600)) = false := by
      rw [Bool.and_eq_false_iff, decide_eq_false_iff_not, decide_eq_false_iff_not]; omega
    rw [e]
    (conv => whnf)
    refine V.st ?_
    exact Fin.of rfl
  · rw [Bool.or_eq_false_iff, decide_eq_false_iff_not, decide_eq_false_iff_not] at hq
    have e : (decide ((dec q.num.natAbs).length ≤ 600) && decide ((dec q.den).length ≤ 600)) = true := by
      rw [Bool.and_eq_true, decide_eq_true_eq, decide_eq_true_eq]; omega
    rw [e]
    (conv => whnf)
    refine V.st ?_
    refine ⟨(.take 0 (.take 1 (.take 3 (.take 4 (.ev (.cons 2 [4, 3] (.ev (.cons 5 [] (.take 6 (.ev (.cons 7 [] (.take 8 (.done)) (.nil)))) (.nil))) (.nil))))))), ⟨by kernel_rfl, by kernel_rfl, by kernel_rfl⟩, .go ?_⟩
    (conv => whnf)
    refine V.st ?_
    repeat ((try ((with_reducible refine .ext ?_); (conv => whnf))); (with_reducible refine call_intro (r := ?_) ?_ ?_); rotate_left; (focus (first | exact (h3) | exact (h4))); (conv => whnf); refine V.st ?_)
    exact Fin.of rfl
end Go.Proofs.YtlcaefokcnohnaaGreatDoor
end
section
namespace Go.Proofs.YtlcaefokcnohnaaGreatDoor
open Go Go.V Go.Nb
theorem divInt_parts (n : Int) (d : Nat) (hd : 0 < d) : (Rat.divInt n d).num.natAbs = n.natAbs / Nat.gcd n.natAbs d ∧ decide ((Rat.divInt n d).num < 0) = decide (n < 0) ∧ (Rat.divInt n d).den = d / Nat.gcd n.natAbs d := by
  have hg : Int.gcd (d : Int) n = Nat.gcd n.natAbs d := by
    rw [Int.gcd_comm]; rfl
  have hgp : 0 < Nat.gcd n.natAbs d := Nat.gcd_pos_of_pos_right _ hd
  have hdv : ((Nat.gcd n.natAbs d : Nat) : Int) ∣ n := Int.ofNat_dvd_left.2 (Nat.gcd_dvd_left _ _)
  rw [Rat.num_divInt, Rat.den_divInt, if_neg (by omega), Int.sign_eq_one_of_pos (by omega), Int.one_mul, hg, Int.natAbs_natCast]
  generalize Nat.gcd n.natAbs d = g at *
  obtain ⟨k, rfl⟩ := hdv
  have e : (g : Int) * k / g = k := Int.mul_ediv_cancel_left _ (by omega)
  rw [e, Int.natAbs_mul, Int.natAbs_natCast, Nat.mul_div_cancel_left _ hgp]
  refine ⟨rfl, ?_, rfl⟩
  apply decide_eq_decide.2
  constructor
  · intro h; exact Int.mul_neg_of_pos_of_neg (by omega) h
  · intro h
    rcases Int.lt_or_le k 0 with h2 | h2
    · exact h2
    · have := Int.mul_nonneg (a := (g : Int)) (by omega) h2; omega
theorem reduced_c (n : Int) (d : Nat) (hd0 : 0 < d) (hn : (mg 1000000000 n.natAbs).length ≤ 90000000) (hd : (mg 1000000000 d).length ≤ 90000000) : Called Tryz.prog 54 [itD n, .ints .u32 (mg 1000000000 d)] (rtD (Rat.divInt n d)) := by
  obtain ⟨p1, p2, p3⟩ := divInt_parts n d hd0
  have hg := gcd_c n.natAbs d hn hd
  have hgp : 0 < Nat.gcd n.natAbs d := Nat.gcd_pos_of_pos_right _ hd0
  have hgl := mg_len_mono (B := 1000000000) (by omega) (Nat.le_of_dvd hd0 (Nat.gcd_dvd_right n.natAbs d))
  have h1 := divide_c n.natAbs (Nat.gcd n.natAbs d) hgp hn (by omega)
  have h2 := divide_c d (Nat.gcd n.natAbs d) hgp hd (by omega)
  have h3 := signed_c (n.natAbs / Nat.gcd n.natAbs d) (decide (n < 0))
  have e : itD (if decide (n < 0) = true then -((n.natAbs / Nat.gcd n.natAbs d : Nat) : Int) else ((n.natAbs / Nat.gcd n.natAbs d : Nat) : Int)) = itD (Rat.divInt n d).num := by
    congr 1
    rw [← p1, ← p2]
    by_cases h : (Rat.divInt n d).num < 0
    · rw [decide_eq_true h, if_pos rfl]; omega
    · rw [decide_eq_false h, if_neg (by simp)]; omega
  rw [e] at h3
  refine called_of_run tbOk 6 ⟨Tryz.func54, rfl, rfl, Nat.le_of_ble_eq_true rfl⟩ ?_
  (conv => whnf)
  refine V.st ?_
  repeat ((try ((with_reducible refine .ext ?_); (conv => whnf))); (with_reducible refine call_intro (r := ?_) ?_ ?_); rotate_left; (focus (first | exact (hg) | exact (h1) | exact (h2) | exact (h3))); (conv => whnf); refine V.st ?_)
  exact Fin.of (by unfold rtD; rw [p3])
theorem wof_c (n : Int) (h : InR .i64 n) : Called Tryz.prog 43 [.int .i64 n] (.str (decZ n)) := by
  have hi := itoa_c n
  refine called_of_run tbOk 6 ⟨Tryz.func43, rfl, rfl, Nat.le_of_ble_eq_true rfl⟩ ?_
  (conv => whnf)
  refine V.st ?_
  repeat ((try ((with_reducible refine .ext ?_); (conv => whnf))); (with_reducible refine call_intro (r := ?_) ?_ ?_); rotate_left; (focus (first | exact (hi))); (conv => whnf); refine V.st ?_)
  exact Fin.of rfl
theorem divInt_signs (n d : Int) (hd : d ≠ 0) : Rat.divInt (if (decide (n < 0) != decide (d < 0)) = true then -(n.natAbs : Int) else (n.natAbs : Int)) (d.natAbs : Nat) = Rat.divInt n d := by
  rw [Rat.divInt_eq_divInt_iff (by omega) hd]
  by_cases h1 : n < 0 <;> by_cases h2 : d < 0
  · simp only [h1, h2, decide_true, bne_self_eq_false, Bool.false_eq_true, if_false]
    rw [show (n.natAbs : Int) = -n by omega, show (d.natAbs : Int) = -d by omega, Int.neg_mul, Int.mul_neg]
  · have e : (decide (n < 0) != decide (d < 0)) = true := by simp [h1, h2]
    rw [if_pos e, show (n.natAbs : Int) = -n by omega, show (d.natAbs : Int) = d by omega, Int.neg_neg]
  · have e : (decide (n < 0) != decide (d < 0)) = true := by simp [h1, h2]
    rw [if_pos e, show (n.natAbs : Int) = n by omega, show (d.natAbs : Int) = -d by omega, Int.neg_mul, Int.mul_neg]
  · have e : ¬ (decide (n < 0) != decide (d < 0)) = true := by simp [h1, h2]
    rw [if_neg e, show (n.natAbs : Int) = n by omega, show (d.natAbs : Int) = d by omega]
theorem okW_len {s : List UInt8} (h : okW s = true) : s.length ≤ 601 ∧ (wval s).natAbs < 10 ^ 600 := by
  unfold okW okD at h
  simp only [Bool.and_eq_true, Bool.not_eq_true', Bool.or_eq_false_iff, decide_eq_false_iff_not, List.all_eq_true] at h
  obtain ⟨⟨h1, h2⟩, h3⟩ := h
  have h4 := rdv_lt h2
  have h5 : ∀ k, (Go.Lib.trimPrefix s [45]).length ≤ k → 10 ^ (Go.Lib.trimPrefix s [45]).length ≤ 10 ^ k := fun k hk => Nat.pow_le_pow_right (by omega) hk
  constructor
  · unfold Go.Lib.trimPrefix at h1
    split at h1
    · rw [List.length_drop] at h1; simp at h1; omega
    · omega
  · have : (wval s).natAbs = rdv (Go.Lib.trimPrefix s [45]) := by unfold wval; split <;> simp
    rw [this]
    exact Nat.lt_of_lt_of_le h4 (h5 600 (by omega))
theorem len9 {n : Nat} (h : n < 10 ^ 600) : (mg 1000000000 n).length ≤ 67 := mg_len_le (by omega) (Nat.lt_of_lt_of_le h (by
  have h1 : ∀ k, (1000000000 : Nat) ^ k = 10 ^ (9 * k) := fun k => by rw [Nat.pow_mul]
  have h2 : ∀ a b : Nat, a ≤ b → (10 : Nat) ^ a ≤ 10 ^ b := fun a b hab => Nat.pow_le_pow_right (by omega) hab
  obtain ⟨m, hm⟩ : ∃ m, m = 9 * 67 := ⟨_, rfl⟩
  rw [h1 67, ← hm]
  exact h2 600 m (by omega)))
theorem make_c (s t : List UInt8) (hs : okW s = true) (ht : okW t = true) (hz : wval t ≠ 0) : Called Tryz.prog 42 [.str s, .str t] (frR (Rat.divInt (wval s) (wval t))) := by
  obtain ⟨ls, vs⟩ := okW_len hs
  obtain ⟨lt, vt⟩ := okW_len ht
  have c1 := wcheck_c s (by omega)
  have c2 := wcheck_c t (by omega)
  rw [hs, if_pos rfl] at c1
  rw [ht, if_pos rfl] at c2
  have n1 := number_c s hs
  have n2 := number_c t ht
  generalize wval s = n at *
  generalize wval t = d at *
  have hz1 := zero_c d.natAbs
  have hs1 := signed_c n.natAbs (decide (n < 0) != decide (d < 0))
  have hnl := len9 vs
  have hdl := len9 vt
  have e1 : (if (decide (n < 0) != decide (d < 0)) = true then -(n.natAbs : Int) else (n.natAbs : Int)).natAbs = n.natAbs := by split <;> omega
  have hr := reduced_c (if (decide (n < 0) != decide (d < 0)) = true then -(n.natAbs : Int) else (n.natAbs : Int)) d.natAbs (by omega) (by rw [e1]; omega) (by omega)
  obtain ⟨p1, p2, p3⟩ := divInt_parts (if (decide (n < 0) != decide (d < 0)) = true then -(n.natAbs : Int) else (n.natAbs : Int)) d.natAbs (by omega)
  rw [divInt_signs n d hz] at hr p1 p2 p3
  rw [e1] at p1 p3
  have hw := write_c (Rat.divInt n d) (by
    rw [p1]
    have := mg_len_mono (B := 1000000000) (by omega) (Nat.div_le_self n.natAbs (n.natAbs.gcd d.natAbs))
    omega) (by
    rw [p3]
    have := mg_len_mono (B := 1000000000) (by omega) (Nat.div_le_self d.natAbs (n.natAbs.gcd d.natAbs))
    omega)
  refine called_of_run tbOk 6 ⟨Tryz.func42, rfl, rfl, Nat.le_of_ble_eq_true rfl⟩ ?_
  (conv => whnf)
  refine V.st ?_
  repeat ((try ((with_reducible refine .ext ?_); (conv => whnf))); (with_reducible refine call_intro (r := ?_) ?_ ?_); rotate_left; (focus (first | exact (c1) | exact (c2) | exact (n1) | exact (n2) | exact (hz1))); (conv => whnf); refine V.st ?_)
  refine Cnd.no (decide_eq_false (by omega)) ?_
  (conv => whnf)
  refine V.st ?_
  refine ⟨(.take 0 (.take 1 (.take 2 (.take 3 (.take 4 (.take 5 (.take 6 (.take 8 (.take 9 (.ev (.cons 7 [9, 8] (.ev (.cons 10 [] (.ev (.cons 11 [] (.take 12 (.take 13 (.ev (.cons 14 [] (.take 15 (.done)) (.nil))))) (.nil))) (.nil))) (.nil)))))))))))), ⟨by kernel_rfl, by kernel_rfl, by kernel_rfl⟩, .go ?_⟩
  (conv => whnf)
  refine V.st ?_
  repeat ((try ((with_reducible refine .ext ?_); (conv => whnf))); (with_reducible refine call_intro (r := ?_) ?_ ?_); rotate_left; (focus (first | exact (hs1) | exact (hr) | exact (hw))); (conv => whnf); refine V.st ?_)
  exact Fin.of rfl
theorem of_c (n d : Int) (hn : InR .i64 n) (hd : InR .i64 d) (hd0 : d ≠ 0) : Called Tryz.prog 35 [.int .i64 n, .int .i64 d] (frR (Rat.divInt n d)) := by
  have h1 := wof_c n hn
  have h2 := wof_c d hd
  simp only [V.InR, V.lo, V.hi] at hn hd
  have o1 := okW_decZ n (by have := dec_len n.natAbs 19 (by omega) (by omega); omega)
  have o2 := okW_decZ d (by have := dec_len d.natAbs 19 (by omega) (by omega); omega)
  have h3 := make_c (decZ n) (decZ d) o1 o2 (by rw [wval_decZ]; exact hd0)
  rw [wval_decZ, wval_decZ] at h3
  refine called_of_run tbOk 6 ⟨Tryz.func35, rfl, rfl, Nat.le_of_ble_eq_true rfl⟩ ?_
  (conv => whnf)
  refine V.st ?_
  repeat ((try ((with_reducible refine .ext ?_); (conv => whnf))); (with_reducible refine call_intro (r := ?_) ?_ ?_); rotate_left; (focus (first | exact (h1) | exact (h2) | exact (h3))); (conv => whnf); refine V.st ?_)
  exact Fin.of rfl
end Go.Proofs.YtlcaefokcnohnaaGreatDoor
end
section
namespace Go.Proofs.YtlcaefokcnohnaaGreatDoor
open Go Go.V Go.Nb
theorem divIntLe (n : Int) (d : Nat) (hd : 0 < d) : (Rat.divInt n d).num.natAbs ≤ n.natAbs ∧ (Rat.divInt n d).den ≤ d := by
  rw [Rat.num_divInt, Rat.den_divInt, if_neg (by omega), Int.sign_eq_one_of_pos (by omega), Int.one_mul]
  refine ⟨?_, ?_⟩
  · rw [Int.natAbs_ediv_of_dvd (by exact Int.gcd_dvd_right ..)]
    exact Nat.div_le_self _ _
  · rw [Int.natAbs_natCast]
    exact Nat.div_le_self _ _
theorem okFs {q : Rat} (h1 : q.num.natAbs < 10 ^ 20) (h2 : q.den < 10 ^ 20) : okF q = true := by
  unfold okF
  simp only [Bool.and_eq_true, decide_eq_true_eq]
  exact ⟨Nat.le_trans (pad_dec 20 _ (by omega) h1).1 (by omega), Nat.le_trans (pad_dec 20 _ (by omega) h2).1 (by omega)⟩
theorem okFi (n m : Int) (hn : -9223372036854775807 ≤ n ∧ n ≤ 9223372036854775807) (hm : 1 ≤ m ∧ m ≤ 9223372036854775807) : okF (Rat.divInt n m) = true := by
  obtain ⟨d, rfl⟩ : ∃ d : Nat, m = d := ⟨m.toNat, by omega⟩
  have := divIntLe n d (by omega)
  refine okFs ?_ ?_
  · exact Nat.lt_of_le_of_lt this.1 (by omega)
  · exact Nat.lt_of_le_of_lt this.2 (by omega)
def frC (q : Rat) : List D := [.str (decZ q.num), .str (dec q.den)]
theorem frI (n m : Int) (hn : -9223372036854775807 ≤ n ∧ n ≤ 9223372036854775807) (hm : 1 ≤ m ∧ m ≤ 9223372036854775807) : frR (Rat.divInt n m) = .tup [.agg (frC (Rat.divInt n m)), .int .i64 0] := by
  unfold frR
  rw [okFi n m hn hm]
  rfl
theorem ofI (n m : Int) (hn : -9223372036854775807 ≤ n ∧ n ≤ 9223372036854775807) (hm : 1 ≤ m ∧ m ≤ 9223372036854775807) : Called Tryz.prog 35 [.int .i64 n, .int .i64 m] (.tup [.agg (frC (Rat.divInt n m)), .int .i64 0]) := by
  rw [← frI n m hn hm]
  exact of_c n m (by simp [InR, V.lo, V.hi]; omega) (by simp [InR, V.lo, V.hi]; omega) (by omega)
theorem rofI (n m : Int) (hn : -9223372036854775807 ≤ n ∧ n ≤ 9223372036854775807) (hm : 1 ≤ m ∧ m ≤ 9223372036854775807) : Called Tryz.prog 24 [.int .i64 n, .int .i64 m] (.tup [.agg (frC (Rat.divInt n m)), .int .i64 0]) := by
  rw [← frI n m hn hm]
  exact of02_c n m (by simp [InR, V.lo, V.hi]; omega) (by simp [InR, V.lo, V.hi]; omega) (by omega)
theorem ofE {n m : Int} {q : Rat} (h : Rat.divInt n m = q) (hn : -9223372036854775807 ≤ n ∧ n ≤ 9223372036854775807) (hm : 1 ≤ m ∧ m ≤ 9223372036854775807) : Called Tryz.prog 35 [.int .i64 n, .int .i64 m] (.tup [.agg (frC q), .int .i64 0]) := h ▸ ofI n m hn hm
theorem rofE {n m : Int} {q : Rat} (h : Rat.divInt n m = q) (hn : -9223372036854775807 ≤ n ∧ n ≤ 9223372036854775807) (hm : 1 ≤ m ∧ m ≤ 9223372036854775807) : Called Tryz.prog 24 [.int .i64 n, .int .i64 m] (.tup [.agg (frC q), .int .i64 0]) := h ▸ rofI n m hn hm
end Go.Proofs.YtlcaefokcnohnaaGreatDoor
end
section
namespace Go.Proofs.YtlcaefokcnohnaaGreatDoor
open Go Go.V Go.Nb
def rs3 (o : Nat) (a b e : Int) : V3 := match o with
  | 0 => (e + b + a, e + b, e)
  | 1 => (e + b + a, e, e + b)
  | 2 => (e + b, e + b + a, e)
  | 3 => (e, e + b + a, e + b)
  | 4 => (e + b, e, e + b + a)
  | _ => (e, e + b, e + b + a)
def frq (x : Nat) (r d : Int) (s : Nat) : Rat := Rat.divInt ((x : Int) * d + r) (d * ((s : Int) - 1))
def frF (q0 q1 q2 : Rat) : Nat → List D := fun j => ((frC q0 ++ frC q1 ++ frC q2).drop (j * 2)).take 2
def resF (x : N3) (o : Nat) (a b e d : Int) (s0 s1 s2 : Nat) : Nat → List D := frF (frq x.1 (rs3 o a b e).1 d s0) (frq x.2.1 (rs3 o a b e).2.1 d s1) (frq x.2.2 (rs3 o a b e).2.2 d s2)
def stRe (a b e : Int) : Nat → Int
  | 0 => 0
  | 1 => e
  | 2 => e + b
  | _ => e + b + a
def zC : List D := [.str [], .str []]
def stI0 (q0 q1 q2 : Rat) : Nat → List D
  | 0 => zC ++ zC ++ zC
  | 1 => zC ++ zC ++ frC q2
  | 2 => zC ++ frC q1 ++ frC q2
  | _ => frC q0 ++ frC q1 ++ frC q2
def stI1 (q0 q1 q2 : Rat) : Nat → List D
  | 0 => zC ++ zC ++ zC
  | 1 => zC ++ frC q1 ++ zC
  | 2 => zC ++ frC q1 ++ frC q2
  | _ => frC q0 ++ frC q1 ++ frC q2
def stI2 (q0 q1 q2 : Rat) : Nat → List D
  | 0 => zC ++ zC ++ zC
  | 1 => zC ++ zC ++ frC q2
  | 2 => frC q0 ++ zC ++ frC q2
  | _ => frC q0 ++ frC q1 ++ frC q2
def stI3 (q0 q1 q2 : Rat) : Nat → List D
  | 0 => zC ++ zC ++ zC
  | 1 => frC q0 ++ zC ++ zC
  | 2 => frC q0 ++ zC ++ frC q2
  | _ => frC q0 ++ frC q1 ++ frC q2
def stI4 (q0 q1 q2 : Rat) : Nat → List D
  | 0 => zC ++ zC ++ zC
  | 1 => zC ++ frC q1 ++ zC
  | 2 => frC q0 ++ frC q1 ++ zC
  | _ => frC q0 ++ frC q1 ++ frC q2
def stI5 (q0 q1 q2 : Rat) : Nat → List D
  | 0 => zC ++ zC ++ zC
  | 1 => frC q0 ++ zC ++ zC
  | 2 => frC q0 ++ frC q1 ++ zC
  | _ => frC q0 ++ frC q1 ++ frC q2
theorem n10 : (1 : Int) - 1 = 0 := rfl
theorem n21 : (2 : Int) - 1 = 1 := rfl
theorem n20 : (2 : Int) - 0 = 2 := rfl
theorem m21 : (2 : Int) - 2 = 0 := rfl
theorem m23 : (2 : Int) - 3 = -1 := rfl
theorem mul_fact {x s : Nat} {d : Int} (hx : x + 1 < s) (hs : s ≤ 9) (hd : 0 < d ∧ d ≤ 1688772552032250) : (0 ≤ (x : Int) * d ∧ (x : Int) * d ≤ 13510180416258000) ∧ (1 ≤ d * ((s : Int) - 1) ∧ d * ((s : Int) - 1) ≤ 13510180416258000) := by
  refine ⟨⟨Int.mul_nonneg (by omega) (by omega), ?_⟩, ?_, ?_⟩
  · exact Int.le_trans (Int.mul_le_mul (show (x : Int) ≤ 8 by omega) hd.2 (by omega) (by omega)) (by omega)
  · have := Int.mul_le_mul (show (1 : Int) ≤ d by omega) (show (1 : Int) ≤ (s : Int) - 1 by omega) (by omega) (by omega)
    omega
  · exact Int.le_trans (Int.mul_le_mul hd.2 (show (s : Int) - 1 ≤ 8 by omega) (by omega) (by omega)) (by omega)
theorem zU14_0 : type_of% @Int.zero_add ∧ type_of% @Nat.zero_add ∧ type_of% @g3_0 ∧ type_of% @g3_1 ∧ type_of% @g3_2 ∧ type_of% @i3_0 ∧ type_of% @i3_1 ∧ type_of% @i3_2 ∧ type_of% @k0 ∧ type_of% @k1 ∧ type_of% @k2 ∧ type_of% @n10 ∧ type_of% @n20 ∧ type_of% @n21 ∧ type_of% @s3_0 ∧ type_of% @s3_1 ∧ type_of% @s3_2 ∧ type_of% @tn0 ∧ type_of% @tn1 ∧ type_of% @tn2 ∧ type_of% @tn3 := ⟨@Int.zero_add, @Nat.zero_add, @g3_0, @g3_1, @g3_2, @i3_0, @i3_1, @i3_2, @k0, @k1, @k2, @n10, @n20, @n21, @s3_0, @s3_1, @s3_2, @tn0, @tn1, @tn2, @tn3⟩
theorem inputs_0 {s0 s1 s2 : Nat} (x : N3) {o : Nat} (ho : o < 6) (c : Nat → V3) (hx : x.1 + 1 < s0 ∧ x.2.1 + 1 < s1 ∧ x.2.2 + 1 < s2) (hs : s0 ≤ 9 ∧ s1 ≤ 9 ∧ s2 ≤ 9) {a b e d : Int} (ha : 0 ≤ a) (hb : 0 ≤ b) (he : 0 ≤ e) (hsm : a + b + e ≤ d) (hd : 0 < d ∧ d ≤ 1688772552032250) :
    Called Tryz.prog 18 [tetD x (ordA o) c, .ints .i64 (sz3 s0 s1 s2), .iarr .i64 [a, b, e], .int .i64 d] (.tup [.slf 2 3 (resF x o a b e d s0 s1 s2), .int .i64 0]) := by
  have z0 := sz3_0 s0 s1 s2
  have z1 := sz3_1 s0 s1 s2
  have z2 := sz3_2 s0 s1 s2
  have zl := sz3_len s0 s1 s2
  have y0 : (sz3 s0 s1 s2).getD 0 0 = s0 := rfl
  have y1 : (sz3 s0 s1 s2).getD 1 0 = s1 := rfl
  have y2 : (sz3 s0 s1 s2).getD 2 0 = s2 := rfl
  generalize sz3 s0 s1 s2 = sz at *
  have m0 := mul_fact hx.1 hs.1 hd
  have m1 := mul_fact hx.2.1 hs.2.1 hd
  have m2 := mul_fact hx.2.2 hs.2.2 hd
  unfold tetD tetL resF
  obtain ⟨q0, eq0⟩ : ∃ q, frq x.1 (rs3 o a b e).1 d s0 = q := ⟨_, rfl⟩
  obtain ⟨q1, eq1⟩ : ∃ q, frq x.2.1 (rs3 o a b e).2.1 d s1 = q := ⟨_, rfl⟩
  obtain ⟨q2, eq2⟩ : ∃ q, frq x.2.2 (rs3 o a b e).2.2 d s2 = q := ⟨_, rfl⟩
  rw [eq0, eq1, eq2]
  simp only [v3L, List.cons_append, List.nil_append, List.map_cons, List.map_nil, n3L]
  obtain ⟨x0, x1, x2⟩ := x
  dsimp only at hx m0 m1 m2 eq0 eq1 eq2
  have h6 : o = 0 ∨ o = 1 ∨ o = 2 ∨ o = 3 ∨ o = 4 ∨ o = 5 := by omega
  rcases h6 with h6 | h6 | h6 | h6 | h6 | h6
  all_goals subst h6
  · simp only [n3L, ordA, rs3, k0, k1, k2]
    unfold frq at eq0 eq1 eq2
    simp only [rs3] at eq0 eq1 eq2
    have o0 := ofE eq0 (by omega) (by omega)
    have o1 := ofE eq1 (by omega) (by omega)
    have o2 := ofE eq2 (by omega) (by omega)
    clear eq0 eq1 eq2
    unfold frC at o0 o1 o2
    refine called_of_run tbOk 6 ⟨Tryz.func18, rfl, rfl, Nat.le_of_ble_eq_true rfl⟩ ?_
    (conv => whnf)
    (conv => whnf)
    (try simp only [Nat.zero_add])
    repeat ((first | refine V.s1 ?_); (try simp only [Nat.zero_add]))
    refine lp_any (0) (fun k => k ≤ 3) (fun k => 3 - k) (fun k => [(12, .int .i64 (2 - (k : Int))), (11, .int .i64 (stRe a b e k))]) (fun k => [(16, .box (stI0 q0 q1 q2 k))]) ?_ ?_ ?_
    exact V.wk
    exact Nat.zero_le _
    intro k hk
    (conv => whnf)
    (try simp only [Nat.zero_add])
    repeat ((first | refine V.s1 ?_); (try simp only [Nat.zero_add]))
    refine Cnd.split (CondB.mk (fun hq => ?_) (fun hq => ?_))
    · have hk3 : k = 0 ∨ k = 1 ∨ k = 2 := by
        simp at hq
        omega
      rcases hk3 with e1 | e1 | e1
      · subst e1
        simp only [k0, n20, n21, m21, stRe, stI0, zC, frC, List.cons_append, List.nil_append]
        (conv => whnf)
        (try simp only [zU14_0, z0, z1, z2, y0, y1, y2])
        repeat ((first | refine V.s1 ?_); (try simp only [zU14_0, z0, z1, z2, y0, y1, y2]))
        refine ⟨(.take 0 (.take 1 (.take 2 (.take 3 (.take 4 (.take 5 (.take 6 (.take 7 (.take 8 (.take 9 (.take 10 (.take 11 (.take 12 (.take 13 (.take 14 (.ev (.cons 15 [] (.take 16 (.take 17 (.take 18 (.ev (.cons 19 [18, 17, 16] (.ev (.cons 20 [18] (.take 21 (.done)) (.nil))) (.nil)))))) (.cons 19 [14, 13, 12, 11, 10, 9, 8, 7, 6, 5, 4, 3, 2, 1, 0] (.ev (.cons 15 [] (.take 16 (.take 17 (.take 18 (.ev (.cons 20 [18] (.take 21 (.done)) (.nil)))))) (.nil))) (.nil))))))))))))))))))), ⟨by kernel_rfl, by kernel_rfl, by kernel_rfl⟩, ?_⟩
        refine drw_meet [(15, .int .i64 0), (14, .box 14 0)] [(14, .box (frC q2))] ?_ ?_
        · (conv => whnf); (try simp only [zU14_0, z0, z1, z2, y0, y1, y2])
          repeat' (first | exact V.wk | ((first | refine V.s1 ?_ | ((with_reducible refine recheck_and ?_ ?_); (focus ((conv => whnf); (try simp only [zU14_0, z0, z1, z2, y0, y1, y2]); (repeat (refine V.s1 ?_; (try simp only [zU14_0, z0, z1, z2, y0, y1, y2]))); exact ⟨rfl⟩)); (conv => whnf)) | ((try ((with_reducible refine .ext ?_); (conv => whnf); (try simp only [zU14_0, z0, z1, z2, y0, y1, y2]))); (with_reducible refine call_intro (r := ?_) ?_ ?_); rotate_left; (focus (first | exact (o0) | exact (o1) | exact (o2))); (conv => whnf))); (try simp only [zU14_0, z0, z1, z2, y0, y1, y2])) | (refine And.intro ?_ ?_ <;> (conv => whnf); (try simp only [zU14_0, z0, z1, z2, y0, y1, y2])))
        (conv => whnf)
        (try simp only [zU14_0, z0, z1, z2, y0, y1, y2, frC])
        repeat ((first | refine V.s1 ?_); (try simp only [zU14_0, z0, z1, z2, y0, y1, y2, frC]))
        exact ⟨1, by omega, by omega, V.wk⟩
      · subst e1
        simp only [k1, n20, n21, m21, stRe, stI0, zC, frC, List.cons_append, List.nil_append]
        (conv => whnf)
        (try simp only [zU14_0, z0, z1, z2, y0, y1, y2])
        repeat ((first | refine V.s1 ?_); (try simp only [zU14_0, z0, z1, z2, y0, y1, y2]))
        refine ⟨(.take 0 (.take 1 (.take 2 (.take 3 (.take 4 (.take 5 (.take 6 (.take 7 (.take 8 (.take 9 (.take 10 (.take 11 (.take 12 (.take 13 (.take 14 (.ev (.cons 15 [] (.take 16 (.take 17 (.take 18 (.ev (.cons 19 [18, 17, 16] (.ev (.cons 20 [18] (.take 21 (.done)) (.nil))) (.nil)))))) (.cons 19 [14, 13, 12, 11, 10, 9, 8, 7, 6, 5, 4, 3, 2, 1, 0] (.ev (.cons 15 [] (.take 16 (.take 17 (.take 18 (.ev (.cons 20 [18] (.take 21 (.done)) (.nil)))))) (.nil))) (.nil))))))))))))))))))), ⟨by kernel_rfl, by kernel_rfl, by kernel_rfl⟩, ?_⟩
        refine drw_meet [(15, .int .i64 0), (14, .box 14 0)] [(14, .box (frC q1))] ?_ ?_
        · (conv => whnf); (try simp only [zU14_0, z0, z1, z2, y0, y1, y2])
          repeat' (first | exact V.wk | ((first | refine V.s1 ?_ | ((with_reducible refine recheck_and ?_ ?_); (focus ((conv => whnf); (try simp only [zU14_0, z0, z1, z2, y0, y1, y2]); (repeat (refine V.s1 ?_; (try simp only [zU14_0, z0, z1, z2, y0, y1, y2]))); exact ⟨rfl⟩)); (conv => whnf)) | ((try ((with_reducible refine .ext ?_); (conv => whnf); (try simp only [zU14_0, z0, z1, z2, y0, y1, y2]))); (with_reducible refine call_intro (r := ?_) ?_ ?_); rotate_left; (focus (first | exact (o0) | exact (o1) | exact (o2))); (conv => whnf))); (try simp only [zU14_0, z0, z1, z2, y0, y1, y2])) | (refine And.intro ?_ ?_ <;> (conv => whnf); (try simp only [zU14_0, z0, z1, z2, y0, y1, y2])))
        (conv => whnf)
        (try simp only [zU14_0, z0, z1, z2, y0, y1, y2, frC])
        repeat ((first | refine V.s1 ?_); (try simp only [zU14_0, z0, z1, z2, y0, y1, y2, frC]))
        exact ⟨2, by omega, by omega, V.wk⟩
      · subst e1
        simp only [k2, n20, n21, m21, stRe, stI0, zC, frC, List.cons_append, List.nil_append]
        (conv => whnf)
        (try simp only [zU14_0, z0, z1, z2, y0, y1, y2])
        repeat ((first | refine V.s1 ?_); (try simp only [zU14_0, z0, z1, z2, y0, y1, y2]))
        refine ⟨(.take 0 (.take 1 (.take 2 (.take 3 (.take 4 (.take 5 (.take 6 (.take 7 (.take 8 (.take 9 (.take 10 (.take 11 (.take 12 (.take 13 (.take 14 (.ev (.cons 15 [] (.take 16 (.take 17 (.take 18 (.ev (.cons 19 [18, 17, 16] (.ev (.cons 20 [18] (.take 21 (.done)) (.nil))) (.nil)))))) (.cons 19 [14, 13, 12, 11, 10, 9, 8, 7, 6, 5, 4, 3, 2, 1, 0] (.ev (.cons 15 [] (.take 16 (.take 17 (.take 18 (.ev (.cons 20 [18] (.take 21 (.done)) (.nil)))))) (.nil))) (.nil))))))))))))))))))), ⟨by kernel_rfl, by kernel_rfl, by kernel_rfl⟩, ?_⟩
        refine drw_meet [(15, .int .i64 0), (14, .box 14 0)] [(14, .box (frC q0))] ?_ ?_
        · (conv => whnf); (try simp only [zU14_0, z0, z1, z2, y0, y1, y2])
          repeat' (first | exact V.wk | ((first | refine V.s1 ?_ | ((with_reducible refine recheck_and ?_ ?_); (focus ((conv => whnf); (try simp only [zU14_0, z0, z1, z2, y0, y1, y2]); (repeat (refine V.s1 ?_; (try simp only [zU14_0, z0, z1, z2, y0, y1, y2]))); exact ⟨rfl⟩)); (conv => whnf)) | ((try ((with_reducible refine .ext ?_); (conv => whnf); (try simp only [zU14_0, z0, z1, z2, y0, y1, y2]))); (with_reducible refine call_intro (r := ?_) ?_ ?_); rotate_left; (focus (first | exact (o0) | exact (o1) | exact (o2))); (conv => whnf))); (try simp only [zU14_0, z0, z1, z2, y0, y1, y2])) | (refine And.intro ?_ ?_ <;> (conv => whnf); (try simp only [zU14_0, z0, z1, z2, y0, y1, y2])))
        (conv => whnf)
        (try simp only [zU14_0, z0, z1, z2, y0, y1, y2, frC])
        repeat ((first | refine V.s1 ?_); (try simp only [zU14_0, z0, z1, z2, y0, y1, y2, frC]))
        exact ⟨3, by omega, by omega, V.wk⟩
    · have hk3 : k = 3 := by
        simp at hq
        omega
      subst hk3
      simp only [stI0, frC, List.cons_append, List.nil_append]
      (conv => whnf)
      (try simp only [Nat.zero_add])
      repeat ((first | refine V.s1 ?_); (try simp only [Nat.zero_add]))
      exact Fin.of rfl
  · simp only [n3L, ordA, rs3, k0, k1, k2]
    unfold frq at eq0 eq1 eq2
    simp only [rs3] at eq0 eq1 eq2
    have o0 := ofE eq0 (by omega) (by omega)
    have o1 := ofE eq1 (by omega) (by omega)
    have o2 := ofE eq2 (by omega) (by omega)
    clear eq0 eq1 eq2
    unfold frC at o0 o1 o2
    refine called_of_run tbOk 6 ⟨Tryz.func18, rfl, rfl, Nat.le_of_ble_eq_true rfl⟩ ?_
    (conv => whnf)
    (conv => whnf)
    (try simp only [Nat.zero_add])
    repeat ((first | refine V.s1 ?_); (try simp only [Nat.zero_add]))
    refine lp_any (0) (fun k => k ≤ 3) (fun k => 3 - k) (fun k => [(12, .int .i64 (2 - (k : Int))), (11, .int .i64 (stRe a b e k))]) (fun k => [(16, .box (stI1 q0 q1 q2 k))]) ?_ ?_ ?_
    exact V.wk
    exact Nat.zero_le _
    intro k hk
    (conv => whnf)
    (try simp only [Nat.zero_add])
    repeat ((first | refine V.s1 ?_); (try simp only [Nat.zero_add]))
    refine Cnd.split (CondB.mk (fun hq => ?_) (fun hq => ?_))
    · have hk3 : k = 0 ∨ k = 1 ∨ k = 2 := by
        simp at hq
        omega
      rcases hk3 with e1 | e1 | e1
      · subst e1
        simp only [k0, n20, n21, m21, stRe, stI1, zC, frC, List.cons_append, List.nil_append]
        (conv => whnf)
        (try simp only [zU14_0, z0, z1, z2, y0, y1, y2])
        repeat ((first | refine V.s1 ?_); (try simp only [zU14_0, z0, z1, z2, y0, y1, y2]))
        refine ⟨(.take 0 (.take 1 (.take 2 (.take 3 (.take 4 (.take 5 (.take 6 (.take 7 (.take 8 (.take 9 (.take 10 (.take 11 (.take 12 (.take 13 (.take 14 (.ev (.cons 15 [] (.take 16 (.take 17 (.take 18 (.ev (.cons 19 [18, 17, 16] (.ev (.cons 20 [18] (.take 21 (.done)) (.nil))) (.nil)))))) (.cons 19 [14, 13, 12, 11, 10, 9, 8, 7, 6, 5, 4, 3, 2, 1, 0] (.ev (.cons 15 [] (.take 16 (.take 17 (.take 18 (.ev (.cons 20 [18] (.take 21 (.done)) (.nil)))))) (.nil))) (.nil))))))))))))))))))), ⟨by kernel_rfl, by kernel_rfl, by kernel_rfl⟩, ?_⟩
        refine drw_meet [(15, .int .i64 0), (14, .box 14 0)] [(14, .box (frC q1))] ?_ ?_
        · (conv => whnf); (try simp only [zU14_0, z0, z1, z2, y0, y1, y2])
          repeat' (first | exact V.wk | ((first | refine V.s1 ?_ | ((with_reducible refine recheck_and ?_ ?_); (focus ((conv => whnf); (try simp only [zU14_0, z0, z1, z2, y0, y1, y2]); (repeat (refine V.s1 ?_; (try simp only [zU14_0, z0, z1, z2, y0, y1, y2]))); exact ⟨rfl⟩)); (conv => whnf)) | ((try ((with_reducible refine .ext ?_); (conv => whnf); (try simp only [zU14_0, z0, z1, z2, y0, y1, y2]))); (with_reducible refine call_intro (r := ?_) ?_ ?_); rotate_left; (focus (first | exact (o0) | exact (o1) | exact (o2))); (conv => whnf))); (try simp only [zU14_0, z0, z1, z2, y0, y1, y2])) | (refine And.intro ?_ ?_ <;> (conv => whnf); (try simp only [zU14_0, z0, z1, z2, y0, y1, y2])))
        (conv => whnf)
        (try simp only [zU14_0, z0, z1, z2, y0, y1, y2, frC])
        repeat ((first | refine V.s1 ?_); (try simp only [zU14_0, z0, z1, z2, y0, y1, y2, frC]))
        exact ⟨1, by omega, by omega, V.wk⟩
      · subst e1
        simp only [k1, n20, n21, m21, stRe, stI1, zC, frC, List.cons_append, List.nil_append]
        (conv => whnf)
        (try simp only [zU14_0, z0, z1, z2, y0, y1, y2])
        repeat ((first | refine V.s1 ?_); (try simp only [zU14_0, z0, z1, z2, y0, y1, y2]))
        refine ⟨(.take 0 (.take 1 (.take 2 (.take 3 (.take 4 (.take 5 (.take 6 (.take 7 (.take 8 (.take 9 (.take 10 (.take 11 (.take 12 (.take 13 (.take 14 (.ev (.cons 15 [] (.take 16 (.take 17 (.take 18 (.ev (.cons 19 [18, 17, 16] (.ev (.cons 20 [18] (.take 21 (.done)) (.nil))) (.nil)))))) (.cons 19 [14, 13, 12, 11, 10, 9, 8, 7, 6, 5, 4, 3, 2, 1, 0] (.ev (.cons 15 [] (.take 16 (.take 17 (.take 18 (.ev (.cons 20 [18] (.take 21 (.done)) (.nil)))))) (.nil))) (.nil))))))))))))))))))), ⟨by kernel_rfl, by kernel_rfl, by kernel_rfl⟩, ?_⟩
        refine drw_meet [(15, .int .i64 0), (14, .box 14 0)] [(14, .box (frC q2))] ?_ ?_
        · (conv => whnf); (try simp only [zU14_0, z0, z1, z2, y0, y1, y2])
          repeat' (first | exact V.wk | ((first | refine V.s1 ?_ | ((with_reducible refine recheck_and ?_ ?_); (focus ((conv => whnf); (try simp only [zU14_0, z0, z1, z2, y0, y1, y2]); (repeat (refine V.s1 ?_; (try simp only [zU14_0, z0, z1, z2, y0, y1, y2]))); exact ⟨rfl⟩)); (conv => whnf)) | ((try ((with_reducible refine .ext ?_); (conv => whnf); (try simp only [zU14_0, z0, z1, z2, y0, y1, y2]))); (with_reducible refine call_intro (r := ?_) ?_ ?_); rotate_left; (focus (first | exact (o0) | exact (o1) | exact (o2))); (conv => whnf))); (try simp only [zU14_0, z0, z1, z2, y0, y1, y2])) | (refine And.intro ?_ ?_ <;> (conv => whnf); (try simp only [zU14_0, z0, z1, z2, y0, y1, y2])))
        (conv => whnf)
        (try simp only [zU14_0, z0, z1, z2, y0, y1, y2, frC])
        repeat ((first | refine V.s1 ?_); (try simp only [zU14_0, z0, z1, z2, y0, y1, y2, frC]))
        exact ⟨2, by omega, by omega, V.wk⟩
      · subst e1
        simp only [k2, n20, n21, m21, stRe, stI1, zC, frC, List.cons_append, List.nil_append]
        (conv => whnf)
        (try simp only [zU14_0, z0, z1, z2, y0, y1, y2])
        repeat ((first | refine V.s1 ?_); (try simp only [zU14_0, z0, z1, z2, y0, y1, y2]))
        refine ⟨(.take 0 (.take 1 (.take 2 (.take 3 (.take 4 (.take 5 (.take 6 (.take 7 (.take 8 (.take 9 (.take 10 (.take 11 (.take 12 (.take 13 (.take 14 (.ev (.cons 15 [] (.take 16 (.take 17 (.take 18 (.ev (.cons 19 [18, 17, 16] (.ev (.cons 20 [18] (.take 21 (.done)) (.nil))) (.nil)))))) (.cons 19 [14, 13, 12, 11, 10, 9, 8, 7, 6, 5, 4, 3, 2, 1, 0] (.ev (.cons 15 [] (.take 16 (.take 17 (.take 18 (.ev (.cons 20 [18] (.take 21 (.done)) (.nil)))))) (.nil))) (.nil))))))))))))))))))), ⟨by kernel_rfl, by kernel_rfl, by kernel_rfl⟩, ?_⟩
        refine drw_meet [(15, .int .i64 0), (14, .box 14 0)] [(14, .box (frC q0))] ?_ ?_
        · (conv => whnf); (try simp only [zU14_0, z0, z1, z2, y0, y1, y2])
          repeat' (first | exact V.wk | ((first | refine V.s1 ?_ | ((with_reducible refine recheck_and ?_ ?_); (focus ((conv => whnf); (try simp only [zU14_0, z0, z1, z2, y0, y1, y2]); (repeat (refine V.s1 ?_; (try simp only [zU14_0, z0, z1, z2, y0, y1, y2]))); exact ⟨rfl⟩)); (conv => whnf)) | ((try ((with_reducible refine .ext ?_); (conv => whnf); (try simp only [zU14_0, z0, z1, z2, y0, y1, y2]))); (with_reducible refine call_intro (r := ?_) ?_ ?_); rotate_left; (focus (first | exact (o0) | exact (o1) | exact (o2))); (conv => whnf))); (try simp only [zU14_0, z0, z1, z2, y0, y1, y2])) | (refine And.intro ?_ ?_ <;> (conv => whnf); (try simp only [zU14_0, z0, z1, z2, y0, y1, y2])))
        (conv => whnf)
        (try simp only [zU14_0, z0, z1, z2, y0, y1, y2, frC])
        repeat ((first | refine V.s1 ?_); (try simp only [zU14_0, z0, z1, z2, y0, y1, y2, frC]))
        exact ⟨3, by omega, by omega, V.wk⟩
    · have hk3 : k = 3 := by
        simp at hq
        omega
      subst hk3
      simp only [stI1, frC, List.cons_append, List.nil_append]
      (conv => whnf)
      (try simp only [Nat.zero_add])
      repeat ((first | refine V.s1 ?_); (try simp only [Nat.zero_add]))
      exact Fin.of rfl
  · simp only [n3L, ordA, rs3, k0, k1, k2]
    unfold frq at eq0 eq1 eq2
    simp only [rs3] at eq0 eq1 eq2
    have o0 := ofE eq0 (by omega) (by omega)
    have o1 := ofE eq1 (by omega) (by omega)
    have o2 := ofE eq2 (by omega) (by omega)
    clear eq0 eq1 eq2
    unfold frC at o0 o1 o2
    refine called_of_run tbOk 6 ⟨Tryz.func18, rfl, rfl, Nat.le_of_ble_eq_true rfl⟩ ?_
    (conv => whnf)
    (conv => whnf)
    (try simp only [Nat.zero_add])
    repeat ((first | refine V.s1 ?_); (try simp only [Nat.zero_add]))
    refine lp_any (0) (fun k => k ≤ 3) (fun k => 3 - k) (fun k => [(12, .int .i64 (2 - (k : Int))), (11, .int .i64 (stRe a b e k))]) (fun k => [(16, .box (stI2 q0 q1 q2 k))]) ?_ ?_ ?_
    exact V.wk
    exact Nat.zero_le _
    intro k hk
    (conv => whnf)
    (try simp only [Nat.zero_add])
    repeat ((first | refine V.s1 ?_); (try simp only [Nat.zero_add]))
    refine Cnd.split (CondB.mk (fun hq => ?_) (fun hq => ?_))
    · have hk3 : k = 0 ∨ k = 1 ∨ k = 2 := by
        simp at hq
        omega
      rcases hk3 with e1 | e1 | e1
      · subst e1
        simp only [k0, n20, n21, m21, stRe, stI2, zC, frC, List.cons_append, List.nil_append]
        (conv => whnf)
        (try simp only [zU14_0, z0, z1, z2, y0, y1, y2])
        repeat ((first | refine V.s1 ?_); (try simp only [zU14_0, z0, z1, z2, y0, y1, y2]))
        refine ⟨(.take 0 (.take 1 (.take 2 (.take 3 (.take 4 (.take 5 (.take 6 (.take 7 (.take 8 (.take 9 (.take 10 (.take 11 (.take 12 (.take 13 (.take 14 (.ev (.cons 15 [] (.take 16 (.take 17 (.take 18 (.ev (.cons 19 [18, 17, 16] (.ev (.cons 20 [18] (.take 21 (.done)) (.nil))) (.nil)))))) (.cons 19 [14, 13, 12, 11, 10, 9, 8, 7, 6, 5, 4, 3, 2, 1, 0] (.ev (.cons 15 [] (.take 16 (.take 17 (.take 18 (.ev (.cons 20 [18] (.take 21 (.done)) (.nil)))))) (.nil))) (.nil))))))))))))))))))), ⟨by kernel_rfl, by kernel_rfl, by kernel_rfl⟩, ?_⟩
        refine drw_meet [(15, .int .i64 0), (14, .box 14 0)] [(14, .box (frC q2))] ?_ ?_
        · (conv => whnf); (try simp only [zU14_0, z0, z1, z2, y0, y1, y2])
          repeat' (first | exact V.wk | ((first | refine V.s1 ?_ | ((with_reducible refine recheck_and ?_ ?_); (focus ((conv => whnf); (try simp only [zU14_0, z0, z1, z2, y0, y1, y2]); (repeat (refine V.s1 ?_; (try simp only [zU14_0, z0, z1, z2, y0, y1, y2]))); exact ⟨rfl⟩)); (conv => whnf)) | ((try ((with_reducible refine .ext ?_); (conv => whnf); (try simp only [zU14_0, z0, z1, z2, y0, y1, y2]))); (with_reducible refine call_intro (r := ?_) ?_ ?_); rotate_left; (focus (first | exact (o0) | exact (o1) | exact (o2))); (conv => whnf))); (try simp only [zU14_0, z0, z1, z2, y0, y1, y2])) | (refine And.intro ?_ ?_ <;> (conv => whnf); (try simp only [zU14_0, z0, z1, z2, y0, y1, y2])))
        (conv => whnf)
        (try simp only [zU14_0, z0, z1, z2, y0, y1, y2, frC])
        repeat ((first | refine V.s1 ?_); (try simp only [zU14_0, z0, z1, z2, y0, y1, y2, frC]))
        exact ⟨1, by omega, by omega, V.wk⟩
      · subst e1
        simp only [k1, n20, n21, m21, stRe, stI2, zC, frC, List.cons_append, List.nil_append]
        (conv => whnf)
        (try simp only [zU14_0, z0, z1, z2, y0, y1, y2])
        repeat ((first | refine V.s1 ?_); (try simp only [zU14_0, z0, z1, z2, y0, y1, y2]))
        refine ⟨(.take 0 (.take 1 (.take 2 (.take 3 (.take 4 (.take 5 (.take 6 (.take 7 (.take 8 (.take 9 (.take 10 (.take 11 (.take 12 (.take 13 (.take 14 (.ev (.cons 15 [] (.take 16 (.take 17 (.take 18 (.ev (.cons 19 [18, 17, 16] (.ev (.cons 20 [18] (.take 21 (.done)) (.nil))) (.nil)))))) (.cons 19 [14, 13, 12, 11, 10, 9, 8, 7, 6, 5, 4, 3, 2, 1, 0] (.ev (.cons 15 [] (.take 16 (.take 17 (.take 18 (.ev (.cons 20 [18] (.take 21 (.done)) (.nil)))))) (.nil))) (.nil))))))))))))))))))), ⟨by kernel_rfl, by kernel_rfl, by kernel_rfl⟩, ?_⟩
        refine drw_meet [(15, .int .i64 0), (14, .box 14 0)] [(14, .box (frC q0))] ?_ ?_
        · (conv => whnf); (try simp only [zU14_0, z0, z1, z2, y0, y1, y2])
          repeat' (first | exact V.wk | ((first | refine V.s1 ?_ | ((with_reducible refine recheck_and ?_ ?_); (focus ((conv => whnf); (try simp only [zU14_0, z0, z1, z2, y0, y1, y2]); (repeat (refine V.s1 ?_; (try simp only [zU14_0, z0, z1, z2, y0, y1, y2]))); exact ⟨rfl⟩)); (conv => whnf)) | ((try ((with_reducible refine .ext ?_); (conv => whnf); (try simp only [zU14_0, z0, z1, z2, y0, y1, y2]))); (with_reducible refine call_intro (r := ?_) ?_ ?_); rotate_left; (focus (first | exact (o0) | exact (o1) | exact (o2))); (conv => whnf))); (try simp only [zU14_0, z0, z1, z2, y0, y1, y2])) | (refine And.intro ?_ ?_ <;> (conv => whnf); (try simp only [zU14_0, z0, z1, z2, y0, y1, y2])))
        (conv => whnf)
        (try simp only [zU14_0, z0, z1, z2, y0, y1, y2, frC])
        repeat ((first | refine V.s1 ?_); (try simp only [zU14_0, z0, z1, z2, y0, y1, y2, frC]))
        exact ⟨2, by omega, by omega, V.wk⟩
      · subst e1
        simp only [k2, n20, n21, m21, stRe, stI2, zC, frC, List.cons_append, List.nil_append]
        (conv => whnf)
        (try simp only [zU14_0, z0, z1, z2, y0, y1, y2])
        repeat ((first | refine V.s1 ?_); (try simp only [zU14_0, z0, z1, z2, y0, y1, y2]))
        refine ⟨(.take 0 (.take 1 (.take 2 (.take 3 (.take 4 (.take 5 (.take 6 (.take 7 (.take 8 (.take 9 (.take 10 (.take 11 (.take 12 (.take 13 (.take 14 (.ev (.cons 15 [] (.take 16 (.take 17 (.take 18 (.ev (.cons 19 [18, 17, 16] (.ev (.cons 20 [18] (.take 21 (.done)) (.nil))) (.nil)))))) (.cons 19 [14, 13, 12, 11, 10, 9, 8, 7, 6, 5, 4, 3, 2, 1, 0] (.ev (.cons 15 [] (.take 16 (.take 17 (.take 18 (.ev (.cons 20 [18] (.take 21 (.done)) (.nil)))))) (.nil))) (.nil))))))))))))))))))), ⟨by kernel_rfl, by kernel_rfl, by kernel_rfl⟩, ?_⟩
        refine drw_meet [(15, .int .i64 0), (14, .box 14 0)] [(14, .box (frC q1))] ?_ ?_
        · (conv => whnf); (try simp only [zU14_0, z0, z1, z2, y0, y1, y2])
          repeat' (first | exact V.wk | ((first | refine V.s1 ?_ | ((with_reducible refine recheck_and ?_ ?_); (focus ((conv => whnf); (try simp only [zU14_0, z0, z1, z2, y0, y1, y2]); (repeat (refine V.s1 ?_; (try simp only [zU14_0, z0, z1, z2, y0, y1, y2]))); exact ⟨rfl⟩)); (conv => whnf)) | ((try ((with_reducible refine .ext ?_); (conv => whnf); (try simp only [zU14_0, z0, z1, z2, y0, y1, y2]))); (with_reducible refine call_intro (r := ?_) ?_ ?_); rotate_left; (focus (first | exact (o0) | exact (o1) | exact (o2))); (conv => whnf))); (try simp only [zU14_0, z0, z1, z2, y0, y1, y2])) | (refine And.intro ?_ ?_ <;> (conv => whnf); (try simp only [zU14_0, z0, z1, z2, y0, y1, y2])))
        (conv => whnf)
        (try simp only [zU14_0, z0, z1, z2, y0, y1, y2, frC])
        repeat ((first | refine V.s1 ?_); (try simp only [zU14_0, z0, z1, z2, y0, y1, y2, frC]))
        exact ⟨3, by omega, by omega, V.wk⟩
    · have hk3 : k = 3 := by
        simp at hq
        omega
      subst hk3
      simp only [stI2, frC, List.cons_append, List.nil_append]
      (conv => whnf)
      (try simp only [Nat.zero_add])
      repeat ((first | refine V.s1 ?_); (try simp only [Nat.zero_add]))
      exact Fin.of rfl
  · simp only [n3L, ordA, rs3, k0, k1, k2]
    unfold frq at eq0 eq1 eq2
    simp only [rs3] at eq0 eq1 eq2
    have o0 := ofE eq0 (by omega) (by omega)
    have o1 := ofE eq1 (by omega) (by omega)
    have o2 := ofE eq2 (by omega) (by omega)
    clear eq0 eq1 eq2
    unfold frC at o0 o1 o2
    refine called_of_run tbOk 6 ⟨Tryz.func18, rfl, rfl, Nat.le_of_ble_eq_true rfl⟩ ?_
    (conv => whnf)
    (conv => whnf)
    (try simp only [Nat.zero_add])
    repeat ((first | refine V.s1 ?_); (try simp only [Nat.zero_add]))
    refine lp_any (0) (fun k => k ≤ 3) (fun k => 3 - k) (fun k => [(12, .int .i64 (2 - (k : Int))), (11, .int .i64 (stRe a b e k))]) (fun k => [(16, .box (stI3 q0 q1 q2 k))]) ?_ ?_ ?_
    exact V.wk
    exact Nat.zero_le _
    intro k hk
    (conv => whnf)
    (try simp only [Nat.zero_add])
    repeat ((first | refine V.s1 ?_); (try simp only [Nat.zero_add]))
    refine Cnd.split (CondB.mk (fun hq => ?_) (fun hq => ?_))
    · have hk3 : k = 0 ∨ k = 1 ∨ k = 2 := by
        simp at hq
        omega
      rcases hk3 with e1 | e1 | e1
      · subst e1
        simp only [k0, n20, n21, m21, stRe, stI3, zC, frC, List.cons_append, List.nil_append]
        (conv => whnf)
        (try simp only [zU14_0, z0, z1, z2, y0, y1, y2])
        repeat ((first | refine V.s1 ?_); (try simp only [zU14_0, z0, z1, z2, y0, y1, y2]))
        refine ⟨(.take 0 (.take 1 (.take 2 (.take 3 (.take 4 (.take 5 (.take 6 (.take 7 (.take 8 (.take 9 (.take 10 (.take 11 (.take 12 (.take 13 (.take 14 (.ev (.cons 15 [] (.take 16 (.take 17 (.take 18 (.ev (.cons 19 [18, 17, 16] (.ev (.cons 20 [18] (.take 21 (.done)) (.nil))) (.nil)))))) (.cons 19 [14, 13, 12, 11, 10, 9, 8, 7, 6, 5, 4, 3, 2, 1, 0] (.ev (.cons 15 [] (.take 16 (.take 17 (.take 18 (.ev (.cons 20 [18] (.take 21 (.done)) (.nil)))))) (.nil))) (.nil))))))))))))))))))), ⟨by kernel_rfl, by kernel_rfl, by kernel_rfl⟩, ?_⟩
        refine drw_meet [(15, .int .i64 0), (14, .box 14 0)] [(14, .box (frC q0))] ?_ ?_
        · (conv => whnf); (try simp only [zU14_0, z0, z1, z2, y0, y1, y2])
          repeat' (first | exact V.wk | ((first | refine V.s1 ?_ | ((with_reducible refine recheck_and ?_ ?_); (focus ((conv => whnf); (try simp only [zU14_0, z0, z1, z2, y0, y1, y2]); (repeat (refine V.s1 ?_; (try simp only [zU14_0, z0, z1, z2, y0, y1, y2]))); exact ⟨rfl⟩)); (conv => whnf)) | ((try ((with_reducible refine .ext ?_); (conv => whnf); (try simp only [zU14_0, z0, z1, z2, y0, y1, y2]))); (with_reducible refine call_intro (r := ?_) ?_ ?_); rotate_left; (focus (first | exact (o0) | exact (o1) | exact (o2))); (conv => whnf))); (try simp only [zU14_0, z0, z1, z2, y0, y1, y2])) | (refine And.intro ?_ ?_ <;> (conv => whnf); (try simp only [zU14_0, z0, z1, z2, y0, y1, y2])))
        (conv => whnf)
        (try simp only [zU14_0, z0, z1, z2, y0, y1, y2, frC])
        repeat ((first | refine V.s1 ?_); (try simp only [zU14_0, z0, z1, z2, y0, y1, y2, frC]))
        exact ⟨1, by omega, by omega, V.wk⟩
      · subst e1
        simp only [k1, n20, n21, m21, stRe, stI3, zC, frC, List.cons_append, List.nil_append]
        (conv => whnf)
        (try simp only [zU14_0, z0, z1, z2, y0, y1, y2])
        repeat ((first | refine V.s1 ?_); (try simp only [zU14_0, z0, z1, z2, y0, y1, y2]))
        refine ⟨(.take 0 (.take 1 (.take 2 (.take 3 (.take 4 (.take 5 (.take 6 (.take 7 (.take 8 (.take 9 (.take 10 (.take 11 (.take 12 (.take 13 (.take 14 (.ev (.cons 15 [] (.take 16 (.take 17 (.take 18 (.ev (.cons 19 [18, 17, 16] (.ev (.cons 20 [18] (.take 21 (.done)) (.nil))) (.nil)))))) (.cons 19 [14, 13, 12, 11, 10, 9, 8, 7, 6, 5, 4, 3, 2, 1, 0] (.ev (.cons 15 [] (.take 16 (.take 17 (.take 18 (.ev (.cons 20 [18] (.take 21 (.done)) (.nil)))))) (.nil))) (.nil))))))))))))))))))), ⟨by kernel_rfl, by kernel_rfl, by kernel_rfl⟩, ?_⟩
        refine drw_meet [(15, .int .i64 0), (14, .box 14 0)] [(14, .box (frC q2))] ?_ ?_
        · (conv => whnf); (try simp only [zU14_0, z0, z1, z2, y0, y1, y2])
          repeat' (first | exact V.wk | ((first | refine V.s1 ?_ | ((with_reducible refine recheck_and ?_ ?_); (focus ((conv => whnf); (try simp only [zU14_0, z0, z1, z2, y0, y1, y2]); (repeat (refine V.s1 ?_; (try simp only [zU14_0, z0, z1, z2, y0, y1, y2]))); exact ⟨rfl⟩)); (conv => whnf)) | ((try ((with_reducible refine .ext ?_); (conv => whnf); (try simp only [zU14_0, z0, z1, z2, y0, y1, y2]))); (with_reducible refine call_intro (r := ?_) ?_ ?_); rotate_left; (focus (first | exact (o0) | exact (o1) | exact (o2))); (conv => whnf))); (try simp only [zU14_0, z0, z1, z2, y0, y1, y2])) | (refine And.intro ?_ ?_ <;> (conv => whnf); (try simp only [zU14_0, z0, z1, z2, y0, y1, y2])))
        (conv => whnf)
        (try simp only [zU14_0, z0, z1, z2, y0, y1, y2, frC])
        repeat ((first | refine V.s1 ?_); (try simp only [zU14_0, z0, z1, z2, y0, y1, y2, frC]))
        exact ⟨2, by omega, by omega, V.wk⟩
      · subst e1
        simp only [k2, n20, n21, m21, stRe, stI3, zC, frC, List.cons_append, List.nil_append]
        (conv => whnf)
        (try simp only [zU14_0, z0, z1, z2, y0, y1, y2])
        repeat ((first | refine V.s1 ?_); (try simp only [zU14_0, z0, z1, z2, y0, y1, y2]))
        refine ⟨(.take 0 (.take 1 (.take 2 (.take 3 (.take 4 (.take 5 (.take 6 (.take 7 (.take 8 (.take 9 (.take 10 (.take 11 (.take 12 (.take 13 (.take 14 (.ev (.cons 15 [] (.take 16 (.take 17 (.take 18 (.ev (.cons 19 [18, 17, 16] (.ev (.cons 20 [18] (.take 21 (.done)) (.nil))) (.nil)))))) (.cons 19 [14, 13, 12, 11, 10, 9, 8, 7, 6, 5, 4, 3, 2, 1, 0] (.ev (.cons 15 [] (.take 16 (.take 17 (.take 18 (.ev (.cons 20 [18] (.take 21 (.done)) (.nil)))))) (.nil))) (.nil))))))))))))))))))), ⟨by kernel_rfl, by kernel_rfl, by kernel_rfl⟩, ?_⟩
        refine drw_meet [(15, .int .i64 0), (14, .box 14 0)] [(14, .box (frC q1))] ?_ ?_
        · (conv => whnf); (try simp only [zU14_0, z0, z1, z2, y0, y1, y2])
          repeat' (first | exact V.wk | ((first | refine V.s1 ?_ | ((with_reducible refine recheck_and ?_ ?_); (focus ((conv => whnf); (try simp only [zU14_0, z0, z1, z2, y0, y1, y2]); (repeat (refine V.s1 ?_; (try simp only [zU14_0, z0, z1, z2, y0, y1, y2]))); exact ⟨rfl⟩)); (conv => whnf)) | ((try ((with_reducible refine .ext ?_); (conv => whnf); (try simp only [zU14_0, z0, z1, z2, y0, y1, y2]))); (with_reducible refine call_intro (r := ?_) ?_ ?_); rotate_left; (focus (first | exact (o0) | exact (o1) | exact (o2))); (conv => whnf))); (try simp only [zU14_0, z0, z1, z2, y0, y1, y2])) | (refine And.intro ?_ ?_ <;> (conv => whnf); (try simp only [zU14_0, z0, z1, z2, y0, y1, y2])))
        (conv => whnf)
        (try simp only [zU14_0, z0, z1, z2, y0, y1, y2, frC])
        repeat ((first | refine V.s1 ?_); (try simp only [zU14_0, z0, z1, z2, y0, y1, y2, frC]))
        exact ⟨3, by omega, by omega, V.wk⟩
    · have hk3 : k = 3 := by
        simp at hq
        omega
      subst hk3
      simp only [stI3, frC, List.cons_append, List.nil_append]
      (conv => whnf)
      (try simp only [Nat.zero_add])
      repeat ((first | refine V.s1 ?_); (try simp only [Nat.zero_add]))
      exact Fin.of rfl
  · simp only [n3L, ordA, rs3, k0, k1, k2]
    unfold frq at eq0 eq1 eq2
    simp only [rs3] at eq0 eq1 eq2
    have o0 := ofE eq0 (by omega) (by omega)
    have o1 := ofE eq1 (by omega) (by omega)
    have o2 := ofE eq2 (by omega) (by omega)
    clear eq0 eq1 eq2
    unfold frC at o0 o1 o2
    refine called_of_run tbOk 6 ⟨Tryz.func18, rfl, rfl, Nat.le_of_ble_eq_true rfl⟩ ?_
    (conv => whnf)
    (conv => whnf)
    (try simp only [Nat.zero_add])
    repeat ((first | refine V.s1 ?_); (try simp only [Nat.zero_add]))
    refine lp_any (0) (fun k => k ≤ 3) (fun k => 3 - k) (fun k => [(12, .int .i64 (2 - (k : Int))), (11, .int .i64 (stRe a b e k))]) (fun k => [(16, .box (stI4 q0 q1 q2 k))]) ?_ ?_ ?_
    exact V.wk
    exact Nat.zero_le _
    intro k hk
    (conv => whnf)
    (try simp only [Nat.zero_add])
    repeat ((first | refine V.s1 ?_); (try simp only [Nat.zero_add]))
    refine Cnd.split (CondB.mk (fun hq => ?_) (fun hq => ?_))
    · have hk3 : k = 0 ∨ k = 1 ∨ k = 2 := by
        simp at hq
        omega
      rcases hk3 with e1 | e1 | e1
      · subst e1
        simp only [k0, n20, n21, m21, stRe, stI4, zC, frC, List.cons_append, List.nil_append]
        (conv => whnf)
        (try simp only [zU14_0, z0, z1, z2, y0, y1, y2])
        repeat ((first | refine V.s1 ?_); (try simp only [zU14_0, z0, z1, z2, y0, y1, y2]))
        refine ⟨(.take 0 (.take 1 (.take 2 (.take 3 (.take 4 (.take 5 (.take 6 (.take 7 (.take 8 (.take 9 (.take 10 (.take 11 (.take 12 (.take 13 (.take 14 (.ev (.cons 15 [] (.take 16 (.take 17 (.take 18 (.ev (.cons 19 [18, 17, 16] (.ev (.cons 20 [18] (.take 21 (.done)) (.nil))) (.nil)))))) (.cons 19 [14, 13, 12, 11, 10, 9, 8, 7, 6, 5, 4, 3, 2, 1, 0] (.ev (.cons 15 [] (.take 16 (.take 17 (.take 18 (.ev (.cons 20 [18] (.take 21 (.done)) (.nil)))))) (.nil))) (.nil))))))))))))))))))), ⟨by kernel_rfl, by kernel_rfl, by kernel_rfl⟩, ?_⟩
        refine drw_meet [(15, .int .i64 0), (14, .box 14 0)] [(14, .box (frC q1))] ?_ ?_
        · (conv => whnf); (try simp only [zU14_0, z0, z1, z2, y0, y1, y2])
          repeat' (first | exact V.wk | ((first | refine V.s1 ?_ | ((with_reducible refine recheck_and ?_ ?_); (focus ((conv => whnf); (try simp only [zU14_0, z0, z1, z2, y0, y1, y2]); (repeat (refine V.s1 ?_; (try simp only [zU14_0, z0, z1, z2, y0, y1, y2]))); exact ⟨rfl⟩)); (conv => whnf)) | ((try ((with_reducible refine .ext ?_); (conv => whnf); (try simp only [zU14_0, z0, z1, z2, y0, y1, y2]))); (with_reducible refine call_intro (r := ?_) ?_ ?_); rotate_left; (focus (first | exact (o0) | exact (o1) | exact (o2))); (conv => whnf))); (try simp only [zU14_0, z0, z1, z2, y0, y1, y2])) | (refine And.intro ?_ ?_ <;> (conv => whnf); (try simp only [zU14_0, z0, z1, z2, y0, y1, y2])))
        (conv => whnf)
        (try simp only [zU14_0, z0, z1, z2, y0, y1, y2, frC])
        repeat ((first | refine V.s1 ?_); (try simp only [zU14_0, z0, z1, z2, y0, y1, y2, frC]))
        exact ⟨1, by omega, by omega, V.wk⟩
      · subst e1
        simp only [k1, n20, n21, m21, stRe, stI4, zC, frC, List.cons_append, List.nil_append]
        (conv => whnf)
        (try simp only [zU14_0, z0, z1, z2, y0, y1, y2])
        repeat ((first | refine V.s1 ?_); (try simp only [zU14_0, z0, z1, z2, y0, y1, y2]))
        refine ⟨(.take 0 (.take 1 (.take 2 (.take 3 (.take 4 (.take 5 (.take 6 (.take 7 (.take 8 (.take 9 (.take 10 (.take 11 (.take 12 (.take 13 (.take 14 (.ev (.cons 15 [] (.take 16 (.take 17 (.take 18 (.ev (.cons 19 [18, 17, 16] (.ev (.cons 20 [18] (.take 21 (.done)) (.nil))) (.nil)))))) (.cons 19 [14, 13, 12, 11, 10, 9, 8, 7, 6, 5, 4, 3, 2, 1, 0] (.ev (.cons 15 [] (.take 16 (.take 17 (.take 18 (.ev (.cons 20 [18] (.take 21 (.done)) (.nil)))))) (.nil))) (.nil))))))))))))))))))), ⟨by kernel_rfl, by kernel_rfl, by kernel_rfl⟩, ?_⟩
        refine drw_meet [(15, .int .i64 0), (14, .box 14 0)] [(14, .box (frC q0))] ?_ ?_
        · (conv => whnf); (try simp only [zU14_0, z0, z1, z2, y0, y1, y2])
          repeat' (first | exact V.wk | ((first | refine V.s1 ?_ | ((with_reducible refine recheck_and ?_ ?_); (focus ((conv => whnf); (try simp only [zU14_0, z0, z1, z2, y0, y1, y2]); (repeat (refine V.s1 ?_; (try simp only [zU14_0, z0, z1, z2, y0, y1, y2]))); exact ⟨rfl⟩)); (conv => whnf)) | ((try ((with_reducible refine .ext ?_); (conv => whnf); (try simp only [zU14_0, z0, z1, z2, y0, y1, y2]))); (with_reducible refine call_intro (r := ?_) ?_ ?_); rotate_left; (focus (first | exact (o0) | exact (o1) | exact (o2))); (conv => whnf))); (try simp only [zU14_0, z0, z1, z2, y0, y1, y2])) | (refine And.intro ?_ ?_ <;> (conv => whnf); (try simp only [zU14_0, z0, z1, z2, y0, y1, y2])))
        (conv => whnf)
        (try simp only [zU14_0, z0, z1, z2, y0, y1, y2, frC])
        repeat ((first | refine V.s1 ?_); (try simp only [zU14_0, z0, z1, z2, y0, y1, y2, frC]))
        exact ⟨2, by omega, by omega, V.wk⟩
      · subst e1
        simp only [k2, n20, n21, m21, stRe, stI4, zC, frC, List.cons_append, List.nil_append]
        (conv => whnf)
        (try simp only [zU14_0, z0, z1, z2, y0, y1, y2])
        repeat ((first | refine V.s1 ?_); (try simp only [zU14_0, z0, z1, z2, y0, y1, y2]))
        refine ⟨(.take 0 (.take 1 (.take 2 (.take 3 (.take 4 (.take 5 (.take 6 (.take 7 (.take 8 (.take 9 (.take 10 (.take 11 (.take 12 (.take 13 (.take 14 (.ev (.cons 15 [] (.take 16 (.take 17 (.take 18 (.ev (.cons 19 [18, 17, 16] (.ev (.cons 20 [18] (.take 21 (.done)) (.nil))) (.nil)))))) (.cons 19 [14, 13, 12, 11, 10, 9, 8, 7, 6, 5, 4, 3, 2, 1, 0] (.ev (.cons 15 [] (.take 16 (.take 17 (.take 18 (.ev (.cons 20 [18] (.take 21 (.done)) (.nil)))))) (.nil))) (.nil))))))))))))))))))), ⟨by kernel_rfl, by kernel_rfl, by kernel_rfl⟩, ?_⟩
        refine drw_meet [(15, .int .i64 0), (14, .box 14 0)] [(14, .box (frC q2))] ?_ ?_
        · (conv => whnf); (try simp only [zU14_0, z0, z1, z2, y0, y1, y2])
          repeat' (first | exact V.wk | ((first | refine V.s1 ?_ | ((with_reducible refine recheck_and ?_ ?_); (focus ((conv => whnf); (try simp only [zU14_0, z0, z1, z2, y0, y1, y2]); (repeat (refine V.s1 ?_; (try simp only [zU14_0, z0, z1, z2, y0, y1, y2]))); exact ⟨rfl⟩)); (conv => whnf)) | ((try ((with_reducible refine .ext ?_); (conv => whnf); (try simp only [zU14_0, z0, z1, z2, y0, y1, y2]))); (with_reducible refine call_intro (r := ?_) ?_ ?_); rotate_left; (focus (first | exact (o0) | exact (o1) | exact (o2))); (conv => whnf))); (try simp only [zU14_0, z0, z1, z2, y0, y1, y2])) | (refine And.intro ?_ ?_ <;> (conv => whnf); (try simp only [zU14_0, z0, z1, z2, y0, y1, y2])))
        (conv => whnf)
        (try simp only [zU14_0, z0, z1, z2, y0, y1, y2, frC])
        repeat ((first | refine V.s1 ?_); (try simp only [zU14_0, z0, z1, z2, y0, y1, y2, frC]))
        exact ⟨3, by omega, by omega, V.wk⟩
    · have hk3 : k = 3 := by
        simp at hq
        omega
      subst hk3
      simp only [stI4, frC, List.cons_append, List.nil_append]
      (conv => whnf)
      (try simp only [Nat.zero_add])
      repeat ((first | refine V.s1 ?_); (try simp only [Nat.zero_add]))
      exact Fin.of rfl
  · simp only [n3L, ordA, rs3, k0, k1, k2]
    unfold frq at eq0 eq1 eq2
    simp only [rs3] at eq0 eq1 eq2
    have o0 := ofE eq0 (by omega) (by omega)
    have o1 := ofE eq1 (by omega) (by omega)
    have o2 := ofE eq2 (by omega) (by omega)
    clear eq0 eq1 eq2
    unfold frC at o0 o1 o2
    refine called_of_run tbOk 6 ⟨Tryz.func18, rfl, rfl, Nat.le_of_ble_eq_true rfl⟩ ?_
    (conv => whnf)
    (conv => whnf)
    (try simp only [Nat.zero_add])
    repeat ((first | refine V.s1 ?_); (try simp only [Nat.zero_add]))
    refine lp_any (0) (fun k => k ≤ 3) (fun k => 3 - k) (fun k => [(12, .int .i64 (2 - (k : Int))), (11, .int .i64 (stRe a b e k))]) (fun k => [(16, .box (stI5 q0 q1 q2 k))]) ?_ ?_ ?_
    exact V.wk
    exact Nat.zero_le _
    intro k hk
    (conv => whnf)
    (try simp only [Nat.zero_add])
    repeat ((first | refine V.s1 ?_); (try simp only [Nat.zero_add]))
    refine Cnd.split (CondB.mk (fun hq => ?_) (fun hq => ?_))
    · have hk3 : k = 0 ∨ k = 1 ∨ k = 2 := by
        simp at hq
        omega
      rcases hk3 with e1 | e1 | e1
      · subst e1
        simp only [k0, n20, n21, m21, stRe, stI5, zC, frC, List.cons_append, List.nil_append]
        (conv => whnf)
        (try simp only [zU14_0, z0, z1, z2, y0, y1, y2])
        repeat ((first | refine V.s1 ?_); (try simp only [zU14_0, z0, z1, z2, y0, y1, y2]))
        refine ⟨(.take 0 (.take 1 (.take 2 (.take 3 (.take 4 (.take 5 (.take 6 (.take 7 (.take 8 (.take 9 (.take 10 (.take 11 (.take 12 (.take 13 (.take 14 (.ev (.cons 15 [] (.take 16 (.take 17 (.take 18 (.ev (.cons 19 [18, 17, 16] (.ev (.cons 20 [18] (.take 21 (.done)) (.nil))) (.nil)))))) (.cons 19 [14, 13, 12, 11, 10, 9, 8, 7, 6, 5, 4, 3, 2, 1, 0] (.ev (.cons 15 [] (.take 16 (.take 17 (.take 18 (.ev (.cons 20 [18] (.take 21 (.done)) (.nil)))))) (.nil))) (.nil))))))))))))))))))), ⟨by kernel_rfl, by kernel_rfl, by kernel_rfl⟩, ?_⟩
        refine drw_meet [(15, .int .i64 0), (14, .box 14 0)] [(14, .box (frC q0))] ?_ ?_
        · (conv => whnf); (try simp only [zU14_0, z0, z1, z2, y0, y1, y2])
          repeat' (first | exact V.wk | ((first | refine V.s1 ?_ | ((with_reducible refine recheck_and ?_ ?_); (focus ((conv => whnf); (try simp only [zU14_0, z0, z1, z2, y0, y1, y2]); (repeat (refine V.s1 ?_; (try simp only [zU14_0, z0, z1, z2, y0, y1, y2]))); exact ⟨rfl⟩)); (conv => whnf)) | ((try ((with_reducible refine .ext ?_); (conv => whnf); (try simp only [zU14_0, z0, z1, z2, y0, y1, y2]))); (with_reducible refine call_intro (r := ?_) ?_ ?_); rotate_left; (focus (first | exact (o0) | exact (o1) | exact (o2))); (conv => whnf))); (try simp only [zU14_0, z0, z1, z2, y0, y1, y2])) | (refine And.intro ?_ ?_ <;> (conv => whnf); (try simp only [zU14_0, z0, z1, z2, y0, y1, y2])))
        (conv => whnf)
        (try simp only [zU14_0, z0, z1, z2, y0, y1, y2, frC])
        repeat ((first | refine V.s1 ?_); (try simp only [zU14_0, z0, z1, z2, y0, y1, y2, frC]))
        exact ⟨1, by omega, by omega, V.wk⟩
      · subst e1
        simp only [k1, n20, n21, m21, stRe, stI5, zC, frC, List.cons_append, List.nil_append]
        (conv => whnf)
        (try simp only [zU14_0, z0, z1, z2, y0, y1, y2])
        repeat ((first | refine V.s1 ?_); (try simp only [zU14_0, z0, z1, z2, y0, y1, y2]))
        refine ⟨(.take 0 (.take 1 (.take 2 (.take 3 (.take 4 (.take 5 (.take 6 (.take 7 (.take 8 (.take 9 (.take 10 (.take 11 (.take 12 (.take 13 (.take 14 (.ev (.cons 15 [] (.take 16 (.take 17 (.take 18 (.ev (.cons 19 [18, 17, 16] (.ev (.cons 20 [18] (.take 21 (.done)) (.nil))) (.nil)))))) (.cons 19 [14, 13, 12, 11, 10, 9, 8, 7, 6, 5, 4, 3, 2, 1, 0] (.ev (.cons 15 [] (.take 16 (.take 17 (.take 18 (.ev (.cons 20 [18] (.take 21 (.done)) (.nil)))))) (.nil))) (.nil))))))))))))))))))), ⟨by kernel_rfl, by kernel_rfl, by kernel_rfl⟩, ?_⟩
        refine drw_meet [(15, .int .i64 0), (14, .box 14 0)] [(14, .box (frC q1))] ?_ ?_
        · (conv => whnf); (try simp only [zU14_0, z0, z1, z2, y0, y1, y2])
          repeat' (first | exact V.wk | ((first | refine V.s1 ?_ | ((with_reducible refine recheck_and ?_ ?_); (focus ((conv => whnf); (try simp only [zU14_0, z0, z1, z2, y0, y1, y2]); (repeat (refine V.s1 ?_; (try simp only [zU14_0, z0, z1, z2, y0, y1, y2]))); exact ⟨rfl⟩)); (conv => whnf)) | ((try ((with_reducible refine .ext ?_); (conv => whnf); (try simp only [zU14_0, z0, z1, z2, y0, y1, y2]))); (with_reducible refine call_intro (r := ?_) ?_ ?_); rotate_left; (focus (first | exact (o0) | exact (o1) | exact (o2))); (conv => whnf))); (try simp only [zU14_0, z0, z1, z2, y0, y1, y2])) | (refine And.intro ?_ ?_ <;> (conv => whnf); (try simp only [zU14_0, z0, z1, z2, y0, y1, y2])))
        (conv => whnf)
        (try simp only [zU14_0, z0, z1, z2, y0, y1, y2, frC])
        repeat ((first | refine V.s1 ?_); (try simp only [zU14_0, z0, z1, z2, y0, y1, y2, frC]))
        exact ⟨2, by omega, by omega, V.wk⟩
      · subst e1
        simp only [k2, n20, n21, m21, stRe, stI5, zC, frC, List.cons_append, List.nil_append]
        (conv => whnf)
        (try simp only [zU14_0, z0, z1, z2, y0, y1, y2])
        repeat ((first | refine V.s1 ?_); (try simp only [zU14_0, z0, z1, z2, y0, y1, y2]))
        refine ⟨(.take 0 (.take 1 (.take 2 (.take 3 (.take 4 (.take 5 (.take 6 (.take 7 (.take 8 (.take 9 (.take 10 (.take 11 (.take 12 (.take 13 (.take 14 (.ev (.cons 15 [] (.take 16 (.take 17 (.take 18 (.ev (.cons 19 [18, 17, 16] (.ev (.cons 20 [18] (.take 21 (.done)) (.nil))) (.nil)))))) (.cons 19 [14, 13, 12, 11, 10, 9, 8, 7, 6, 5, 4, 3, 2, 1, 0] (.ev (.cons 15 [] (.take 16 (.take 17 (.take 18 (.ev (.cons 20 [18] (.take 21 (.done)) (.nil)))))) (.nil))) (.nil))))))))))))))))))), ⟨by kernel_rfl, by kernel_rfl, by kernel_rfl⟩, ?_⟩
        refine drw_meet [(15, .int .i64 0), (14, .box 14 0)] [(14, .box (frC q2))] ?_ ?_
        · (conv => whnf); (try simp only [zU14_0, z0, z1, z2, y0, y1, y2])
          repeat' (first | exact V.wk | ((first | refine V.s1 ?_ | ((with_reducible refine recheck_and ?_ ?_); (focus ((conv => whnf); (try simp only [zU14_0, z0, z1, z2, y0, y1, y2]); (repeat (refine V.s1 ?_; (try simp only [zU14_0, z0, z1, z2, y0, y1, y2]))); exact ⟨rfl⟩)); (conv => whnf)) | ((try ((with_reducible refine .ext ?_); (conv => whnf); (try simp only [zU14_0, z0, z1, z2, y0, y1, y2]))); (with_reducible refine call_intro (r := ?_) ?_ ?_); rotate_left; (focus (first | exact (o0) | exact (o1) | exact (o2))); (conv => whnf))); (try simp only [zU14_0, z0, z1, z2, y0, y1, y2])) | (refine And.intro ?_ ?_ <;> (conv => whnf); (try simp only [zU14_0, z0, z1, z2, y0, y1, y2])))
        (conv => whnf)
        (try simp only [zU14_0, z0, z1, z2, y0, y1, y2, frC])
        repeat ((first | refine V.s1 ?_); (try simp only [zU14_0, z0, z1, z2, y0, y1, y2, frC]))
        exact ⟨3, by omega, by omega, V.wk⟩
    · have hk3 : k = 3 := by
        simp at hq
        omega
      subst hk3
      simp only [stI5, frC, List.cons_append, List.nil_append]
      (conv => whnf)
      (try simp only [Nat.zero_add])
      repeat ((first | refine V.s1 ?_); (try simp only [Nat.zero_add]))
      exact Fin.of rfl
end Go.Proofs.YtlcaefokcnohnaaGreatDoor
end
section
namespace Go.Proofs.YtlcaefokcnohnaaGreatDoor
open Go Go.V Go.Nb
theorem rheld_c {s0 s1 s2 : Nat} {data : List Int} (C : Cu s0 s1 s2 data) {n : Nat} (hn : n < 6 * cellsN s0 s1 s2) {t : V3} (ht : Vl t) : ∃ a b c d,
    (∀ dt', Is3 dt' t → Called Tryz.prog 21 [gridD (sz3 s0 s1 s2) 3 data, .int .i64 n, dt'] (.tup [.iarr .i64 [a, b, c], .int .i64 d, .bool (hldN data s1 s2 n t).isSome])) ∧ ∀ r, hldN data s1 s2 n t = some r → r = (a, b, c, d) := by
  obtain ⟨a, b, c, d, h1, h2⟩ := rheld_0 C hn ht
  refine ⟨a, b, c, d, fun dt' it => Called.conv h1 fun h vs H => ?_, h2⟩
  simp only [DenL] at H ⊢
  obtain ⟨v, r, e, k1, v2, r2, e2, k2, v3, r3, e3, k3, e4⟩ := H
  exact ⟨v, r, e, k1, v2, r2, e2, k2, v3, r3, e3, v3_AI (it.den k3), e4⟩
theorem chk_ok {size : List Int} {out : Int} {data ts : List Int} (h : chk size out data ts = 0) : ∃ (s0 s1 s2 : Nat) (t : V3), size = sz3 s0 s1 s2 ∧ out = 3 ∧ ts = v3L t ∧ Cu s0 s1 s2 data ∧ Vl t := by
  unfold chk at h
  split at h
  · rename_i hg
    split at h
    · rename_i h3
      split at h
      · rename_i hT
        obtain ⟨e1, rfl, e3⟩ := h3
        match size, e1, ts, e3 with
        | [a, b, c], _, [x, y, z], _ =>
          have hT' := (okT3 x y z).1 hT
          unfold okGrid at hg
          simp only [Bool.and_eq_true, decide_eq_true_eq, List.all_eq_true, List.mem_cons, List.not_mem_nil, or_false, forall_eq_or_imp, forall_eq] at hg
          obtain ⟨⟨⟨_, ⟨ha, hb, hc⟩⟩, hl⟩, hd⟩ := hg
          refine ⟨a.toNat, b.toNat, c.toNat, (x, y, z), ?_, rfl, rfl, ⟨by omega, by omega, by omega, ?_, hd⟩, hT'⟩
          · unfold sz3
            rw [Int.toNat_of_nonneg (by omega), Int.toNat_of_nonneg (by omega), Int.toNat_of_nonneg (by omega)]
          · have h1 : prod [a, b, c] = ((a.toNat * b.toNat * c.toNat : Nat) : Int) := by
              simp only [prod, List.foldl_cons, List.foldl_nil, Int.one_mul, Int.natCast_mul]
              rw [Int.toNat_of_nonneg (by omega), Int.toNat_of_nonneg (by omega), Int.toNat_of_nonneg (by omega)]
            rw [h1] at hl
            omega
      · cases h
    · cases h
  · cases h
def locR (size : List Int) (out : Int) (data ts : List Int) : D :=
  if chk size out data ts = 0 then
    match fndN data (size.getD 0 0).toNat (size.getD 1 0).toNat (size.getD 2 0).toNat (ts.getD 0 0, ts.getD 1 0, ts.getD 2 0) with
    | none => .tup [.nil, .int .i64 0, .int .i64 4]
    | some n => match hldN data (size.getD 1 0).toNat (size.getD 2 0).toNat n (ts.getD 0 0, ts.getD 1 0, ts.getD 2 0) with
      | none => .tup [.nil, .int .i64 0, .int .i64 4]
      | some r => .tup [.slf 2 3 (resF (cellN (size.getD 1 0).toNat (size.getD 2 0).toNat n) (n % 6) r.1 r.2.1 r.2.2.1 r.2.2.2 (size.getD 0 0).toNat (size.getD 1 0).toNat (size.getD 2 0).toNat), .int .i64 n, .int .i64 0]
  else .tup [.nil, .int .i64 0, .int .i64 (chk size out data ts)]
def hdsR (size : List Int) (out : Int) (data ts : List Int) : D :=
  if chk size out data ts = 0 then .tup [.int .i64 (cntN data (size.getD 1 0).toNat (size.getD 2 0).toNat (6 * cellsN (size.getD 0 0).toNat (size.getD 1 0).toNat (size.getD 2 0).toNat) (ts.getD 0 0, ts.getD 1 0, ts.getD 2 0)), .int .i64 0]
  else .tup [.int .i64 0, .int .i64 (chk size out data ts)]
theorem chk_r (size : List Int) (out : Int) (data ts : List Int) : chk size out data ts = 0 ∨ chk size out data ts = 2 ∨ chk size out data ts = 100 := by
  unfold chk
  split
  · split
    · split
      · exact .inl rfl
      · exact .inr (.inl rfl)
    · exact .inr (.inl rfl)
  · exact .inr (.inr rfl)
theorem locR_no {size : List Int} {out : Int} {data ts : List Int} (h : ¬ chk size out data ts = 0) : locR size out data ts = .tup [.nil, .int .i64 0, .int .i64 (chk size out data ts)] := by
  unfold locR
  rw [if_neg h]
theorem hdsR_no {size : List Int} {out : Int} {data ts : List Int} (h : ¬ chk size out data ts = 0) : hdsR size out data ts = .tup [.int .i64 0, .int .i64 (chk size out data ts)] := by
  unfold hdsR
  rw [if_neg h]
theorem locR_none {s0 s1 s2 : Nat} {data : List Int} {t : V3} (h : chk (sz3 s0 s1 s2) 3 data (v3L t) = 0) (hf : fndN data s0 s1 s2 t = none) : locR (sz3 s0 s1 s2) 3 data (v3L t) = .tup [.nil, .int .i64 0, .int .i64 4] := by
  unfold locR
  rw [if_pos h]
  have e : fndN data ((sz3 s0 s1 s2).getD 0 0).toNat ((sz3 s0 s1 s2).getD 1 0).toNat ((sz3 s0 s1 s2).getD 2 0).toNat ((v3L t).getD 0 0, (v3L t).getD 1 0, (v3L t).getD 2 0) = fndN data s0 s1 s2 t := rfl
  rw [e, hf]
theorem locR_some {s0 s1 s2 n : Nat} {data : List Int} {t : V3} {a b e d : Int} (h : chk (sz3 s0 s1 s2) 3 data (v3L t) = 0) (hf : fndN data s0 s1 s2 t = some n) (hr : hldN data s1 s2 n t = some (a, b, e, d)) :
    locR (sz3 s0 s1 s2) 3 data (v3L t) = .tup [.slf 2 3 (resF (cellN s1 s2 n) (n % 6) a b e d s0 s1 s2), .int .i64 n, .int .i64 0] := by
  unfold locR
  rw [if_pos h]
  have e1 : fndN data ((sz3 s0 s1 s2).getD 0 0).toNat ((sz3 s0 s1 s2).getD 1 0).toNat ((sz3 s0 s1 s2).getD 2 0).toNat ((v3L t).getD 0 0, (v3L t).getD 1 0, (v3L t).getD 2 0) = fndN data s0 s1 s2 t := rfl
  rw [e1, hf]
  have e2 : hldN data ((sz3 s0 s1 s2).getD 1 0).toNat ((sz3 s0 s1 s2).getD 2 0).toNat n ((v3L t).getD 0 0, (v3L t).getD 1 0, (v3L t).getD 2 0) = hldN data s1 s2 n t := rfl
  dsimp only
  rw [e2, hr]
  rfl
theorem hdsR_ok {s0 s1 s2 : Nat} {data : List Int} {t : V3} (h : chk (sz3 s0 s1 s2) 3 data (v3L t) = 0) : hdsR (sz3 s0 s1 s2) 3 data (v3L t) = .tup [.int .i64 (cntN data s1 s2 (6 * cellsN s0 s1 s2) t), .int .i64 0] := by
  unfold hdsR
  rw [if_pos h]
  rfl
theorem cells_le {s0 s1 s2 : Nat} {data : List Int} (C : Cu s0 s1 s2 data) : 6 * cellsN s0 s1 s2 ≤ 3072 := by
  have h0 := C.h0
  have h1 := C.h1
  have h2 := C.h2
  have : cellsN s0 s1 s2 ≤ 8 * 8 * 8 := by
    unfold cellsN
    exact Nat.mul_le_mul (Nat.mul_le_mul (show s0 - 1 ≤ 8 by omega) (show s1 - 1 ≤ 8 by omega)) (show s2 - 1 ≤ 8 by omega)
  omega
end Go.Proofs.YtlcaefokcnohnaaGreatDoor
end
section
namespace Go.Proofs.YtlcaefokcnohnaaGreatDoor
open Go Go.V Go.Nb
def apS0 : Nat → D
  | 0 => .nil
  | k + 1 => .bsl 116 0 (k + 1) 2
def apH0 (q0 q1 q2 : Rat) : Nat → Hp
  | 0 => []
  | 1 => [(116, .box (frC q0))]
  | 2 => [(116, .box (frC q0 ++ frC q1))]
  | _ => [(116, .box (frC q0 ++ frC q1 ++ frC q2))]
theorem zUa0_0 : type_of% @Nat.zero_add ∧ type_of% @g3_0 ∧ type_of% @g3_1 ∧ type_of% @g3_2 ∧ type_of% @i3_0 ∧ type_of% @i3_1 ∧ type_of% @i3_2 ∧ type_of% @n10 ∧ type_of% @s3_0 ∧ type_of% @s3_1 ∧ type_of% @s3_2 ∧ type_of% @tn0 ∧ type_of% @tn1 ∧ type_of% @tn2 ∧ type_of% @tn3 := ⟨@Nat.zero_add, @g3_0, @g3_1, @g3_2, @i3_0, @i3_1, @i3_2, @n10, @s3_0, @s3_1, @s3_2, @tn0, @tn1, @tn2, @tn3⟩
theorem rlocate_0 (size : List Int) (out : Int) (data ts : List Int) (hs : size.length ≤ 281474976710656) (hd : data.length ≤ 281474976710656) (ht : ts.length ≤ 281474976710656)
    (ho0 : ∀ n, fndN data (size.getD 0 0).toNat (size.getD 1 0).toNat (size.getD 2 0).toNat (ts.getD 0 0, ts.getD 1 0, ts.getD 2 0) = some n → n % 6 = 0) :
    Called Tryz.prog 9 [gridD size out data, .ints .i64 ts] (locR size out data ts) := by
  have hch := rchecked_c size out data ts hs hd ht
  rcases Decidable.em (chk size out data ts = 0) with h0 | h0
  rotate_left
  · rw [locR_no h0]
    have hr := chk_r size out data ts
    generalize chk size out data ts = z at *
    unfold gridD at hch ⊢
    refine called_of_run tbOk 6 ⟨Tryz.func9, rfl, rfl, Nat.le_of_ble_eq_true rfl⟩ ?_
    (conv => whnf)
    (conv => whnf)
    (try simp only [Nat.zero_add])
    repeat ((first | refine V.s1 ?_ | ((try ((with_reducible refine .ext ?_); (conv => whnf); (try simp only [Nat.zero_add]))); (with_reducible refine call_intro (r := ?_) ?_ ?_); rotate_left; (focus (first | exact (hch))); (conv => whnf))); (try simp only [Nat.zero_add]))
    refine Cnd.split (CondB.mk (fun hq => ?_) (fun hq => ?_))
    · (conv => whnf)
      (try simp only [Nat.zero_add])
      repeat ((first | refine V.s1 ?_); (try simp only [Nat.zero_add]))
      exact Fin.of rfl
    · exfalso
      simp at hq
      omega
  rw [h0] at hch
  obtain ⟨s0, s1, s2, t, rfl, rfl, rfl, C, hv⟩ := chk_ok h0
  have ho : ∀ n, fndN data s0 s1 s2 t = some n → n % 6 = 0 := ho0
  clear ho0
  have hle := cells_le C
  have hcells := rcells_c C
  have hheld : ∀ n, n < 6 * cellsN s0 s1 s2 → _ := fun n hn => rheld_c C hn hv
  have hcell : ∀ n, n ≤ 10000 → _ := fun n hn => rcell_c C n hn
  have hcin : ∀ n, n < 6 * cellsN s0 s1 s2 → _ := fun n hn => cell_in hn C.h0.1 C.h1.1 C.h2.1
  have hbd : ∀ n a b e d, hldN data s1 s2 n t = some (a, b, e, d) → _ := fun n a b e d h => hld_bd (gv_vl C.hd _) (gv_vl C.hd _) (gv_vl C.hd _) (gv_vl C.hd _) hv (show hld (cnr data s1 s2 _) (cnr data s1 s2 _) (cnr data s1 s2 _) (cnr data s1 s2 _) t = some (a, b, e, d) from h)
  have hs9 := C.h0.2
  have hs91 := C.h1.2
  have hs92 := C.h2.2
  have hnone := locR_none h0
  have hsome : ∀ n a b e d, _ := fun n a b e d => locR_some (n := n) (a := a) (b := b) (e := e) (d := d) h0
  generalize locR (sz3 s0 s1 s2) 3 data (v3L t) = LR at *
  have z0 := sz3_0 s0 s1 s2
  have z1 := sz3_1 s0 s1 s2
  have z2 := sz3_2 s0 s1 s2
  have zl := sz3_len s0 s1 s2
  have y0 : (sz3 s0 s1 s2).getD 0 0 = s0 := rfl
  have y1 : (sz3 s0 s1 s2).getD 1 0 = s1 := rfl
  have y2 : (sz3 s0 s1 s2).getD 2 0 = s2 := rfl
  clear h0
  unfold v3L at hch ⊢
  unfold gridD at hch hcells hheld hcell ⊢
  obtain ⟨M, hM⟩ : ∃ M, cellsN s0 s1 s2 = M := ⟨_, rfl⟩
  have hfn : ∀ n, n < 6 * M → (∀ m, m < n → hldN data s1 s2 m t = none) → ∀ r, hldN data s1 s2 n t = some r → fndN data s0 s1 s2 t = some n := fun n hn hm r hr => fnd_some hm (by rw [hM]; exact hn) hr
  have hfz : (∀ n, n < 6 * M → hldN data s1 s2 n t = none) → fndN data s0 s1 s2 t = none := fun h => fnd_none (by rw [hM]; exact h)
  rw [hM] at hcells hheld hle hcin
  generalize sz3 s0 s1 s2 = sz at *
  clear C hM
  refine called_of_run tbOk 6 ⟨Tryz.func9, rfl, rfl, Nat.le_of_ble_eq_true rfl⟩ ?_
  (conv => whnf)
  (conv => whnf)
  (try simp only [Nat.zero_add])
  repeat ((first | refine V.s1 ?_ | ((try ((with_reducible refine .ext ?_); (conv => whnf); (try simp only [Nat.zero_add]))); (with_reducible refine call_intro (r := ?_) ?_ ?_); rotate_left; (focus (first | exact (hch))); (conv => whnf))); (try simp only [Nat.zero_add]))
  refine ⟨(.take 0 (.take 1 (.take 2 (.take 3 (.take 4 (.take 5 (.take 6 (.take 7 (.take 8 (.take 9 (.ev (.cons 10 [9, 8, 7, 6, 5, 4, 3, 2, 1, 0] (.ev (.cons 11 [] (.done) (.nil))) (.nil))))))))))))), ⟨by kernel_rfl, by kernel_rfl, by kernel_rfl⟩, .go ?_⟩
  (conv => whnf)
  (try simp only [Nat.zero_add, i3_0, i3_1, i3_2, g3_0, g3_1, g3_2])
  repeat ((first | refine V.s1 ?_); (try simp only [Nat.zero_add, i3_0, i3_1, i3_2, g3_0, g3_1, g3_2]))
  refine lp_any (0) (fun k => k ≤ 6 * M ∧ ∀ m, m < k → hldN data s1 s2 m t = none) (fun k => 6 * M - k) (fun k => [(9, .int .i64 k)]) (fun k => []) ?_ ?_ ?_
  · exact V.wk
  · exact ⟨Nat.zero_le _, fun m hm => absurd hm (Nat.not_lt_zero _)⟩
  intro n hn
  obtain ⟨hn1, hnn⟩ := hn
  (conv => whnf)
  (try simp only [Nat.zero_add])
  repeat ((first | refine V.s1 ?_ | ((try ((with_reducible refine .ext ?_); (conv => whnf); (try simp only [Nat.zero_add]))); (with_reducible refine call_intro (r := ?_) ?_ ?_); rotate_left; (focus (first | exact (hcells))); (conv => whnf))); (try simp only [Nat.zero_add]))
  refine Cnd.split (CondB.mk (fun hq => ?_) (fun hq => ?_))
  · rw [decide_eq_true_eq] at hq
    obtain ⟨a, b, e, d, hc, hrr⟩ := hheld n (by omega)
    (conv => whnf)
    (try simp only [Nat.zero_add])
    repeat ((first | refine V.s1 ?_ | ((try ((with_reducible refine .ext ?_); (conv => whnf); (try simp only [Nat.zero_add]))); (with_reducible refine call_intro (r := ?_) ?_ ?_); rotate_left; (focus (first | exact (hc _ .agg) | exact (hc _ .mkD) | exact (hc _ .mkI))); (conv => whnf))); (try simp only [Nat.zero_add]))
    refine Cnd.split (CondB.mk (fun hq2 => ?_) (fun hq2 => ?_))
    · have hno : hldN data s1 s2 n t = none := by
        cases hx : hldN data s1 s2 n t with
        | none => rfl
        | some r => rw [hx] at hq2; simp at hq2
      (conv => whnf)
      (try simp only [Nat.zero_add, cs1])
      repeat ((first | refine V.s1 ?_); (try simp only [Nat.zero_add, cs1]))
      exact ⟨n + 1, ⟨by omega, fun m hm => (Nat.lt_succ_iff_lt_or_eq.1 hm).elim (hnn m) (fun e => e ▸ hno)⟩, by omega, V.wk⟩
    · have hyes : ∃ r, hldN data s1 s2 n t = some r := by
        cases hx : hldN data s1 s2 n t with
        | none => rw [hx] at hq2; simp at hq2
        | some r => exact ⟨r, rfl⟩
      obtain ⟨r, hx⟩ := hyes
      have hr2 := hrr r hx
      subst hr2
      have hb := hbd n a b e d hx
      have h6 : n % 6 = 0 := ho n (hfn n (by omega) hnn _ hx)
      have hlr := hsome n a b e d (hfn n (by omega) hnn _ hx) hx
      rw [hlr]
      have hci := hcin n (by omega)
      have hC := hcell (n / 6) (by omega)
      have ec : (n / 6 / ((s1 - 1) * (s2 - 1)), n / 6 / (s2 - 1) % (s1 - 1), n / 6 % (s2 - 1)) = cellN s1 s2 n := rfl
      rw [ec] at hC
      clear ec ho hlr hsome hnone hfn hfz hcells hheld hcell hch hcin hbd hrr hnn hc
      have m0 := mul_fact hci.1 hs9 ⟨hb.2.2.2.2.1, hb.2.2.2.2.2⟩
      have m1 := mul_fact hci.2.1 hs91 ⟨hb.2.2.2.2.1, hb.2.2.2.2.2⟩
      have m2 := mul_fact hci.2.2 hs92 ⟨hb.2.2.2.2.1, hb.2.2.2.2.2⟩
      unfold resF
      obtain ⟨x, hxe⟩ : ∃ x, cellN s1 s2 n = x := ⟨_, rfl⟩
      rw [hxe] at hC hci m0 m1 m2 ⊢
      clear hxe hx
      obtain ⟨q0, eq0⟩ : ∃ q, frq x.1 (rs3 (n % 6) a b e).1 d s0 = q := ⟨_, rfl⟩
      obtain ⟨q1, eq1⟩ : ∃ q, frq x.2.1 (rs3 (n % 6) a b e).2.1 d s1 = q := ⟨_, rfl⟩
      obtain ⟨q2, eq2⟩ : ∃ q, frq x.2.2 (rs3 (n % 6) a b e).2.2 d s2 = q := ⟨_, rfl⟩
      rw [eq0, eq1, eq2]
      obtain ⟨x0, x1, x2⟩ := x
      unfold n3I at hC
      dsimp only at hC hci m0 m1 m2 eq0 eq1 eq2
      have habe : a + b + e = e + b + a := by omega
      have hbe : b + e = e + b := by omega
      have hq1 : (n : Int) / 6 = ((n / 6 : Nat) : Int) := by omega
      have hq2 : (n : Int).tdiv 6 = ((n / 6 : Nat) : Int) := by rw [Int.tdiv_eq_ediv_of_nonneg (by omega)]; omega
      (conv => whnf)
      (try simp only [Nat.zero_add])
      repeat ((first | refine V.s1 ?_); (try simp only [Nat.zero_add]))
      have hm : (n : Int).tmod 6 = 0 := by rw [Int.tmod_eq_emod_of_nonneg (by omega)]; omega
      have hm2 : (n : Int) % 6 = 0 := by omega
      rw [h6] at eq0 eq1 eq2
      unfold frq at eq0 eq1 eq2
      simp only [rs3] at eq0 eq1 eq2
      have o0 := rofE eq0 (by omega) (by omega)
      have o1 := rofE eq1 (by omega) (by omega)
      have o2 := rofE eq2 (by omega) (by omega)
      clear eq0 eq1 eq2
      unfold frC at o0 o1 o2
      refine ⟨(.take 0 (.take 1 (.take 2 (.take 5 (.take 6 (.ev (.cons 3 [6, 5] (.ev (.cons 4 [6, 5] (.take 7 (.ev (.cons 8 [7, 6, 5] (.ev (.cons 9 [7, 6, 5] (.ev (.cons 10 [7, 6, 5] (.ev (.cons 11 [] (.done) (.nil))) (.nil))) (.nil))) (.cons 9 [7, 6, 5] (.ev (.cons 8 [7, 6, 5] (.ev (.cons 10 [7, 6, 5] (.ev (.cons 11 [] (.done) (.nil))) (.nil))) (.nil))) (.nil))))) (.cons 8 [6, 5] (.ev (.cons 4 [6, 5] (.take 7 (.ev (.cons 9 [7, 6, 5] (.ev (.cons 10 [7, 6, 5] (.ev (.cons 11 [] (.done) (.nil))) (.nil))) (.nil)))) (.cons 9 [6, 5] (.ev (.cons 4 [6, 5] (.take 7 (.ev (.cons 10 [7, 6, 5] (.ev (.cons 11 [] (.done) (.nil))) (.nil)))) (.nil))) (.nil)))) (.cons 9 [6, 5] (.ev (.cons 4 [6, 5] (.take 7 (.ev (.cons 8 [7, 6, 5] (.ev (.cons 10 [7, 6, 5] (.ev (.cons 11 [] (.done) (.nil))) (.nil))) (.nil)))) (.cons 8 [6, 5] (.ev (.cons 4 [6, 5] (.take 7 (.ev (.cons 10 [7, 6, 5] (.ev (.cons 11 [] (.done) (.nil))) (.nil)))) (.nil))) (.nil)))) (.nil))))) (.cons 8 [6, 5, 2, 1, 0] (.ev (.cons 3 [6, 5] (.ev (.cons 4 [6, 5] (.take 7 (.ev (.cons 9 [7, 6, 5] (.ev (.cons 10 [7, 6, 5] (.ev (.cons 11 [] (.done) (.nil))) (.nil))) (.nil)))) (.cons 9 [6, 5] (.ev (.cons 4 [6, 5] (.take 7 (.ev (.cons 10 [7, 6, 5] (.ev (.cons 11 [] (.done) (.nil))) (.nil)))) (.nil))) (.nil)))) (.cons 9 [6, 5, 2, 1, 0] (.ev (.cons 3 [6, 5] (.ev (.cons 4 [6, 5] (.take 7 (.ev (.cons 10 [7, 6, 5] (.ev (.cons 11 [] (.done) (.nil))) (.nil)))) (.nil))) (.nil))) (.nil)))) (.cons 9 [6, 5, 2, 1, 0] (.ev (.cons 3 [6, 5] (.ev (.cons 4 [6, 5] (.take 7 (.ev (.cons 8 [7, 6, 5] (.ev (.cons 10 [7, 6, 5] (.ev (.cons 11 [] (.done) (.nil))) (.nil))) (.nil)))) (.cons 8 [6, 5] (.ev (.cons 4 [6, 5] (.take 7 (.ev (.cons 10 [7, 6, 5] (.ev (.cons 11 [] (.done) (.nil))) (.nil)))) (.nil))) (.nil)))) (.cons 8 [6, 5, 2, 1, 0] (.ev (.cons 3 [6, 5] (.ev (.cons 4 [6, 5] (.take 7 (.ev (.cons 10 [7, 6, 5] (.ev (.cons 11 [] (.done) (.nil))) (.nil)))) (.nil))) (.nil))) (.nil)))) (.nil)))))))))), ⟨by kernel_rfl, by kernel_rfl, by kernel_rfl⟩, ?_⟩
      refine drw_meet [(13, .box 13 0), (14, .box 14 0)] [(13, .arr .i64 [(x0 : Int), x1, x2]), (14, .arr .i64 [0, 1, 2])] ?_ ?_
      · (conv => whnf); (try simp only [Nat.zero_add, hq1, hq2, hm, hm2])
        repeat' (first | exact V.wk | ((first | refine V.s1 ?_ | ((with_reducible refine recheck_and ?_ ?_); (focus ((conv => whnf); (try simp only [Nat.zero_add, hq1, hq2, hm, hm2]); (repeat (refine V.s1 ?_; (try simp only [Nat.zero_add, hq1, hq2, hm, hm2]))); exact ⟨rfl⟩)); (conv => whnf)) | ((try ((with_reducible refine .ext ?_); (conv => whnf); (try simp only [Nat.zero_add, hq1, hq2, hm, hm2]))); (with_reducible refine call_intro (r := ?_) ?_ ?_); rotate_left; (focus (first | exact (hC) | exact (rorders_c))); (conv => whnf))); (try simp only [Nat.zero_add, hq1, hq2, hm, hm2])) | (refine And.intro ?_ ?_ <;> (conv => whnf); (try simp only [Nat.zero_add, hq1, hq2, hm, hm2])))
      (conv => whnf)
      (try simp only [Nat.zero_add, habe, hbe, tn0, tn1, tn2, tn3, s3_0, s3_1, s3_2, g3_0, g3_1, g3_2, i3_0, i3_1, i3_2])
      repeat ((first | refine V.s1 ?_); (try simp only [Nat.zero_add, habe, hbe, tn0, tn1, tn2, tn3, s3_0, s3_1, s3_2, g3_0, g3_1, g3_2, i3_0, i3_1, i3_2]))
      refine lp_any (0 : Nat) (fun k => k ≤ 3) (fun k => 3 - k) (fun k => [(17, .int .i64 (k : Int)), (16, apS0 k)]) (fun k => apH0 q0 q1 q2 k) ?_ ?_ ?_
      exact V.wk
      exact Nat.zero_le _
      intro k hk
      have hk4 : k = 0 ∨ k = 1 ∨ k = 2 ∨ k = 3 := by omega
      rcases hk4 with e1 | e1 | e1 | e1
      · subst e1
        simp only [apS0, apH0, k0, frC, List.cons_append, List.nil_append]
        (conv => whnf)
        (try simp only [zUa0_0, z0, z1, z2, y0, y1, y2])
        repeat ((first | refine V.s1 ?_); (try simp only [zUa0_0, z0, z1, z2, y0, y1, y2]))
        refine ⟨(.take 0 (.take 1 (.take 2 (.take 3 (.take 4 (.take 5 (.take 6 (.take 7 (.take 8 (.take 9 (.take 10 (.take 11 (.take 12 (.take 13 (.take 14 (.take 15 (.take 16 (.ev (.cons 17 [] (.take 18 (.take 19 (.take 20 (.ev (.cons 21 [20, 19, 18] (.ev (.cons 22 [20] (.take 23 (.done)) (.nil))) (.nil)))))) (.cons 21 [16, 15, 14, 13, 12, 11, 10, 9, 8, 7, 6, 5, 4, 3, 2, 1, 0] (.ev (.cons 17 [] (.take 18 (.take 19 (.take 20 (.ev (.cons 22 [20] (.take 23 (.done)) (.nil)))))) (.nil))) (.nil))))))))))))))))))))), ⟨by kernel_rfl, by kernel_rfl, by kernel_rfl⟩, ?_⟩
        refine drw_meet [(18, .box 18 0), (19, .int .i64 0)] [(18, .box (frC q0))] ?_ ?_
        · (conv => whnf); (try simp only [zUa0_0, z0, z1, z2, y0, y1, y2])
          repeat' (first | exact V.wk | ((first | refine V.s1 ?_ | ((with_reducible refine recheck_and ?_ ?_); (focus ((conv => whnf); (try simp only [zUa0_0, z0, z1, z2, y0, y1, y2]); (repeat (refine V.s1 ?_; (try simp only [zUa0_0, z0, z1, z2, y0, y1, y2]))); exact ⟨rfl⟩)); (conv => whnf)) | ((try ((with_reducible refine .ext ?_); (conv => whnf); (try simp only [zUa0_0, z0, z1, z2, y0, y1, y2]))); (with_reducible refine call_intro (r := ?_) ?_ ?_); rotate_left; (focus (first | exact (o0) | exact (o1) | exact (o2))); (conv => whnf))); (try simp only [zUa0_0, z0, z1, z2, y0, y1, y2])) | (refine And.intro ?_ ?_ <;> (conv => whnf); (try simp only [zUa0_0, z0, z1, z2, y0, y1, y2])))
        (conv => whnf)
        (try simp only [zUa0_0, z0, z1, z2, y0, y1, y2, frC])
        repeat ((first | refine V.s1 ?_); (try simp only [zUa0_0, z0, z1, z2, y0, y1, y2, frC]))
        exact ⟨1, by omega, by omega, V.wk⟩
      · subst e1
        simp only [apS0, apH0, k1, frC, List.cons_append, List.nil_append]
        (conv => whnf)
        (try simp only [zUa0_0, z0, z1, z2, y0, y1, y2])
        repeat ((first | refine V.s1 ?_); (try simp only [zUa0_0, z0, z1, z2, y0, y1, y2]))
        refine ⟨(.take 0 (.take 1 (.take 2 (.take 3 (.take 4 (.take 5 (.take 6 (.take 7 (.take 8 (.take 9 (.take 10 (.take 11 (.take 12 (.take 13 (.take 14 (.take 15 (.take 16 (.ev (.cons 17 [] (.take 18 (.take 19 (.take 20 (.ev (.cons 21 [20, 19, 18] (.ev (.cons 22 [20] (.take 23 (.done)) (.nil))) (.nil)))))) (.cons 21 [16, 15, 14, 13, 12, 11, 10, 9, 8, 7, 6, 5, 4, 3, 2, 1, 0] (.ev (.cons 17 [] (.take 18 (.take 19 (.take 20 (.ev (.cons 22 [20] (.take 23 (.done)) (.nil)))))) (.nil))) (.nil))))))))))))))))))))), ⟨by kernel_rfl, by kernel_rfl, by kernel_rfl⟩, ?_⟩
        refine drw_meet [(18, .box 18 0), (19, .int .i64 0)] [(18, .box (frC q1))] ?_ ?_
        · (conv => whnf); (try simp only [zUa0_0, z0, z1, z2, y0, y1, y2])
          repeat' (first | exact V.wk | ((first | refine V.s1 ?_ | ((with_reducible refine recheck_and ?_ ?_); (focus ((conv => whnf); (try simp only [zUa0_0, z0, z1, z2, y0, y1, y2]); (repeat (refine V.s1 ?_; (try simp only [zUa0_0, z0, z1, z2, y0, y1, y2]))); exact ⟨rfl⟩)); (conv => whnf)) | ((try ((with_reducible refine .ext ?_); (conv => whnf); (try simp only [zUa0_0, z0, z1, z2, y0, y1, y2]))); (with_reducible refine call_intro (r := ?_) ?_ ?_); rotate_left; (focus (first | exact (o0) | exact (o1) | exact (o2))); (conv => whnf))); (try simp only [zUa0_0, z0, z1, z2, y0, y1, y2])) | (refine And.intro ?_ ?_ <;> (conv => whnf); (try simp only [zUa0_0, z0, z1, z2, y0, y1, y2])))
        (conv => whnf)
        (try simp only [zUa0_0, z0, z1, z2, y0, y1, y2, frC])
        repeat ((first | refine V.s1 ?_); (try simp only [zUa0_0, z0, z1, z2, y0, y1, y2, frC]))
        exact ⟨2, by omega, by omega, V.wk⟩
      · subst e1
        simp only [apS0, apH0, k2, frC, List.cons_append, List.nil_append]
        (conv => whnf)
        (try simp only [zUa0_0, z0, z1, z2, y0, y1, y2])
        repeat ((first | refine V.s1 ?_); (try simp only [zUa0_0, z0, z1, z2, y0, y1, y2]))
        refine ⟨(.take 0 (.take 1 (.take 2 (.take 3 (.take 4 (.take 5 (.take 6 (.take 7 (.take 8 (.take 9 (.take 10 (.take 11 (.take 12 (.take 13 (.take 14 (.take 15 (.take 16 (.ev (.cons 17 [] (.take 18 (.take 19 (.take 20 (.ev (.cons 21 [20, 19, 18] (.ev (.cons 22 [20] (.take 23 (.done)) (.nil))) (.nil)))))) (.cons 21 [16, 15, 14, 13, 12, 11, 10, 9, 8, 7, 6, 5, 4, 3, 2, 1, 0] (.ev (.cons 17 [] (.take 18 (.take 19 (.take 20 (.ev (.cons 22 [20] (.take 23 (.done)) (.nil)))))) (.nil))) (.nil))))))))))))))))))))), ⟨by kernel_rfl, by kernel_rfl, by kernel_rfl⟩, ?_⟩
        refine drw_meet [(18, .box 18 0), (19, .int .i64 0)] [(18, .box (frC q2))] ?_ ?_
        · (conv => whnf); (try simp only [zUa0_0, z0, z1, z2, y0, y1, y2])
          repeat' (first | exact V.wk | ((first | refine V.s1 ?_ | ((with_reducible refine recheck_and ?_ ?_); (focus ((conv => whnf); (try simp only [zUa0_0, z0, z1, z2, y0, y1, y2]); (repeat (refine V.s1 ?_; (try simp only [zUa0_0, z0, z1, z2, y0, y1, y2]))); exact ⟨rfl⟩)); (conv => whnf)) | ((try ((with_reducible refine .ext ?_); (conv => whnf); (try simp only [zUa0_0, z0, z1, z2, y0, y1, y2]))); (with_reducible refine call_intro (r := ?_) ?_ ?_); rotate_left; (focus (first | exact (o0) | exact (o1) | exact (o2))); (conv => whnf))); (try simp only [zUa0_0, z0, z1, z2, y0, y1, y2])) | (refine And.intro ?_ ?_ <;> (conv => whnf); (try simp only [zUa0_0, z0, z1, z2, y0, y1, y2])))
        (conv => whnf)
        (try simp only [zUa0_0, z0, z1, z2, y0, y1, y2, frC])
        repeat ((first | refine V.s1 ?_); (try simp only [zUa0_0, z0, z1, z2, y0, y1, y2, frC]))
        exact ⟨3, by omega, by omega, V.wk⟩
      · subst e1
        simp only [apS0, apH0, k3, frC, List.cons_append, List.nil_append]
        (conv => whnf)
        (try simp only [Nat.zero_add])
        repeat ((first | refine V.s1 ?_); (try simp only [Nat.zero_add]))
        exact Fin.of rfl
  · rw [decide_eq_false_iff_not] at hq
    rw [hnone (hfz fun m hm => hnn m (by omega))]
    (conv => whnf)
    (try simp only [Nat.zero_add])
    repeat ((first | refine V.s1 ?_); (try simp only [Nat.zero_add]))
    exact Fin.of rfl
end Go.Proofs.YtlcaefokcnohnaaGreatDoor
end
section
namespace Go.Proofs.YtlcaefokcnohnaaGreatDoor
open Go Go.V Go.Nb
def apS1 : Nat → D
  | 0 => .nil
  | k + 1 => .bsl 116 0 (k + 1) 2
def apH1 (q0 q1 q2 : Rat) : Nat → Hp
  | 0 => []
  | 1 => [(116, .box (frC q0))]
  | 2 => [(116, .box (frC q0 ++ frC q1))]
  | _ => [(116, .box (frC q0 ++ frC q1 ++ frC q2))]
theorem zUa1_0 : type_of% @Nat.zero_add ∧ type_of% @g3_0 ∧ type_of% @g3_1 ∧ type_of% @g3_2 ∧ type_of% @i3_0 ∧ type_of% @i3_1 ∧ type_of% @i3_2 ∧ type_of% @n10 ∧ type_of% @s3_0 ∧ type_of% @s3_1 ∧ type_of% @s3_2 ∧ type_of% @tn0 ∧ type_of% @tn1 ∧ type_of% @tn2 ∧ type_of% @tn3 := ⟨@Nat.zero_add, @g3_0, @g3_1, @g3_2, @i3_0, @i3_1, @i3_2, @n10, @s3_0, @s3_1, @s3_2, @tn0, @tn1, @tn2, @tn3⟩
theorem rlocate_1 (size : List Int) (out : Int) (data ts : List Int) (hs : size.length ≤ 281474976710656) (hd : data.length ≤ 281474976710656) (ht : ts.length ≤ 281474976710656)
    (ho0 : ∀ n, fndN data (size.getD 0 0).toNat (size.getD 1 0).toNat (size.getD 2 0).toNat (ts.getD 0 0, ts.getD 1 0, ts.getD 2 0) = some n → n % 6 = 1) :
    Called Tryz.prog 9 [gridD size out data, .ints .i64 ts] (locR size out data ts) := by
  have hch := rchecked_c size out data ts hs hd ht
  rcases Decidable.em (chk size out data ts = 0) with h0 | h0
  rotate_left
  · rw [locR_no h0]
    have hr := chk_r size out data ts
    generalize chk size out data ts = z at *
    unfold gridD at hch ⊢
    refine called_of_run tbOk 6 ⟨Tryz.func9, rfl, rfl, Nat.le_of_ble_eq_true rfl⟩ ?_
    (conv => whnf)
    (conv => whnf)
    (try simp only [Nat.zero_add])
    repeat ((first | refine V.s1 ?_ | ((try ((with_reducible refine .ext ?_); (conv => whnf); (try simp only [Nat.zero_add]))); (with_reducible refine call_intro (r := ?_) ?_ ?_); rotate_left; (focus (first | exact (hch))); (conv => whnf))); (try simp only [Nat.zero_add]))
    refine Cnd.split (CondB.mk (fun hq => ?_) (fun hq => ?_))
    · (conv => whnf)
      (try simp only [Nat.zero_add])
      repeat ((first | refine V.s1 ?_); (try simp only [Nat.zero_add]))
      exact Fin.of rfl
    · exfalso
      simp at hq
      omega
  rw [h0] at hch
  obtain ⟨s0, s1, s2, t, rfl, rfl, rfl, C, hv⟩ := chk_ok h0
  have ho : ∀ n, fndN data s0 s1 s2 t = some n → n % 6 = 1 := ho0
  clear ho0
  have hle := cells_le C
  have hcells := rcells_c C
  have hheld : ∀ n, n < 6 * cellsN s0 s1 s2 → _ := fun n hn => rheld_c C hn hv
  have hcell : ∀ n, n ≤ 10000 → _ := fun n hn => rcell_c C n hn
  have hcin : ∀ n, n < 6 * cellsN s0 s1 s2 → _ := fun n hn => cell_in hn C.h0.1 C.h1.1 C.h2.1
  have hbd : ∀ n a b e d, hldN data s1 s2 n t = some (a, b, e, d) → _ := fun n a b e d h => hld_bd (gv_vl C.hd _) (gv_vl C.hd _) (gv_vl C.hd _) (gv_vl C.hd _) hv (show hld (cnr data s1 s2 _) (cnr data s1 s2 _) (cnr data s1 s2 _) (cnr data s1 s2 _) t = some (a, b, e, d) from h)
  have hs9 := C.h0.2
  have hs91 := C.h1.2
  have hs92 := C.h2.2
  have hnone := locR_none h0
  have hsome : ∀ n a b e d, _ := fun n a b e d => locR_some (n := n) (a := a) (b := b) (e := e) (d := d) h0
  generalize locR (sz3 s0 s1 s2) 3 data (v3L t) = LR at *
  have z0 := sz3_0 s0 s1 s2
  have z1 := sz3_1 s0 s1 s2
  have z2 := sz3_2 s0 s1 s2
  have zl := sz3_len s0 s1 s2
  have y0 : (sz3 s0 s1 s2).getD 0 0 = s0 := rfl
  have y1 : (sz3 s0 s1 s2).getD 1 0 = s1 := rfl
  have y2 : (sz3 s0 s1 s2).getD 2 0 = s2 := rfl
  clear h0
  unfold v3L at hch ⊢
  unfold gridD at hch hcells hheld hcell ⊢
  obtain ⟨M, hM⟩ : ∃ M, cellsN s0 s1 s2 = M := ⟨_, rfl⟩
  have hfn : ∀ n, n < 6 * M → (∀ m, m < n → hldN data s1 s2 m t = none) → ∀ r, hldN data s1 s2 n t = some r → fndN data s0 s1 s2 t = some n := fun n hn hm r hr => fnd_some hm (by rw [hM]; exact hn) hr
  have hfz : (∀ n, n < 6 * M → hldN data s1 s2 n t = none) → fndN data s0 s1 s2 t = none := fun h => fnd_none (by rw [hM]; exact h)
  rw [hM] at hcells hheld hle hcin
  generalize sz3 s0 s1 s2 = sz at *
  clear C hM
  refine called_of_run tbOk 6 ⟨Tryz.func9, rfl, rfl, Nat.le_of_ble_eq_true rfl⟩ ?_
  (conv => whnf)
  (conv => whnf)
  (try simp only [Nat.zero_add])
  repeat ((first | refine V.s1 ?_ | ((try ((with_reducible refine .ext ?_); (conv => whnf); (try simp only [Nat.zero_add]))); (with_reducible refine call_intro (r := ?_) ?_ ?_); rotate_left; (focus (first | exact (hch))); (conv => whnf))); (try simp only [Nat.zero_add]))
  refine ⟨(.take 0 (.take 1 (.take 2 (.take 3 (.take 4 (.take 5 (.take 6 (.take 7 (.take 8 (.take 9 (.ev (.cons 10 [9, 8, 7, 6, 5, 4, 3, 2, 1, 0] (.ev (.cons 11 [] (.done) (.nil))) (.nil))))))))))))), ⟨by kernel_rfl, by kernel_rfl, by kernel_rfl⟩, .go ?_⟩
  (conv => whnf)
  (try simp only [Nat.zero_add, i3_0, i3_1, i3_2, g3_0, g3_1, g3_2])
  repeat ((first | refine V.s1 ?_); (try simp only [Nat.zero_add, i3_0, i3_1, i3_2, g3_0, g3_1, g3_2]))
  refine lp_any (0) (fun k => k ≤ 6 * M ∧ ∀ m, m < k → hldN data s1 s2 m t = none) (fun k => 6 * M - k) (fun k => [(9, .int .i64 k)]) (fun k => []) ?_ ?_ ?_
  · exact V.wk
  · exact ⟨Nat.zero_le _, fun m hm => absurd hm (Nat.not_lt_zero _)⟩
  intro n hn
  obtain ⟨hn1, hnn⟩ := hn
  (conv => whnf)
  (try simp only [Nat.zero_add])
  repeat ((first | refine V.s1 ?_ | ((try ((with_reducible refine .ext ?_); (conv => whnf); (try simp only [Nat.zero_add]))); (with_reducible refine call_intro (r := ?_) ?_ ?_); rotate_left; (focus (first | exact (hcells))); (conv => whnf))); (try simp only [Nat.zero_add]))
  refine Cnd.split (CondB.mk (fun hq => ?_) (fun hq => ?_))
  · rw [decide_eq_true_eq] at hq
    obtain ⟨a, b, e, d, hc, hrr⟩ := hheld n (by omega)
    (conv => whnf)
    (try simp only [Nat.zero_add])
    repeat ((first | refine V.s1 ?_ | ((try ((with_reducible refine .ext ?_); (conv => whnf); (try simp only [Nat.zero_add]))); (with_reducible refine call_intro (r := ?_) ?_ ?_); rotate_left; (focus (first | exact (hc _ .agg) | exact (hc _ .mkD) | exact (hc _ .mkI))); (conv => whnf))); (try simp only [Nat.zero_add]))
    refine Cnd.split (CondB.mk (fun hq2 => ?_) (fun hq2 => ?_))
    · have hno : hldN data s1 s2 n t = none := by
        cases hx : hldN data s1 s2 n t with
        | none => rfl
        | some r => rw [hx] at hq2; simp at hq2
      (conv => whnf)
      (try simp only [Nat.zero_add, cs1])
      repeat ((first | refine V.s1 ?_); (try simp only [Nat.zero_add, cs1]))
      exact ⟨n + 1, ⟨by omega, fun m hm => (Nat.lt_succ_iff_lt_or_eq.1 hm).elim (hnn m) (fun e => e ▸ hno)⟩, by omega, V.wk⟩
    · have hyes : ∃ r, hldN data s1 s2 n t = some r := by
        cases hx : hldN data s1 s2 n t with
        | none => rw [hx] at hq2; simp at hq2
        | some r => exact ⟨r, rfl⟩
      obtain ⟨r, hx⟩ := hyes
      have hr2 := hrr r hx
      subst hr2
      have hb := hbd n a b e d hx
      have h6 : n % 6 = 1 := ho n (hfn n (by omega) hnn _ hx)
      have hlr := hsome n a b e d (hfn n (by omega) hnn _ hx) hx
      rw [hlr]
      have hci := hcin n (by omega)
      have hC := hcell (n / 6) (by omega)
      have ec : (n / 6 / ((s1 - 1) * (s2 - 1)), n / 6 / (s2 - 1) % (s1 - 1), n / 6 % (s2 - 1)) = cellN s1 s2 n := rfl
      rw [ec] at hC
      clear ec ho hlr hsome hnone hfn hfz hcells hheld hcell hch hcin hbd hrr hnn hc
      have m0 := mul_fact hci.1 hs9 ⟨hb.2.2.2.2.1, hb.2.2.2.2.2⟩
      have m1 := mul_fact hci.2.1 hs91 ⟨hb.2.2.2.2.1, hb.2.2.2.2.2⟩
      have m2 := mul_fact hci.2.2 hs92 ⟨hb.2.2.2.2.1, hb.2.2.2.2.2⟩
      unfold resF
      obtain ⟨x, hxe⟩ : ∃ x, cellN s1 s2 n = x := ⟨_, rfl⟩
      rw [hxe] at hC hci m0 m1 m2 ⊢
      clear hxe hx
      obtain ⟨q0, eq0⟩ : ∃ q, frq x.1 (rs3 (n % 6) a b e).1 d s0 = q := ⟨_, rfl⟩
      obtain ⟨q1, eq1⟩ : ∃ q, frq x.2.1 (rs3 (n % 6) a b e).2.1 d s1 = q := ⟨_, rfl⟩
      obtain ⟨q2, eq2⟩ : ∃ q, frq x.2.2 (rs3 (n % 6) a b e).2.2 d s2 = q := ⟨_, rfl⟩
      rw [eq0, eq1, eq2]
      obtain ⟨x0, x1, x2⟩ := x
      unfold n3I at hC
      dsimp only at hC hci m0 m1 m2 eq0 eq1 eq2
      have habe : a + b + e = e + b + a := by omega
      have hbe : b + e = e + b := by omega
      have hq1 : (n : Int) / 6 = ((n / 6 : Nat) : Int) := by omega
      have hq2 : (n : Int).tdiv 6 = ((n / 6 : Nat) : Int) := by rw [Int.tdiv_eq_ediv_of_nonneg (by omega)]; omega
      (conv => whnf)
      (try simp only [Nat.zero_add])
      repeat ((first | refine V.s1 ?_); (try simp only [Nat.zero_add]))
      have hm : (n : Int).tmod 6 = 1 := by rw [Int.tmod_eq_emod_of_nonneg (by omega)]; omega
      have hm2 : (n : Int) % 6 = 1 := by omega
      rw [h6] at eq0 eq1 eq2
      unfold frq at eq0 eq1 eq2
      simp only [rs3] at eq0 eq1 eq2
      have o0 := rofE eq0 (by omega) (by omega)
      have o1 := rofE eq1 (by omega) (by omega)
      have o2 := rofE eq2 (by omega) (by omega)
      clear eq0 eq1 eq2
      unfold frC at o0 o1 o2
      refine ⟨(.take 0 (.take 1 (.take 2 (.take 5 (.take 6 (.ev (.cons 3 [6, 5] (.ev (.cons 4 [6, 5] (.take 7 (.ev (.cons 8 [7, 6, 5] (.ev (.cons 9 [7, 6, 5] (.ev (.cons 10 [7, 6, 5] (.ev (.cons 11 [] (.done) (.nil))) (.nil))) (.nil))) (.cons 9 [7, 6, 5] (.ev (.cons 8 [7, 6, 5] (.ev (.cons 10 [7, 6, 5] (.ev (.cons 11 [] (.done) (.nil))) (.nil))) (.nil))) (.nil))))) (.cons 8 [6, 5] (.ev (.cons 4 [6, 5] (.take 7 (.ev (.cons 9 [7, 6, 5] (.ev (.cons 10 [7, 6, 5] (.ev (.cons 11 [] (.done) (.nil))) (.nil))) (.nil)))) (.cons 9 [6, 5] (.ev (.cons 4 [6, 5] (.take 7 (.ev (.cons 10 [7, 6, 5] (.ev (.cons 11 [] (.done) (.nil))) (.nil)))) (.nil))) (.nil)))) (.cons 9 [6, 5] (.ev (.cons 4 [6, 5] (.take 7 (.ev (.cons 8 [7, 6, 5] (.ev (.cons 10 [7, 6, 5] (.ev (.cons 11 [] (.done) (.nil))) (.nil))) (.nil)))) (.cons 8 [6, 5] (.ev (.cons 4 [6, 5] (.take 7 (.ev (.cons 10 [7, 6, 5] (.ev (.cons 11 [] (.done) (.nil))) (.nil)))) (.nil))) (.nil)))) (.nil))))) (.cons 8 [6, 5, 2, 1, 0] (.ev (.cons 3 [6, 5] (.ev (.cons 4 [6, 5] (.take 7 (.ev (.cons 9 [7, 6, 5] (.ev (.cons 10 [7, 6, 5] (.ev (.cons 11 [] (.done) (.nil))) (.nil))) (.nil)))) (.cons 9 [6, 5] (.ev (.cons 4 [6, 5] (.take 7 (.ev (.cons 10 [7, 6, 5] (.ev (.cons 11 [] (.done) (.nil))) (.nil)))) (.nil))) (.nil)))) (.cons 9 [6, 5, 2, 1, 0] (.ev (.cons 3 [6, 5] (.ev (.cons 4 [6, 5] (.take 7 (.ev (.cons 10 [7, 6, 5] (.ev (.cons 11 [] (.done) (.nil))) (.nil)))) (.nil))) (.nil))) (.nil)))) (.cons 9 [6, 5, 2, 1, 0] (.ev (.cons 3 [6, 5] (.ev (.cons 4 [6, 5] (.take 7 (.ev (.cons 8 [7, 6, 5] (.ev (.cons 10 [7, 6, 5] (.ev (.cons 11 [] (.done) (.nil))) (.nil))) (.nil)))) (.cons 8 [6, 5] (.ev (.cons 4 [6, 5] (.take 7 (.ev (.cons 10 [7, 6, 5] (.ev (.cons 11 [] (.done) (.nil))) (.nil)))) (.nil))) (.nil)))) (.cons 8 [6, 5, 2, 1, 0] (.ev (.cons 3 [6, 5] (.ev (.cons 4 [6, 5] (.take 7 (.ev (.cons 10 [7, 6, 5] (.ev (.cons 11 [] (.done) (.nil))) (.nil)))) (.nil))) (.nil))) (.nil)))) (.nil)))))))))), ⟨by kernel_rfl, by kernel_rfl, by kernel_rfl⟩, ?_⟩
      refine drw_meet [(13, .box 13 0), (14, .box 14 0)] [(13, .arr .i64 [(x0 : Int), x1, x2]), (14, .arr .i64 [0, 2, 1])] ?_ ?_
      · (conv => whnf); (try simp only [Nat.zero_add, hq1, hq2, hm, hm2])
        repeat' (first | exact V.wk | ((first | refine V.s1 ?_ | ((with_reducible refine recheck_and ?_ ?_); (focus ((conv => whnf); (try simp only [Nat.zero_add, hq1, hq2, hm, hm2]); (repeat (refine V.s1 ?_; (try simp only [Nat.zero_add, hq1, hq2, hm, hm2]))); exact ⟨rfl⟩)); (conv => whnf)) | ((try ((with_reducible refine .ext ?_); (conv => whnf); (try simp only [Nat.zero_add, hq1, hq2, hm, hm2]))); (with_reducible refine call_intro (r := ?_) ?_ ?_); rotate_left; (focus (first | exact (hC) | exact (rorders_c))); (conv => whnf))); (try simp only [Nat.zero_add, hq1, hq2, hm, hm2])) | (refine And.intro ?_ ?_ <;> (conv => whnf); (try simp only [Nat.zero_add, hq1, hq2, hm, hm2])))
      (conv => whnf)
      (try simp only [Nat.zero_add, habe, hbe, tn0, tn1, tn2, tn3, s3_0, s3_1, s3_2, g3_0, g3_1, g3_2, i3_0, i3_1, i3_2])
      repeat ((first | refine V.s1 ?_); (try simp only [Nat.zero_add, habe, hbe, tn0, tn1, tn2, tn3, s3_0, s3_1, s3_2, g3_0, g3_1, g3_2, i3_0, i3_1, i3_2]))
      refine lp_any (0 : Nat) (fun k => k ≤ 3) (fun k => 3 - k) (fun k => [(17, .int .i64 (k : Int)), (16, apS1 k)]) (fun k => apH1 q0 q1 q2 k) ?_ ?_ ?_
      exact V.wk
      exact Nat.zero_le _
      intro k hk
      have hk4 : k = 0 ∨ k = 1 ∨ k = 2 ∨ k = 3 := by omega
      rcases hk4 with e1 | e1 | e1 | e1
      · subst e1
        simp only [apS1, apH1, k0, frC, List.cons_append, List.nil_append]
        (conv => whnf)
        (try simp only [zUa1_0, z0, z1, z2, y0, y1, y2])
        repeat ((first | refine V.s1 ?_); (try simp only [zUa1_0, z0, z1, z2, y0, y1, y2]))
        refine ⟨(.take 0 (.take 1 (.take 2 (.take 3 (.take 4 (.take 5 (.take 6 (.take 7 (.take 8 (.take 9 (.take 10 (.take 11 (.take 12 (.take 13 (.take 14 (.take 15 (.take 16 (.ev (.cons 17 [] (.take 18 (.take 19 (.take 20 (.ev (.cons 21 [20, 19, 18] (.ev (.cons 22 [20] (.take 23 (.done)) (.nil))) (.nil)))))) (.cons 21 [16, 15, 14, 13, 12, 11, 10, 9, 8, 7, 6, 5, 4, 3, 2, 1, 0] (.ev (.cons 17 [] (.take 18 (.take 19 (.take 20 (.ev (.cons 22 [20] (.take 23 (.done)) (.nil)))))) (.nil))) (.nil))))))))))))))))))))), ⟨by kernel_rfl, by kernel_rfl, by kernel_rfl⟩, ?_⟩
        refine drw_meet [(18, .box 18 0), (19, .int .i64 0)] [(18, .box (frC q0))] ?_ ?_
        · (conv => whnf); (try simp only [zUa1_0, z0, z1, z2, y0, y1, y2])
          repeat' (first | exact V.wk | ((first | refine V.s1 ?_ | ((with_reducible refine recheck_and ?_ ?_); (focus ((conv => whnf); (try simp only [zUa1_0, z0, z1, z2, y0, y1, y2]); (repeat (refine V.s1 ?_; (try simp only [zUa1_0, z0, z1, z2, y0, y1, y2]))); exact ⟨rfl⟩)); (conv => whnf)) | ((try ((with_reducible refine .ext ?_); (conv => whnf); (try simp only [zUa1_0, z0, z1, z2, y0, y1, y2]))); (with_reducible refine call_intro (r := ?_) ?_ ?_); rotate_left; (focus (first | exact (o0) | exact (o1) | exact (o2))); (conv => whnf))); (try simp only [zUa1_0, z0, z1, z2, y0, y1, y2])) | (refine And.intro ?_ ?_ <;> (conv => whnf); (try simp only [zUa1_0, z0, z1, z2, y0, y1, y2])))
        (conv => whnf)
        (try simp only [zUa1_0, z0, z1, z2, y0, y1, y2, frC])
        repeat ((first | refine V.s1 ?_); (try simp only [zUa1_0, z0, z1, z2, y0, y1, y2, frC]))
        exact ⟨1, by omega, by omega, V.wk⟩
      · subst e1
        simp only [apS1, apH1, k1, frC, List.cons_append, List.nil_append]
        (conv => whnf)
        (try simp only [zUa1_0, z0, z1, z2, y0, y1, y2])
        repeat ((first | refine V.s1 ?_); (try simp only [zUa1_0, z0, z1, z2, y0, y1, y2]))
        refine ⟨(.take 0 (.take 1 (.take 2 (.take 3 (.take 4 (.take 5 (.take 6 (.take 7 (.take 8 (.take 9 (.take 10 (.take 11 (.take 12 (.take 13 (.take 14 (.take 15 (.take 16 (.ev (.cons 17 [] (.take 18 (.take 19 (.take 20 (.ev (.cons 21 [20, 19, 18] (.ev (.cons 22 [20] (.take 23 (.done)) (.nil))) (.nil)))))) (.cons 21 [16, 15, 14, 13, 12, 11, 10, 9, 8, 7, 6, 5, 4, 3, 2, 1, 0] (.ev (.cons 17 [] (.take 18 (.take 19 (.take 20 (.ev (.cons 22 [20] (.take 23 (.done)) (.nil)))))) (.nil))) (.nil))))))))))))))))))))), ⟨by kernel_rfl, by kernel_rfl, by kernel_rfl⟩, ?_⟩
        refine drw_meet [(18, .box 18 0), (19, .int .i64 0)] [(18, .box (frC q1))] ?_ ?_
        · (conv => whnf); (try simp only [zUa1_0, z0, z1, z2, y0, y1, y2])
          repeat' (first | exact V.wk | ((first | refine V.s1 ?_ | ((with_reducible refine recheck_and ?_ ?_); (focus ((conv => whnf); (try simp only [zUa1_0, z0, z1, z2, y0, y1, y2]); (repeat (refine V.s1 ?_; (try simp only [zUa1_0, z0, z1, z2, y0, y1, y2]))); exact ⟨rfl⟩)); (conv => whnf)) | ((try ((with_reducible refine .ext ?_); (conv => whnf); (try simp only [zUa1_0, z0, z1, z2, y0, y1, y2]))); (with_reducible refine call_intro (r := ?_) ?_ ?_); rotate_left; (focus (first | exact (o0) | exact (o1) | exact (o2))); (conv => whnf))); (try simp only [zUa1_0, z0, z1, z2, y0, y1, y2])) | (refine And.intro ?_ ?_ <;> (conv => whnf); (try simp only [zUa1_0, z0, z1, z2, y0, y1, y2])))
        (conv => whnf)
        (try simp only [zUa1_0, z0, z1, z2, y0, y1, y2, frC])
        repeat ((first | refine V.s1 ?_); (try simp only [zUa1_0, z0, z1, z2, y0, y1, y2, frC]))
        exact ⟨2, by omega, by omega, V.wk⟩
      · subst e1
        simp only [apS1, apH1, k2, frC, List.cons_append, List.nil_append]
        (conv => whnf)
        (try simp only [zUa1_0, z0, z1, z2, y0, y1, y2])
        repeat ((first | refine V.s1 ?_); (try simp only [zUa1_0, z0, z1, z2, y0, y1, y2]))
        refine ⟨(.take 0 (.take 1 (.take 2 (.take 3 (.take 4 (.take 5 (.take 6 (.take 7 (.take 8 (.take 9 (.take 10 (.take 11 (.take 12 (.take 13 (.take 14 (.take 15 (.take 16 (.ev (.cons 17 [] (.take 18 (.take 19 (.take 20 (.ev (.cons 21 [20, 19, 18] (.ev (.cons 22 [20] (.take 23 (.done)) (.nil))) (.nil)))))) (.cons 21 [16, 15, 14, 13, 12, 11, 10, 9, 8, 7, 6, 5, 4, 3, 2, 1, 0] (.ev (.cons 17 [] (.take 18 (.take 19 (.take 20 (.ev (.cons 22 [20] (.take 23 (.done)) (.nil)))))) (.nil))) (.nil))))))))))))))))))))), ⟨by kernel_rfl, by kernel_rfl, by kernel_rfl⟩, ?_⟩
        refine drw_meet [(18, .box 18 0), (19, .int .i64 0)] [(18, .box (frC q2))] ?_ ?_
        · (conv => whnf); (try simp only [zUa1_0, z0, z1, z2, y0, y1, y2])
          repeat' (first | exact V.wk | ((first | refine V.s1 ?_ | ((with_reducible refine recheck_and ?_ ?_); (focus ((conv => whnf); (try simp only [zUa1_0, z0, z1, z2, y0, y1, y2]); (repeat (refine V.s1 ?_; (try simp only [zUa1_0, z0, z1, z2, y0, y1, y2]))); exact ⟨rfl⟩)); (conv => whnf)) | ((try ((with_reducible refine .ext ?_); (conv => whnf); (try simp only [zUa1_0, z0, z1, z2, y0, y1, y2]))); (with_reducible refine call_intro (r := ?_) ?_ ?_); rotate_left; (focus (first | exact (o0) | exact (o1) | exact (o2))); (conv => whnf))); (try simp only [zUa1_0, z0, z1, z2, y0, y1, y2])) | (refine And.intro ?_ ?_ <;> (conv => whnf); (try simp only [zUa1_0, z0, z1, z2, y0, y1, y2])))
        (conv => whnf)
        (try simp only [zUa1_0, z0, z1, z2, y0, y1, y2, frC])
        repeat ((first | refine V.s1 ?_); (try simp only [zUa1_0, z0, z1, z2, y0, y1, y2, frC]))
        exact ⟨3, by omega, by omega, V.wk⟩
      · subst e1
        simp only [apS1, apH1, k3, frC, List.cons_append, List.nil_append]
        (conv => whnf)
        (try simp only [Nat.zero_add])
        repeat ((first | refine V.s1 ?_); (try simp only [Nat.zero_add]))
        exact Fin.of rfl
  · rw [decide_eq_false_iff_not] at hq
    rw [hnone (hfz fun m hm => hnn m (by omega))]
    (conv => whnf)
    (try simp only [Nat.zero_add])
    repeat ((first | refine V.s1 ?_); (try simp only [Nat.zero_add]))
    exact Fin.of rfl
end Go.Proofs.YtlcaefokcnohnaaGreatDoor
end
