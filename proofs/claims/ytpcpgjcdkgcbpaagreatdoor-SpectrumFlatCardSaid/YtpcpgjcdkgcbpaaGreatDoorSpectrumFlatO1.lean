/- What some functions of the program answer at values that mean given lists, texts and numbers, each proved of the program's own code: part 7. Conditions: those that each theorem names. -/
import Derived.Test.YtpcpgjcdkgcbpaaGreatDoorH1
import Derived.WalkKit
import Derived.BigCall
import Derived.Defers
import Derived.Recover
import Derived.Laws.Pointers
import Derived.Test.YtpcpgjcdkgcbpaaGreatDoorH4
import Derived.Test.YtpcpgjcdkgcbpaaGreatDoorH5
import Derived.Test.YtpcpgjcdkgcbpaaGreatDoorH6
set_option linter.unusedSimpArgs false
set_option linter.unusedVariables false
set_option maxHeartbeats 8000000
set_option maxRecDepth 100000
section
namespace Go.Proofs.YtpcpgjcdkgcbpaaGreatDoor
open Go Go.V Go.Nb Go.RowKit Go.Proofs
set_option maxHeartbeats 4000000
set_option maxRecDepth 1000000
theorem hta_errno (y : Int) (w : World) : (Instr.typeAssert (.iface 40 (.int .i64 y)) 20 40 true).run Tryz.prog w = .ok (.tuple #[.int .i64 y, .bool true]) w := by
  simp [Instr.typeAssert, run_underlying Tryz.underlying40, go_sem, Result.andThen]
theorem heap_setc {W : World} {B j : Nat} {cs : Array Value} {T : TypeId} {fr : Nat × Nat} (v : Value) (h : W.heap[B]? = some (.cells cs T fr)) : (W.setCell ⟨B, j, none⟩ v).heap[B]? = some (.cells (cs.setIfInBounds j v) T fr) := by
  obtain ⟨hlt, hk⟩ := Array.getElem?_eq_some_iff.1 h
  show (W.heap.modify B _)[B]? = _
  rw [Array.getElem?_eq_getElem (by rw [Array.size_modify]; exact hlt), Array.getElem_modify_self, hk]
  rfl
theorem heap_seto {W : World} {B B' j : Nat} {o : Option Obj} (v : Value) (hn : B ≠ B') (h : W.heap[B]? = o) : (W.setCell ⟨B', j, none⟩ v).heap[B]? = o := (Below.heap_setCell W ⟨B', j, none⟩ v B hn).trans h
theorem idle_tri (p q : Addr) (w : World) :
    CallsD Tryz.prog 115 #[.pointer (some p), .pointer (some q)] .returning w fun e u' w' => e = .returned (.tuple #[]) ∧ u' = .returning ∧ w' = w := by
  refine callsD_of_wpS Tryz.func115 rfl fun c₀ cs hu => ?_
  apply wpS_seq
  apply wpS_region
  simp [wpOpsS, go_sem, recoverD, hu, Tryz.ntmps115, Exit.thenS]
  apply wpS_seq
  apply wpS_region
  simp [wpOpsS, go_sem, Exit.thenS]
  refine wpS_cond (t := false) (by simp [Act.eval, Array.replicate]) ?_
  simp only [Bool.false_eq_true, if_false]
  refine wpS_of_wp (wp_skip ?_)
  cases c₀
  simp_all [bodyPostS, results, Tryz.results115]
theorem guard_tri_ok {f : Nat} {es ds : List D} {a0 a1 a2 a3 a4 a5 : List UInt8} (c : Called Tryz.prog f (es ++ ds) (.agg [.str a0, .str a1, .str a2, .str a3, .str a4, .str a5])) :
    Called Tryz.prog 69 [.fn f es ds] (.tup [.agg [.str a0, .str a1, .str a2, .str a3, .str a4, .str a5], .int .i64 0]) := by
  refine ⟨enters_of Tryz.func69 rfl rfl, fun h w vs ha hd => ?_⟩
  simp only [DenL, Den] at hd
  obtain ⟨v, _, rfl, ⟨us, cs, rfl, hu, hc⟩, rfl⟩ := hd
  have hmf : ∀ (fn : Fn) (first cap : Array Value) (w : World), (Instr.makeFunc fn first cap).run Tryz.prog w = .ok (.func fn first cap) w := fun _ _ _ _ => rfl
  go_enter_defers Tryz.func69, Tryz.ntmps69
  go_wp2
  rw [c.ent]
  simp only [Oper.upon]
  have a2 : ∀ (o1 o2 : Obj), Agree h ((w.alloc o1).alloc o2) := fun o1 o2 => ha.of_blocks fun b ⟨o, v, hv⟩ => by
    have hlt := ha.lt hv
    rw [Lib.alloc_old (w.alloc o1) o2 b (by simp; omega), Lib.alloc_old w o1 b hlt]
  refine (c.call h _ _ (a2 _ _) (hu.append hc)).mono ?_
  rintro e w' ⟨v, h', rfl, hd, ha', hle, hb, hold⟩
  have hd0 := hd
  simp only [Den, DenL] at hd
  obtain ⟨vs, rfl, ⟨v0, _, rfl, ⟨rfl, l0⟩, v1, _, rfl, ⟨rfl, l1⟩, v2, _, rfl, ⟨rfl, l2⟩, v3, _, rfl, ⟨rfl, l3⟩, v4, _, rfl, ⟨rfl, l4⟩, v5, _, rfl, ⟨rfl, l5⟩, rfl⟩, hone⟩ := hd
  obtain ⟨T, k0⟩ : ∃ T, w'.heap[w.heap.size]? = some (.cells #[.string ⟨#[]⟩, .string ⟨#[]⟩, .string ⟨#[]⟩, .string ⟨#[]⟩, .string ⟨#[]⟩, .string ⟨#[]⟩] T (0, 0)) := ⟨_, by
    rw [hb.block w.heap.size (by simp; omega)]
    exact heap_alloc2_old _ _ _⟩
  obtain ⟨T1, k1⟩ : ∃ T, w'.heap[w.heap.size + 1]? = some (.cells #[.int .i64 0] T (0, 0)) := ⟨_, by
    rw [hb.block (w.heap.size + 1) (by simp)]
    exact heap_alloc2_new _ _ _⟩
  have fz : ∀ j, w'.frozen? ⟨w.heap.size, j, none⟩ = false := fun j => Lib.frozen_of_heap k0 j
  have fz1 : ∀ j, w'.frozen? ⟨w.heap.size + 1, j, none⟩ = false := fun j => Lib.frozen_of_heap k1 j
  have c0 : w'.cell? ⟨w.heap.size, 0, none⟩ = some (.string ⟨#[]⟩) := by rw [Lib.cell_of_heap k0]; rfl
  have c1 : w'.cell? ⟨w.heap.size, 1, none⟩ = some (.string ⟨#[]⟩) := by rw [Lib.cell_of_heap k0]; rfl
  have c2 : w'.cell? ⟨w.heap.size, 2, none⟩ = some (.string ⟨#[]⟩) := by rw [Lib.cell_of_heap k0]; rfl
  have c3 : w'.cell? ⟨w.heap.size, 3, none⟩ = some (.string ⟨#[]⟩) := by rw [Lib.cell_of_heap k0]; rfl
  have c4 : w'.cell? ⟨w.heap.size, 4, none⟩ = some (.string ⟨#[]⟩) := by rw [Lib.cell_of_heap k0]; rfl
  have c5 : w'.cell? ⟨w.heap.size, 5, none⟩ = some (.string ⟨#[]⟩) := by rw [Lib.cell_of_heap k0]; rfl
  have ce : w'.cell? ⟨w.heap.size + 1, 0, none⟩ = some (.int .i64 0) := by rw [Lib.cell_of_heap k1]; rfl
  clear a2 hu hc hone
  have hbw : Below w.heap.size w w' := (((Below.refl w.heap.size w).alloc (Nat.le_refl _) _).alloc (by simp) _).trans (hb.mono (by simp; omega))
  have hno : ∀ b, (∃ o v, h' b o = some v) → b < w.heap.size + 2 → b < w.heap.size := fun b ⟨o, v, hv⟩ hl => by
    rw [hold b (by simp; omega) o] at hv
    exact ha.lt hv
  have ho2 : ∀ b, b < w.heap.size → ∀ o, h' b o = h b o := fun b hb2 o => hold b (by simp; omega) o
  clear hb hold
  go_wp2
  refine leaves_cons (f := 115) (args := #[.pointer (some ⟨w.heap.size, 0, none⟩), .pointer (some ⟨w.heap.size + 1, 0, none⟩)]) (by simp) (by simp [go_sem]) ?_
  refine (idle_tri _ _ _).mono ?_
  rintro e u' w'' ⟨rfl, rfl, rfl⟩
  simp [Leaves, settle, results, Tryz.results69, go_sem, c0, c1, c2, c3, c4, c5, ce]
  refine ⟨h', ?_, ?_, hle, ?_, ho2⟩
  · simp only [Den, DenL] at hd0 ⊢
    exact ⟨_, rfl, _, _, rfl, hd0, _, _, rfl, ⟨rfl, by simp [InR, V.lo, V.hi]⟩, rfl⟩
  · refine ha'.of_blocks fun b hx => ?_
    have n0 : b ≠ w.heap.size := fun e => by have := hno b hx (by omega); omega
    have n1 : b ≠ w.heap.size + 1 := fun e => by have := hno b hx (by omega); omega
    rw [Below.heap_setCell _ _ _ _ n1, Below.heap_setCell _ _ _ _ n0, Below.heap_setCell _ _ _ _ n0, Below.heap_setCell _ _ _ _ n0, Below.heap_setCell _ _ _ _ n0, Below.heap_setCell _ _ _ _ n0, Below.heap_setCell _ _ _ _ n0]
  · exact ((((((hbw.setCell (Nat.le_refl _) _).setCell (Nat.le_refl _) _).setCell (Nat.le_refl _) _).setCell (Nat.le_refl _) _).setCell (Nat.le_refl _) _).setCell (Nat.le_refl _) _).setCell (Nat.le_succ _) _
theorem catch_tri (b : Nat) (x : Int) (older : List PanicEntry) (T T1 : TypeId) (w : World) (hb : w.heap[b]? = some (.cells #[.string ⟨#[]⟩, .string ⟨#[]⟩, .string ⟨#[]⟩, .string ⟨#[]⟩, .string ⟨#[]⟩, .string ⟨#[]⟩] T (0, 0))) (hq : w.heap[b + 1]? = some (.cells #[.int .i64 0] T1 (0, 0))) :
    CallsD Tryz.prog 115 #[.pointer (some ⟨b, 0, none⟩), .pointer (some ⟨b + 1, 0, none⟩)] (.panicking ({ v := .iface 40 (.int .i64 x), recovered := false } :: older)) w fun e u' w' =>
      e = .returned (.tuple #[]) ∧ u' = .panicking ({ v := .iface 40 (.int .i64 x), recovered := true } :: older) ∧ Below b w w' ∧ w'.heap[b]? = some (.cells #[.string ⟨#[]⟩, .string ⟨#[]⟩, .string ⟨#[]⟩, .string ⟨#[]⟩, .string ⟨#[]⟩, .string ⟨#[]⟩] T (0, 0)) ∧ w'.heap[b + 1]? = some (.cells #[.int .i64 x] T1 (0, 0)) := by
  refine callsD_of_wpS Tryz.func115 rfl fun c₀ cs hu => ?_
  apply wpS_seq
  apply wpS_region
  simp [wpOpsS, go_sem, recoverD, hu, Tryz.ntmps115, Exit.thenS]
  apply wpS_seq
  apply wpS_region
  simp [wpOpsS, go_sem, Exit.thenS]
  refine wpS_cond (t := true) (by simp [Act.eval, Array.replicate]) ?_
  simp only [if_true]
  refine wpS_of_wp ?_
  change Code.wp Tryz.prog _ _ { tmps := #[.pointer (some ⟨b, 0, none⟩), .pointer (some ⟨b + 1, 0, none⟩), .iface 40 (.int .i64 x), Go.undef, Go.undef, Go.undef, .iface 40 (.int .i64 x), .iface 40 (.int .i64 x), .bool true, Go.undef, Go.undef, Go.undef, Go.undef, Go.undef, Go.undef, Go.undef, Go.undef], defers := [] } _
  have hlt : b + 1 < w.heap.size := by
    rcases Nat.lt_or_ge (b + 1) w.heap.size with e | e
    · exact e
    · rw [Array.getElem?_eq_none e] at hq
      cases hq
  have kb : ∀ o, (w.alloc o).heap[b]? = w.heap[b]? := fun o => Below.heap_alloc w o b (by omega)
  have kq : ∀ o, (w.alloc o).heap[b + 1]? = w.heap[b + 1]? := fun o => Below.heap_alloc w o (b + 1) hlt
  have fz : ∀ o j, (w.alloc o).frozen? ⟨b, j, none⟩ = false := fun o j => Lib.frozen_of_heap ((kb o).trans hb) j
  have fz1 : ∀ o j, (w.alloc o).frozen? ⟨b + 1, j, none⟩ = false := fun o j => Lib.frozen_of_heap ((kq o).trans hq) j
  have c0 : ∀ o, (w.alloc o).cell? ⟨b, 0, none⟩ = some (.string ⟨#[]⟩) := fun o => by rw [Lib.cell_of_heap ((kb o).trans hb)]; rfl
  have c1 : ∀ o, (w.alloc o).cell? ⟨b, 1, none⟩ = some (.string ⟨#[]⟩) := fun o => by rw [Lib.cell_of_heap ((kb o).trans hb)]; rfl
  have c2 : ∀ o, (w.alloc o).cell? ⟨b, 2, none⟩ = some (.string ⟨#[]⟩) := fun o => by rw [Lib.cell_of_heap ((kb o).trans hb)]; rfl
  have c3 : ∀ o, (w.alloc o).cell? ⟨b, 3, none⟩ = some (.string ⟨#[]⟩) := fun o => by rw [Lib.cell_of_heap ((kb o).trans hb)]; rfl
  have c4 : ∀ o, (w.alloc o).cell? ⟨b, 4, none⟩ = some (.string ⟨#[]⟩) := fun o => by rw [Lib.cell_of_heap ((kb o).trans hb)]; rfl
  have c5 : ∀ o, (w.alloc o).cell? ⟨b, 5, none⟩ = some (.string ⟨#[]⟩) := fun o => by rw [Lib.cell_of_heap ((kb o).trans hb)]; rfl
  have ce : ∀ o, (w.alloc o).cell? ⟨b + 1, 0, none⟩ = some (.int .i64 0) := fun o => by rw [Lib.cell_of_heap ((kq o).trans hq)]; rfl
  go_wp2
  rw [hta_errno]
  generalize hw1 : World.setCell (World.setCell (World.setCell (World.setCell (World.setCell (World.setCell (World.setCell (World.alloc w _) _ _) _ _) _ _) _ _) _ _) _ _) _ _ = w1
  have q1 : w1.heap[b + 1]? = some (.cells #[.int .i64 9] T1 (0, 0)) := by
    rw [← hw1]
    exact heap_setc _ (heap_seto _ (by omega) (heap_seto _ (by omega) (heap_seto _ (by omega) (heap_seto _ (by omega) (heap_seto _ (by omega) (heap_seto _ (by omega) ((kq _).trans hq)))))))
  have q0 : w1.heap[b]? = some (.cells #[.string ⟨#[]⟩, .string ⟨#[]⟩, .string ⟨#[]⟩, .string ⟨#[]⟩, .string ⟨#[]⟩, .string ⟨#[]⟩] T (0, 0)) := by
    rw [← hw1]
    exact heap_seto _ (by omega) (heap_setc _ (heap_setc _ (heap_setc _ (heap_setc _ (heap_setc _ (heap_setc _ ((kb _).trans hb)))))))
  have qb : Below b w w1 := by
    rw [← hw1]
    exact ((((((((Below.refl b w).alloc (by omega) _).setCell (Nat.le_refl _) _).setCell (Nat.le_refl _) _).setCell (Nat.le_refl _) _).setCell (Nat.le_refl _) _).setCell (Nat.le_refl _) _).setCell (Nat.le_refl _) _).setCell (Nat.le_succ _) _
  clear hw1 c0 c1 c2 c3 c4 c5 ce fz fz1 kb kq hb hq
  have d0 : w1.cell? ⟨b + 1, 0, none⟩ = some (.int .i64 9) := by rw [Lib.cell_of_heap q1]; rfl
  have dz : w1.frozen? ⟨b + 1, 0, none⟩ = false := Lib.frozen_of_heap q1 0
  simp only [Result.andThen]
  rw [Oper.upon_value]
  go_wp2
  simp [bodyPostS, results, Tryz.results115]
  exact ⟨qb.setCell (Nat.le_succ _) _, heap_seto _ (by omega) q0, heap_setc _ q1⟩
theorem guard_tri_pan {f : Nat} {es ds : List D} {x : Int} (hx : InR .i64 x) (c : Panics Tryz.prog f (es ++ ds) (.iface 40 (.int .i64 x))) :
    Called Tryz.prog 69 [.fn f es ds] (.tup [.agg [.str [], .str [], .str [], .str [], .str [], .str []], .int .i64 x]) := by
  refine ⟨enters_of Tryz.func69 rfl rfl, fun h w vs ha hd => ?_⟩
  simp only [DenL, Den] at hd
  obtain ⟨v, _, rfl, ⟨us, cs, rfl, hu, hc⟩, rfl⟩ := hd
  have hmf : ∀ (fn : Fn) (first cap : Array Value) (w : World), (Instr.makeFunc fn first cap).run Tryz.prog w = .ok (.func fn first cap) w := fun _ _ _ _ => rfl
  go_enter_defers Tryz.func69, Tryz.ntmps69
  go_wp2
  rw [c.ent]
  simp only [Oper.upon]
  have a2 : ∀ (o1 o2 : Obj), Agree h ((w.alloc o1).alloc o2) := fun o1 o2 => ha.of_blocks fun b ⟨o, v, hv⟩ => by
    have hlt := ha.lt hv
    rw [Lib.alloc_old (w.alloc o1) o2 b (by simp; omega), Lib.alloc_old w o1 b hlt]
  refine (c.call h _ _ (a2 _ _) (hu.append hc)).mono ?_
  rintro e w' ⟨h', rfl, ha', hle, hb, hold⟩
  obtain ⟨T, k0⟩ : ∃ T, w'.heap[w.heap.size]? = some (.cells #[.string ⟨#[]⟩, .string ⟨#[]⟩, .string ⟨#[]⟩, .string ⟨#[]⟩, .string ⟨#[]⟩, .string ⟨#[]⟩] T (0, 0)) := ⟨_, by
    rw [hb.block w.heap.size (by simp; omega)]
    exact heap_alloc2_old _ _ _⟩
  obtain ⟨T1, k1⟩ : ∃ T, w'.heap[w.heap.size + 1]? = some (.cells #[.int .i64 0] T (0, 0)) := ⟨_, by
    rw [hb.block (w.heap.size + 1) (by simp)]
    exact heap_alloc2_new _ _ _⟩
  have hbw : Below w.heap.size w w' := (((Below.refl w.heap.size w).alloc (Nat.le_refl _) _).alloc (by simp) _).trans (hb.mono (by simp; omega))
  simp only
  change bodyPostD Tryz.prog Tryz.f69 _ (Exit.panic _) _ _
  refine leaves_cons (f := 115) (args := #[.pointer (some ⟨w.heap.size, 0, none⟩), .pointer (some ⟨w.heap.size + 1, 0, none⟩)]) (by simp) (by simp [go_sem]) ?_
  refine (catch_tri w.heap.size x [] T T1 _ k0 k1).mono ?_
  rintro e u' w'' ⟨rfl, rfl, b1, q0, q1⟩
  have c0 : w''.cell? ⟨w.heap.size, 0, none⟩ = some (.string ⟨#[]⟩) := by rw [Lib.cell_of_heap q0]; rfl
  have c1 : w''.cell? ⟨w.heap.size, 1, none⟩ = some (.string ⟨#[]⟩) := by rw [Lib.cell_of_heap q0]; rfl
  have c2 : w''.cell? ⟨w.heap.size, 2, none⟩ = some (.string ⟨#[]⟩) := by rw [Lib.cell_of_heap q0]; rfl
  have c3 : w''.cell? ⟨w.heap.size, 3, none⟩ = some (.string ⟨#[]⟩) := by rw [Lib.cell_of_heap q0]; rfl
  have c4 : w''.cell? ⟨w.heap.size, 4, none⟩ = some (.string ⟨#[]⟩) := by rw [Lib.cell_of_heap q0]; rfl
  have c5 : w''.cell? ⟨w.heap.size, 5, none⟩ = some (.string ⟨#[]⟩) := by rw [Lib.cell_of_heap q0]; rfl
  have ce : w''.cell? ⟨w.heap.size + 1, 0, none⟩ = some (.int .i64 x) := by rw [Lib.cell_of_heap q1]; rfl
  simp [Leaves, settle, results, Tryz.results69, go_sem, c0, c1, c2, c3, c4, c5, ce]
  have hfin := hbw.trans b1
  refine ⟨h, ?_, ha.of_blocks fun b ⟨o, v, hv⟩ => hfin.block b (ha.lt hv), Pub.Le.refl _, hfin, fun _ _ _ => rfl⟩
  simp only [Den, DenL]
  refine ⟨_, rfl, _, _, rfl, ⟨_, rfl, ⟨_, _, rfl, ⟨rfl, by simp⟩, _, _, rfl, ⟨rfl, by simp⟩, _, _, rfl, ⟨rfl, by simp⟩, _, _, rfl, ⟨rfl, by simp⟩, _, _, rfl, ⟨rfl, by simp⟩, _, _, rfl, ⟨rfl, by simp⟩, rfl⟩, ?_⟩, _, _, rfl, ⟨rfl, hx⟩, rfl⟩
  intro v hv
  simp at hv
  subst hv
  rfl
end Go.Proofs.YtpcpgjcdkgcbpaaGreatDoor
end
section
namespace Go.Proofs.YtpcpgjcdkgcbpaaGreatDoor
open Go Go.V Go.Nb
theorem fsign_t {q : Rat} (hq : okF q = true) : Called Tryz.prog 66 [frT q] (.tup [.int .i64 q.num.sign, .int .i64 0]) := by
  obtain ⟨h, e1⟩ := okP_dec hq
  have r1 := read_ok _ _ h
  rw [e1] at r1
  have sg := sign_c q.num
  unfold rtD at r1
  unfold itD at sg
  unfold frT
  refine called_of_run tbOk 6 ⟨Tryz.func66, rfl, rfl, Nat.le_of_ble_eq_true rfl⟩ ?_
  (conv => whnf)
  refine V.st ?_
  repeat ((try ((with_reducible refine .ext ?_); (conv => whnf))); (with_reducible refine call_intro (r := ?_) ?_ ?_); rotate_left; (focus (first | exact (r1))); (conv => whnf); refine V.st ?_)
  (conv => whnf)
  refine V.st ?_
  repeat ((try ((with_reducible refine .ext ?_); (conv => whnf))); (with_reducible refine call_intro (r := ?_) ?_ ?_); rotate_left; (focus (first | exact (sg))); (conv => whnf); refine V.st ?_)
  exact Fin.of rfl
theorem must_ok (s t : List UInt8) : Called Tryz.prog 116 [.agg [.str s, .str t], .int .i64 0] (.agg [.str s, .str t]) := by
  refine called_of_run tbOk 6 ⟨Tryz.func116, rfl, rfl, Nat.le_of_ble_eq_true rfl⟩ ?_
  (conv => whnf)
  refine V.st ?_
  exact Fin.of rfl
theorem musti_ok (n : Int) (h : InR .i64 n) : Called Tryz.prog 117 [.int .i64 n, .int .i64 0] (.int .i64 n) := by
  refine called_of_run tbOk 6 ⟨Tryz.func117, rfl, rfl, Nat.le_of_ble_eq_true rfl⟩ ?_
  (conv => whnf)
  refine V.st ?_
  exact Fin.of rfl
theorem ladd {a b : Nat} {p q : Rat} (h : Fq a p) (g : Fq b q) (ha : 0 < a) (hb : 0 < b) (hab : a + b + 1 ≤ 600) : Called Tryz.prog 75 [frT p, frT q] (frT (p + q)) := by
  have c := zadd h g ha hb hab
  unfold frT at *
  have m := must_ok
  refine called_of_run tbOk 6 ⟨Tryz.func75, rfl, rfl, Nat.le_of_ble_eq_true rfl⟩ ?_
  (conv => whnf)
  refine V.st ?_
  repeat ((try ((with_reducible refine .ext ?_); (conv => whnf))); (with_reducible refine call_intro (r := ?_) ?_ ?_); rotate_left; (focus (first | exact (c) | exact (m _ _))); (conv => whnf); refine V.st ?_)
  exact Fin.of rfl
theorem lsub {a b : Nat} {p q : Rat} (h : Fq a p) (g : Fq b q) (ha : 0 < a) (hb : 0 < b) (hab : a + b + 1 ≤ 600) : Called Tryz.prog 77 [frT p, frT q] (frT (p - q)) := by
  have c := zsub h g ha hb hab
  unfold frT at *
  have m := must_ok
  refine called_of_run tbOk 6 ⟨Tryz.func77, rfl, rfl, Nat.le_of_ble_eq_true rfl⟩ ?_
  (conv => whnf)
  refine V.st ?_
  repeat ((try ((with_reducible refine .ext ?_); (conv => whnf))); (with_reducible refine call_intro (r := ?_) ?_ ?_); rotate_left; (focus (first | exact (c) | exact (m _ _))); (conv => whnf); refine V.st ?_)
  exact Fin.of rfl
theorem lmul {a b : Nat} {p q : Rat} (h : Fq a p) (g : Fq b q) (ha : 0 < a) (hb : 0 < b) (hab : a + b + 1 ≤ 600) : Called Tryz.prog 76 [frT p, frT q] (frT (p * q)) := by
  have c := zmul h g ha hb hab
  unfold frT at *
  have m := must_ok
  refine called_of_run tbOk 6 ⟨Tryz.func76, rfl, rfl, Nat.le_of_ble_eq_true rfl⟩ ?_
  (conv => whnf)
  refine V.st ?_
  repeat ((try ((with_reducible refine .ext ?_); (conv => whnf))); (with_reducible refine call_intro (r := ?_) ?_ ?_); rotate_left; (focus (first | exact (c) | exact (m _ _))); (conv => whnf); refine V.st ?_)
  exact Fin.of rfl
theorem lsign {n : Nat} {q : Rat} (h : Fq n q) (h0 : 0 < n ∧ n ≤ 600) : Called Tryz.prog 72 [frT q] (.int .i64 q.num.sign) := by
  have c := fsign_t (h.ok h0.1 h0.2)
  have hs : -1 ≤ q.num.sign ∧ q.num.sign ≤ 1 := by
    have := Int.sign_trichotomy q.num
    omega
  have m := musti_ok q.num.sign (by simp [InR, V.lo, V.hi]; omega)
  unfold frT at *
  generalize q.num.sign = sg at *
  refine called_of_run tbOk 6 ⟨Tryz.func72, rfl, rfl, Nat.le_of_ble_eq_true rfl⟩ ?_
  (conv => whnf)
  refine V.st ?_
  repeat ((try ((with_reducible refine .ext ?_); (conv => whnf))); (with_reducible refine call_intro (r := ?_) ?_ ?_); rotate_left; (focus (first | exact (c) | exact (m))); (conv => whnf); refine V.st ?_)
  exact Fin.of rfl
end Go.Proofs.YtpcpgjcdkgcbpaaGreatDoor
end
section
namespace Go.Proofs.YtpcpgjcdkgcbpaaGreatDoor
open Go Go.V Go.Nb
def fst3 (e0 e1 e2 : Int) : Int := if e0 ≠ 0 then e0 else if e1 ≠ 0 then e1 else e2
theorem zZ9_0 : type_of% @Nat.zero_add ∧ type_of% @tn0 ∧ type_of% @tn1 ∧ type_of% @tn2 := ⟨@Nat.zero_add, @tn0, @tn1, @tn2⟩
theorem fractions3 (a0 b0 a1 b1 a2 b2 : List UInt8) (e0 e1 e2 : Int) (c0 : Called Tryz.prog 34 [.agg [.str a0, .str b0]] (.int .i64 e0)) (c1 : Called Tryz.prog 34 [.agg [.str a1, .str b1]] (.int .i64 e1)) (c2 : Called Tryz.prog 34 [.agg [.str a2, .str b2]] (.int .i64 e2)) :
    Called Tryz.prog 68 [.slf 2 3 (fun j => List.take 2 (List.drop (j * 2) [.str a0, .str b0, .str a1, .str b1, .str a2, .str b2]))] (.int .i64 (fst3 e0 e1 e2)) := by
  obtain ⟨R, hR0⟩ : ∃ R, fst3 e0 e1 e2 = R := ⟨_, rfl⟩
  rw [hR0]
  unfold fst3 at hR0
  refine called_of_run tbOk 6 ⟨Tryz.func68, rfl, rfl, Nat.le_of_ble_eq_true rfl⟩ ?_
  (conv => whnf)
  (conv => whnf)
  (try simp only [Nat.zero_add])
  repeat ((first | refine V.s1 ?_); (try simp only [Nat.zero_add]))
  refine lp_any (0) (fun k => k ≤ 3 ∧ (0 < k → e0 = 0) ∧ (1 < k → e1 = 0) ∧ (2 < k → e2 = 0)) (fun k => 3 - k) (fun k => [(8, .int .i64 k)]) (fun k => []) ?_ ?_ ?_
  · exact V.wk
  · exact ⟨Nat.zero_le _, by omega, by omega, by omega⟩
  intro k hk
  obtain ⟨hk, z0, z1, z2⟩ := hk
  have hk4 : k = 0 ∨ k = 1 ∨ k = 2 ∨ k = 3 := by omega
  rcases hk4 with e | e | e | e
  all_goals subst e
  · simp only [k0]
    (conv => whnf)
    (try simp only [zZ9_0])
    repeat ((first | refine V.s1 ?_ | ((try ((with_reducible refine .ext ?_); (conv => whnf); (try simp only [zZ9_0]))); (with_reducible refine call_intro (r := ?_) ?_ ?_); rotate_left; (focus (first | exact (c0))); (conv => whnf))); (try simp only [zZ9_0]))
    refine Cnd.split (CondB.mk (fun hq => ?_) (fun hq => ?_))
    · have hR : R = e0 := by rw [← hR0]; simp at hq; simp [hq]
      rw [hR]
      (conv => whnf)
      (try simp only [Nat.zero_add])
      repeat ((first | refine V.s1 ?_); (try simp only [Nat.zero_add]))
      exact Fin.of rfl
    (conv => whnf)
    (try simp only [Nat.zero_add])
    repeat ((first | refine V.s1 ?_); (try simp only [Nat.zero_add]))
    simp at hq
    exact ⟨1, ⟨by omega, by omega, by omega, by omega⟩, by omega, V.wk⟩
  · simp only [k1]
    have y0 := z0 (by omega)
    (conv => whnf)
    (try simp only [zZ9_0])
    repeat ((first | refine V.s1 ?_ | ((try ((with_reducible refine .ext ?_); (conv => whnf); (try simp only [zZ9_0]))); (with_reducible refine call_intro (r := ?_) ?_ ?_); rotate_left; (focus (first | exact (c1))); (conv => whnf))); (try simp only [zZ9_0]))
    refine Cnd.split (CondB.mk (fun hq => ?_) (fun hq => ?_))
    · have hR : R = e1 := by rw [← hR0]; simp at hq; simp [hq, y0]
      rw [hR]
      (conv => whnf)
      (try simp only [Nat.zero_add])
      repeat ((first | refine V.s1 ?_); (try simp only [Nat.zero_add]))
      exact Fin.of rfl
    (conv => whnf)
    (try simp only [Nat.zero_add])
    repeat ((first | refine V.s1 ?_); (try simp only [Nat.zero_add]))
    simp at hq
    exact ⟨2, ⟨by omega, by omega, by omega, by omega⟩, by omega, V.wk⟩
  · simp only [k2]
    have y0 := z0 (by omega)
    have y1 := z1 (by omega)
    (conv => whnf)
    (try simp only [zZ9_0])
    repeat ((first | refine V.s1 ?_ | ((try ((with_reducible refine .ext ?_); (conv => whnf); (try simp only [zZ9_0]))); (with_reducible refine call_intro (r := ?_) ?_ ?_); rotate_left; (focus (first | exact (c2))); (conv => whnf))); (try simp only [zZ9_0]))
    refine Cnd.split (CondB.mk (fun hq => ?_) (fun hq => ?_))
    · have hR : R = e2 := by rw [← hR0]; simp [y0, y1]
      rw [hR]
      (conv => whnf)
      (try simp only [Nat.zero_add])
      repeat ((first | refine V.s1 ?_); (try simp only [Nat.zero_add]))
      exact Fin.of rfl
    (conv => whnf)
    (try simp only [Nat.zero_add])
    repeat ((first | refine V.s1 ?_); (try simp only [Nat.zero_add]))
    simp at hq
    exact ⟨3, ⟨by omega, by omega, by omega, by omega⟩, by omega, V.wk⟩
  · simp only [k3]
    have y0 := z0 (by omega)
    have y1 := z1 (by omega)
    have y2 := z2 (by omega)
    have hR : R = 0 := by rw [← hR0]; simp [y0, y1, y2]
    rw [hR]
    (conv => whnf)
    (try simp only [Nat.zero_add])
    repeat ((first | refine V.s1 ?_); (try simp only [Nat.zero_add]))
    exact Fin.of rfl
theorem fst3_ok (a0 b0 a1 b1 a2 b2 : List UInt8) : fst3 (if okP a0 b0 then 0 else 20) (if okP a1 b1 then 0 else 20) (if okP a2 b2 then 0 else 20) = if okP a0 b0 && okP a1 b1 && okP a2 b2 then 0 else 20 := by
  unfold fst3
  cases okP a0 b0 <;> cases okP a1 b1 <;> cases okP a2 b2 <;> rfl
end Go.Proofs.YtpcpgjcdkgcbpaaGreatDoor
end
section
namespace Go.Proofs.YtpcpgjcdkgcbpaaGreatDoor
open Go Go.V Go.Nb
theorem numbers_c (a0 b0 a1 b1 a2 b2 : List UInt8) : Called Tryz.prog 65 [.agg [.str a0, .str b0, .str a1, .str b1, .str a2, .str b2]] (.fn 114 [] [.ref [.str a0, .str b0, .str a1, .str b1, .str a2, .str b2]]) := by
  refine called_of_run tbOk 6 ⟨Tryz.func65, rfl, rfl, Nat.le_of_ble_eq_true rfl⟩ ?_
  (conv => whnf)
  refine V.st ?_
  exact Fin.of rfl
theorem zZ10_0 : type_of% @Nat.zero_add ∧ type_of% @tn0 ∧ type_of% @tn1 ∧ type_of% @tn2 := ⟨@Nat.zero_add, @tn0, @tn1, @tn2⟩
theorem lcheck_ok (a0 b0 a1 b1 a2 b2 : List UInt8) (g0 g1 g2 : Int) (hg0 : -1 ≤ g0 ∧ g0 ≤ 1) (hg1 : -1 ≤ g1 ∧ g1 ≤ 1) (hg2 : -1 ≤ g2 ∧ g2 ≤ 1)
    (fr : Called Tryz.prog 68 [.slf 2 3 (fun j => List.take 2 (List.drop (j * 2) [.str a0, .str b0, .str a1, .str b1, .str a2, .str b2]))] (.int .i64 0))
    (s0 : Called Tryz.prog 66 [.agg [.str a0, .str b0]] (.tup [.int .i64 g0, .int .i64 0])) (s1 : Called Tryz.prog 66 [.agg [.str a1, .str b1]] (.tup [.int .i64 g1, .int .i64 0])) (s2 : Called Tryz.prog 66 [.agg [.str a2, .str b2]] (.tup [.int .i64 g2, .int .i64 0])) :
    Called Tryz.prog 64 [.agg [.str a0, .str b0, .str a1, .str b1, .str a2, .str b2]] (.int .i64 (if g0 < 0 ∨ g1 < 0 ∨ g2 < 0 then 2 else 0)) := by
  obtain ⟨R, hR0⟩ : ∃ R : Int, (if g0 < 0 ∨ g1 < 0 ∨ g2 < 0 then 2 else 0) = R := ⟨_, rfl⟩
  rw [hR0]
  have hn := numbers_c a0 b0 a1 b1 a2 b2
  refine called_of_run tbOk 6 ⟨Tryz.func64, rfl, rfl, Nat.le_of_ble_eq_true rfl⟩ ?_
  (conv => whnf)
  (conv => whnf)
  (try simp only [Nat.zero_add])
  repeat ((first | refine V.s1 ?_ | ((try ((with_reducible refine .ext ?_); (conv => whnf); (try simp only [Nat.zero_add]))); (with_reducible refine call_intro (r := ?_) ?_ ?_); rotate_left; (focus (first | exact (fr) | exact (hn))); (conv => whnf))); (try simp only [Nat.zero_add]))
  refine ⟨_, _, ⟨Tryz.func114, rfl, rfl, Nat.le_of_ble_eq_true rfl⟩, ?_⟩
  (conv => whnf)
  (conv => whnf)
  (try simp only [Nat.zero_add])
  repeat ((first | refine V.s1 ?_); (try simp only [Nat.zero_add]))
  refine lp_any (0) (fun k => k ≤ 3 ∧ (0 < k → ¬ g0 < 0) ∧ (1 < k → ¬ g1 < 0) ∧ (2 < k → ¬ g2 < 0)) (fun k => 3 - k) (fun k => [(6, .int .i64 k)]) (fun k => [(24, .lp none)]) ?_ ?_ ?_
  · exact V.wk
  · exact ⟨Nat.zero_le _, by omega, by omega, by omega⟩
  intro k hk
  obtain ⟨hk, z0, z1, z2⟩ := hk
  have hk4 : k = 0 ∨ k = 1 ∨ k = 2 ∨ k = 3 := by omega
  rcases hk4 with e | e | e | e
  all_goals subst e
  · simp only [k0]
    (conv => whnf)
    (try simp only [zZ10_0])
    repeat ((first | refine V.s1 ?_ | ((try ((with_reducible refine .ext ?_); (conv => whnf); (try simp only [zZ10_0]))); (with_reducible refine call_intro (r := ?_) ?_ ?_); rotate_left; (focus (first | exact (s0))); (conv => whnf))); (try simp only [zZ10_0]))
    refine Cnd.split (CondB.mk (fun hq => ?_) (fun hq => ?_))
    · have hR : R = 2 := by
        rw [← hR0]
        simp at hq
        rw [if_pos (by omega)]
      rw [hR]
      (conv => whnf)
      (try simp only [Nat.zero_add])
      repeat ((first | refine V.s1 ?_); (try simp only [Nat.zero_add]))
      exact Fin.of rfl
    (conv => whnf)
    (try simp only [Nat.zero_add])
    repeat ((first | refine V.s1 ?_); (try simp only [Nat.zero_add]))
    simp at hq
    exact ⟨1, ⟨by omega, by omega, by omega, by omega⟩, by omega, V.wk⟩
  · simp only [k1]
    have y0 := z0 (by omega)
    (conv => whnf)
    (try simp only [zZ10_0])
    repeat ((first | refine V.s1 ?_ | ((try ((with_reducible refine .ext ?_); (conv => whnf); (try simp only [zZ10_0]))); (with_reducible refine call_intro (r := ?_) ?_ ?_); rotate_left; (focus (first | exact (s1))); (conv => whnf))); (try simp only [zZ10_0]))
    refine Cnd.split (CondB.mk (fun hq => ?_) (fun hq => ?_))
    · have hR : R = 2 := by
        rw [← hR0]
        simp at hq
        rw [if_pos (by omega)]
      rw [hR]
      (conv => whnf)
      (try simp only [Nat.zero_add])
      repeat ((first | refine V.s1 ?_); (try simp only [Nat.zero_add]))
      exact Fin.of rfl
    (conv => whnf)
    (try simp only [Nat.zero_add])
    repeat ((first | refine V.s1 ?_); (try simp only [Nat.zero_add]))
    simp at hq
    exact ⟨2, ⟨by omega, by omega, by omega, by omega⟩, by omega, V.wk⟩
  · simp only [k2]
    have y0 := z0 (by omega)
    have y1 := z1 (by omega)
    (conv => whnf)
    (try simp only [zZ10_0])
    repeat ((first | refine V.s1 ?_ | ((try ((with_reducible refine .ext ?_); (conv => whnf); (try simp only [zZ10_0]))); (with_reducible refine call_intro (r := ?_) ?_ ?_); rotate_left; (focus (first | exact (s2))); (conv => whnf))); (try simp only [zZ10_0]))
    refine Cnd.split (CondB.mk (fun hq => ?_) (fun hq => ?_))
    · have hR : R = 2 := by
        rw [← hR0]
        simp at hq
        rw [if_pos (by omega)]
      rw [hR]
      (conv => whnf)
      (try simp only [Nat.zero_add])
      repeat ((first | refine V.s1 ?_); (try simp only [Nat.zero_add]))
      exact Fin.of rfl
    (conv => whnf)
    (try simp only [Nat.zero_add])
    repeat ((first | refine V.s1 ?_); (try simp only [Nat.zero_add]))
    simp at hq
    exact ⟨3, ⟨by omega, by omega, by omega, by omega⟩, by omega, V.wk⟩
  · simp only [k3]
    have y0 := z0 (by omega)
    have y1 := z1 (by omega)
    have y2 := z2 (by omega)
    have hR : R = 0 := by
      rw [← hR0, if_neg (by omega)]
    rw [hR]
    (conv => whnf)
    (try simp only [Nat.zero_add])
    repeat ((first | refine V.s1 ?_); (try simp only [Nat.zero_add]))
    exact Fin.of rfl
end Go.Proofs.YtpcpgjcdkgcbpaaGreatDoor
end
section
namespace Go.Proofs.YtpcpgjcdkgcbpaaGreatDoor
open Go Go.V Go.Nb
theorem rsign_t {n : Nat} {q : Rat} (h : Fq n q) (h0 : 0 < n ∧ n ≤ 600) : Called Tryz.prog 83 [frT q] (.int .i64 (ordQ q (Rat.divInt 0 1))) := by
  obtain ⟨h1, e1⟩ := okP_dec (h.ok h0.1 h0.2)
  have r1 := right02_c _ _ (okP_len h1).1 (okP_len h1).2
  rw [h1] at r1
  have i1 := in02_c _ _ h1
  rw [e1] at i1
  have q1 := q4_qv h1
  rw [e1] at q1
  have qk := quick_c 0 1 (by simp [InR, V.lo, V.hi]) (by simp [InR, V.lo, V.hi]) (by omega)
  have od := order02_c q (Rat.divInt 0 1) (q1.mono (by omega)) (Q4.of (k := 40000000) (Sm.mono (k := 1) (Sm.lit (by decide)) (by omega)) (Sm.mono (k := 1) (Sm.lit (by decide)) (by omega)) (by omega))
  unfold frT
  generalize ordQ q (Rat.divInt 0 1) = w at *
  have sg : Called Tryz.prog 126 [.agg [.str (decZ q.num), .str (dec q.den)]] (.tup [.int .i64 w, .int .i64 0]) := by
    refine called_of_run tbOk 6 ⟨Tryz.func126, rfl, rfl, Nat.le_of_ble_eq_true rfl⟩ ?_
    (conv => whnf)
    refine V.st ?_
    repeat ((try ((with_reducible refine .ext ?_); (conv => whnf))); (with_reducible refine call_intro (r := ?_) ?_ ?_); rotate_left; (focus (first | exact (r1))); (conv => whnf); refine V.st ?_)
    (conv => whnf)
    refine V.st ?_
    repeat ((try ((with_reducible refine .ext ?_); (conv => whnf))); (with_reducible refine call_intro (r := ?_) ?_ ?_); rotate_left; (focus (first | exact (i1) | exact (qk) | exact (od))); (conv => whnf); refine V.st ?_)
    exact Fin.of rfl
  refine called_of_run tbOk 6 ⟨Tryz.func83, rfl, rfl, Nat.le_of_ble_eq_true rfl⟩ ?_
  (conv => whnf)
  refine V.st ?_
  repeat ((try ((with_reducible refine .ext ?_); (conv => whnf))); (with_reducible refine call_intro (r := ?_) ?_ ?_); rotate_left; (focus (first | exact (sg))); (conv => whnf); refine V.st ?_)
  exact Fin.of rfl
theorem zZ11_0 : type_of% @Nat.zero_add ∧ type_of% @tn0 ∧ type_of% @tn1 ∧ type_of% @tn2 := ⟨@Nat.zero_add, @tn0, @tn1, @tn2⟩
theorem lsound_ok (a0 b0 a1 b1 a2 b2 : List UInt8) (g0 g1 g2 : Int) (hg0 : -1 ≤ g0 ∧ g0 ≤ 1) (hg1 : -1 ≤ g1 ∧ g1 ≤ 1) (hg2 : -1 ≤ g2 ∧ g2 ≤ 1)
    (ck : Called Tryz.prog 64 [.agg [.str a0, .str b0, .str a1, .str b1, .str a2, .str b2]] (.int .i64 0))
    (s0 : Called Tryz.prog 66 [.agg [.str a0, .str b0]] (.tup [.int .i64 g0, .int .i64 0])) (s1 : Called Tryz.prog 66 [.agg [.str a1, .str b1]] (.tup [.int .i64 g1, .int .i64 0])) (s2 : Called Tryz.prog 66 [.agg [.str a2, .str b2]] (.tup [.int .i64 g2, .int .i64 0])) :
    Called Tryz.prog 30 [.agg [.str a0, .str b0, .str a1, .str b1, .str a2, .str b2]] (.int .i64 (if g0 = 0 ∨ g1 = 0 ∨ g2 = 0 then 2 else 0)) := by
  obtain ⟨R, hR0⟩ : ∃ R : Int, (if g0 = 0 ∨ g1 = 0 ∨ g2 = 0 then 2 else 0) = R := ⟨_, rfl⟩
  rw [hR0]
  have hn := numbers_c a0 b0 a1 b1 a2 b2
  refine called_of_run tbOk 6 ⟨Tryz.func30, rfl, rfl, Nat.le_of_ble_eq_true rfl⟩ ?_
  (conv => whnf)
  (conv => whnf)
  (try simp only [zZ11_0])
  repeat ((first | refine V.s1 ?_ | ((try ((with_reducible refine .ext ?_); (conv => whnf); (try simp only [zZ11_0]))); (with_reducible refine call_intro (r := ?_) ?_ ?_); rotate_left; (focus (first | exact (ck) | exact (hn))); (conv => whnf))); (try simp only [zZ11_0]))
  refine ⟨_, _, ⟨Tryz.func114, rfl, rfl, Nat.le_of_ble_eq_true rfl⟩, ?_⟩
  (conv => whnf)
  (conv => whnf)
  (try simp only [Nat.zero_add])
  repeat ((first | refine V.s1 ?_); (try simp only [Nat.zero_add]))
  refine lp_any (0) (fun k => k ≤ 3 ∧ (0 < k → ¬ g0 = 0) ∧ (1 < k → ¬ g1 = 0) ∧ (2 < k → ¬ g2 = 0)) (fun k => 3 - k) (fun k => [(6, .int .i64 k)]) (fun k => [(24, .lp none)]) ?_ ?_ ?_
  · exact V.wk
  · exact ⟨Nat.zero_le _, by omega, by omega, by omega⟩
  intro k hk
  obtain ⟨hk, z0, z1, z2⟩ := hk
  have hk4 : k = 0 ∨ k = 1 ∨ k = 2 ∨ k = 3 := by omega
  rcases hk4 with e | e | e | e
  all_goals subst e
  · simp only [k0]
    skip
    skip
    (conv => whnf)
    (try simp only [zZ11_0])
    repeat ((first | refine V.s1 ?_ | ((try ((with_reducible refine .ext ?_); (conv => whnf); (try simp only [zZ11_0]))); (with_reducible refine call_intro (r := ?_) ?_ ?_); rotate_left; (focus (first | exact (s0))); (conv => whnf))); (try simp only [zZ11_0]))
    refine Cnd.split (CondB.mk (fun hq => ?_) (fun hq => ?_))
    · have hR : R = 2 := by
        rw [← hR0]
        simp at hq
        rw [if_pos (by omega)]
      rw [hR]
      (conv => whnf)
      (try simp only [Nat.zero_add])
      repeat ((first | refine V.s1 ?_); (try simp only [Nat.zero_add]))
      exact Fin.of rfl
    (conv => whnf)
    (try simp only [Nat.zero_add])
    repeat ((first | refine V.s1 ?_); (try simp only [Nat.zero_add]))
    simp at hq
    exact ⟨1, ⟨by omega, by omega, by omega, by omega⟩, by omega, V.wk⟩
  · simp only [k1]
    have y0 := z0 (by omega)
    skip
    (conv => whnf)
    (try simp only [zZ11_0])
    repeat ((first | refine V.s1 ?_ | ((try ((with_reducible refine .ext ?_); (conv => whnf); (try simp only [zZ11_0]))); (with_reducible refine call_intro (r := ?_) ?_ ?_); rotate_left; (focus (first | exact (s1))); (conv => whnf))); (try simp only [zZ11_0]))
    refine Cnd.split (CondB.mk (fun hq => ?_) (fun hq => ?_))
    · have hR : R = 2 := by
        rw [← hR0]
        simp at hq
        rw [if_pos (by omega)]
      rw [hR]
      (conv => whnf)
      (try simp only [Nat.zero_add])
      repeat ((first | refine V.s1 ?_); (try simp only [Nat.zero_add]))
      exact Fin.of rfl
    (conv => whnf)
    (try simp only [Nat.zero_add])
    repeat ((first | refine V.s1 ?_); (try simp only [Nat.zero_add]))
    simp at hq
    exact ⟨2, ⟨by omega, by omega, by omega, by omega⟩, by omega, V.wk⟩
  · simp only [k2]
    have y0 := z0 (by omega)
    have y1 := z1 (by omega)
    (conv => whnf)
    (try simp only [zZ11_0])
    repeat ((first | refine V.s1 ?_ | ((try ((with_reducible refine .ext ?_); (conv => whnf); (try simp only [zZ11_0]))); (with_reducible refine call_intro (r := ?_) ?_ ?_); rotate_left; (focus (first | exact (s2))); (conv => whnf))); (try simp only [zZ11_0]))
    refine Cnd.split (CondB.mk (fun hq => ?_) (fun hq => ?_))
    · have hR : R = 2 := by
        rw [← hR0]
        simp at hq
        rw [if_pos (by omega)]
      rw [hR]
      (conv => whnf)
      (try simp only [Nat.zero_add])
      repeat ((first | refine V.s1 ?_); (try simp only [Nat.zero_add]))
      exact Fin.of rfl
    (conv => whnf)
    (try simp only [Nat.zero_add])
    repeat ((first | refine V.s1 ?_); (try simp only [Nat.zero_add]))
    simp at hq
    exact ⟨3, ⟨by omega, by omega, by omega, by omega⟩, by omega, V.wk⟩
  · simp only [k3]
    have y0 := z0 (by omega)
    have y1 := z1 (by omega)
    have y2 := z2 (by omega)
    have hR : R = 0 := by
      rw [← hR0, if_neg (by omega)]
    rw [hR]
    (conv => whnf)
    (try simp only [Nat.zero_add])
    repeat ((first | refine V.s1 ?_); (try simp only [Nat.zero_add]))
    exact Fin.of rfl
theorem lcheck_no (a0 b0 a1 b1 a2 b2 : List UInt8) (e : Int) (he : e ≠ 0)
    (fr : Called Tryz.prog 68 [.slf 2 3 (fun j => List.take 2 (List.drop (j * 2) [.str a0, .str b0, .str a1, .str b1, .str a2, .str b2]))] (.int .i64 e)) :
    Called Tryz.prog 64 [.agg [.str a0, .str b0, .str a1, .str b1, .str a2, .str b2]] (.int .i64 e) := by
  refine called_of_run tbOk 6 ⟨Tryz.func64, rfl, rfl, Nat.le_of_ble_eq_true rfl⟩ ?_
  (conv => whnf)
  (conv => whnf)
  (try simp only [zZ11_0])
  repeat ((first | refine V.s1 ?_ | ((try ((with_reducible refine .ext ?_); (conv => whnf); (try simp only [zZ11_0]))); (with_reducible refine call_intro (r := ?_) ?_ ?_); rotate_left; (focus (first | exact (fr))); (conv => whnf))); (try simp only [zZ11_0]))
  refine Cnd.split (CondB.mk (fun hq => ?_) (fun hq => ?_))
  · (conv => whnf)
    (try simp only [Nat.zero_add])
    repeat ((first | refine V.s1 ?_); (try simp only [Nat.zero_add]))
    exact Fin.of rfl
  · exfalso
    simp at hq
    exact he hq
theorem lsound_no (a0 b0 a1 b1 a2 b2 : List UInt8) (e : Int) (he : e ≠ 0)
    (ck : Called Tryz.prog 64 [.agg [.str a0, .str b0, .str a1, .str b1, .str a2, .str b2]] (.int .i64 e)) :
    Called Tryz.prog 30 [.agg [.str a0, .str b0, .str a1, .str b1, .str a2, .str b2]] (.int .i64 e) := by
  refine called_of_run tbOk 6 ⟨Tryz.func30, rfl, rfl, Nat.le_of_ble_eq_true rfl⟩ ?_
  (conv => whnf)
  (conv => whnf)
  (try simp only [zZ11_0])
  repeat ((first | refine V.s1 ?_ | ((try ((with_reducible refine .ext ?_); (conv => whnf); (try simp only [zZ11_0]))); (with_reducible refine call_intro (r := ?_) ?_ ?_); rotate_left; (focus (first | exact (ck))); (conv => whnf))); (try simp only [zZ11_0]))
  refine Cnd.split (CondB.mk (fun hq => ?_) (fun hq => ?_))
  · (conv => whnf)
    (try simp only [Nat.zero_add])
    repeat ((first | refine V.s1 ?_); (try simp only [Nat.zero_add]))
    exact Fin.of rfl
  · exfalso
    simp at hq
    exact he hq
end Go.Proofs.YtpcpgjcdkgcbpaaGreatDoor
end
section
namespace Go.Proofs.YtpcpgjcdkgcbpaaGreatDoor
open Go Go.V Go.Nb
theorem ordQ_zero (q : Rat) : ordQ q (Rat.divInt 0 1) = q.num.sign := by
  have h0 : Rat.divInt 0 1 = 0 := by simp
  rw [h0]
  unfold ordQ
  rcases Int.lt_trichotomy q.num 0 with h | h | h
  · have : q < 0 := by
      rw [← Rat.not_le]
      intro hn
      have := Rat.num_nonneg.2 hn
      omega
    rw [if_pos this, Int.sign_eq_neg_one_of_neg h]
  · have : q = 0 := Rat.num_eq_zero.1 h
    rw [if_neg (by rw [this]; exact Rat.lt_irrefl), if_pos this, h]
    rfl
  · have hq : ¬ q < 0 := by
      rw [Rat.not_lt]
      exact Rat.num_nonneg.1 (by omega)
    have hz : ¬ q = 0 := fun e => by
      rw [e] at h
      exact absurd h (by decide)
    rw [if_neg hq, if_neg hz, Int.sign_eq_one_of_pos h]
theorem sgn_bd (z : Int) : -1 ≤ z.sign ∧ z.sign ≤ 1 := by
  have := Int.sign_trichotomy z
  omega
theorem sgn_lt (z : Int) : (z.sign < 0) = (z < 0) := by
  apply propext
  rw [Int.sign_neg_iff]
theorem sgn_eq (z : Int) : (z.sign = 0) = (z = 0) := by
  apply propext
  exact Int.sign_eq_zero_iff_zero
theorem lsgn_x {n : Nat} {x : Tx} (h : okX x = true) (b : BdX n x) (h0 : 0 < n ∧ n ≤ 600) : Called Tryz.prog 66 [.agg [.str x.1, .str x.2]] (.tup [.int .i64 (qX x).num.sign, .int .i64 0]) := by
  have e := txD_q h
  unfold txD at e
  rw [e]
  exact fsign_t ((b.2 h).ok h0.1 h0.2)
theorem rsgn_x {n : Nat} {x : Tx} (h : okX x = true) (b : BdX n x) (h0 : 0 < n ∧ n ≤ 600) : Called Tryz.prog 83 [.agg [.str x.1, .str x.2]] (.int .i64 (qX x).num.sign) := by
  have e := txD_q h
  unfold txD at e
  have r := rsign_t (b.2 h) h0
  rw [ordQ_zero] at r
  rw [e]
  exact r
theorem chk3_if {x y z : Tx} (h : (okX x && okX y && okX z) = true) : chk3 x y z = if (qX x).num < 0 ∨ (qX y).num < 0 ∨ (qX z).num < 0 then 2 else 0 := by
  unfold chk3
  rw [if_pos h]
theorem chk3_bad {x y z : Tx} (h : ¬ (okX x && okX y && okX z) = true) : chk3 x y z = 20 := by
  unfold chk3
  rw [if_neg h]
theorem snd3_bad {x y z : Tx} (h : ¬ (okX x && okX y && okX z) = true) : snd3 x y z = 20 := by
  unfold snd3
  rw [chk3_bad h]
  rfl
theorem lchk_c {n : Nat} {x y z : Tx} (bx : BdX n x) (b_y : BdX n y) (bz : BdX n z) (h0 : 0 < n ∧ n ≤ 600) :
    Called Tryz.prog 64 [triD x y z] (.int .i64 (chk3 x y z)) ∧ Called Tryz.prog 30 [triD x y z] (.int .i64 (snd3 x y z)) := by
  have f1 := fractions3 x.1 x.2 y.1 y.2 z.1 z.2 _ _ _ (fcheck_c _ _ bx.1.1 bx.1.2) (fcheck_c _ _ b_y.1.1 b_y.1.2) (fcheck_c _ _ bz.1.1 bz.1.2)
  rw [fst3_ok] at f1
  have hc : (okP x.1 x.2 && okP y.1 y.2 && okP z.1 z.2) = (okX x && okX y && okX z) := rfl
  rw [hc] at f1
  by_cases h : (okX x && okX y && okX z) = true
  · rw [if_pos h] at f1
    have e1 := chk3_if h
    simp only [Bool.and_eq_true] at h
    obtain ⟨⟨hx, hy⟩, hz⟩ := h
    have sx := lsgn_x hx bx h0
    have sy := lsgn_x hy b_y h0
    have sz := lsgn_x hz bz h0
    have g1 := lcheck_ok _ _ _ _ _ _ _ _ _ (sgn_bd _) (sgn_bd _) (sgn_bd _) f1 sx sy sz
    simp only [sgn_lt] at g1
    rw [← e1] at g1
    have hs : snd3 x y z = if chk3 x y z = 0 then (if (qX x).num = 0 ∨ (qX y).num = 0 ∨ (qX z).num = 0 then 2 else 0) else chk3 x y z := rfl
    by_cases h2 : chk3 x y z = 0
    · rw [if_pos h2] at hs
      have k1 := g1
      rw [h2] at k1
      have g3 := lsound_ok _ _ _ _ _ _ _ _ _ (sgn_bd _) (sgn_bd _) (sgn_bd _) k1 sx sy sz
      simp only [sgn_eq] at g3
      rw [← hs] at g3
      exact ⟨g1, g3⟩
    · rw [if_neg h2] at hs
      refine ⟨g1, ?_⟩
      rw [hs]
      exact lsound_no _ _ _ _ _ _ _ h2 g1
  · rw [if_neg h] at f1
    have g1 := lcheck_no _ _ _ _ _ _ _ (by omega) f1
    refine ⟨by rw [chk3_bad h]; exact g1, ?_⟩
    rw [snd3_bad h]
    exact lsound_no _ _ _ _ _ _ _ (by omega) g1
end Go.Proofs.YtpcpgjcdkgcbpaaGreatDoor
end
section
namespace Go.Proofs.YtpcpgjcdkgcbpaaGreatDoor
open Go Go.V Go.Nb
theorem zY34_0 : type_of% @Nat.zero_add ∧ type_of% @dec_refl ∧ type_of% @dec_reflz ∧ type_of% @tn0 ∧ type_of% @tn1 ∧ type_of% @tn2 := ⟨@Nat.zero_add, @dec_refl, @dec_reflz, @tn0, @tn1, @tn2⟩
theorem flatlaw_t (n d s : Int) (l : Int) (t0 t1 u0 u1 o0 o1 w0 w1 a0 a1 b0 b1 c0 c1 : List UInt8) (f : Nat → Tx)
    (cl : Called Tryz.prog 23 [.int .u8 s] (.int .i64 l)) (cs : Called Tryz.prog 15 [.agg [.int .i16 n, .int .u8 d]] (.agg [.str t0, .str t1]))
    (cw : Called Tryz.prog 19 [.int .i64 l] (.tup [.agg [.str u0, .str u1, .str o0, .str o1, .str w0, .str w1], .int .i64 0])) (cf : Called Tryz.prog 17 [.agg [.str t0, .str t1]] (.tup [.agg (spL f), .int .i64 0]))
    (cx : Called Tryz.prog 24 [.agg (spL f), .int .i64 l] (.tup [.agg [.str a0, .str a1, .str b0, .str b1, .str c0, .str c1], .int .i64 0])) (cc : Called Tryz.prog 27 [.agg (spL f)] (.tup [.agg (spL f), .int .i64 0]))
    (co : Called Tryz.prog 22 [.int .i64 1, .int .i64 1] (.agg [.str o0, .str o1])) (ls : Called Tryz.prog 30 [.agg [.str u0, .str u1, .str o0, .str o1, .str w0, .str w1]] (.int .i64 0))
    (m0 : Called Tryz.prog 31 [.agg [.str u0, .str u1], .agg [.str t0, .str t1]] (.tup [.agg [.str a0, .str a1], .int .i64 0]))
    (m1 : Called Tryz.prog 31 [.agg [.str o0, .str o1], .agg [.str t0, .str t1]] (.tup [.agg [.str b0, .str b1], .int .i64 0]))
    (m2 : Called Tryz.prog 31 [.agg [.str w0, .str w1], .agg [.str t0, .str t1]] (.tup [.agg [.str c0, .str c1], .int .i64 0])) :
    Called Tryz.prog 7 [.agg [.int .i16 n, .int .u8 d], .int .u8 s] (.bool true) := by
  refine called_of_run tbOk 6 ⟨Tryz.func7, rfl, rfl, Nat.le_of_ble_eq_true rfl⟩ ?_
  (conv => whnf)
  (conv => whnf)
  (try simp only [Nat.zero_add])
  repeat ((first | refine V.s1 ?_ | ((try ((with_reducible refine .ext ?_); (conv => whnf); (try simp only [Nat.zero_add]))); (with_reducible refine call_intro (r := ?_) ?_ ?_); rotate_left; (focus (first | exact (works_c))); (conv => whnf))); (try simp only [Nat.zero_add]))
  refine ⟨(.take 0 (.take 2 (.ev (.cons 1 [2] (.ev (.cons 3 [] (.ev (.cons 4 [] (.take 5 (.ev (.cons 6 [] (.done) (.nil)))) (.nil))) (.cons 4 [2] (.ev (.cons 3 [] (.take 5 (.ev (.cons 6 [] (.done) (.nil)))) (.nil))) (.nil)))) (.cons 4 [2, 0] (.ev (.cons 1 [2] (.ev (.cons 3 [] (.take 5 (.ev (.cons 6 [] (.done) (.nil)))) (.nil))) (.nil))) (.nil)))))), [], ⟨by kernel_rfl, by kernel_rfl, by kernel_rfl, by kernel_rfl⟩, ?_⟩
  refine drw_meet [(5, .int .i64 l), (6, .box 6 0)] [(6, .box [.str t0, .str t1])] ?_ ?_
  · (conv => whnf); (try simp only [Nat.zero_add])
    repeat' (first | exact V.wk | ((with_reducible refine And.intro ?_ draw_nil); (conv => whnf); (try simp only [Nat.zero_add])) | ((with_reducible first | refine draw_split ?_ ?_ | refine nds_split ?_ ?_) <;> (conv => whnf); (try simp only [Nat.zero_add])) | ((first | refine V.s1 ?_ | ((with_reducible refine recheck_and ?_ ?_); (focus ((conv => whnf); (try simp only [Nat.zero_add]); (repeat ((first | refine V.s1 ?_); (try simp only [Nat.zero_add]))); exact ⟨rfl⟩)); (conv => whnf)) | ((try ((with_reducible refine .ext ?_); (conv => whnf); (try simp only [Nat.zero_add]))); (with_reducible refine call_intro (r := ?_) ?_ ?_); rotate_left; (focus (first | exact (cl) | exact (cs))); (conv => whnf))); (try simp only [Nat.zero_add])) | (refine And.intro ?_ ?_ <;> (conv => whnf); (try simp only [Nat.zero_add])))
  (conv => whnf)
  (try simp only [zY34_0, decide_true, Bool.not_true, Bool.and_true, Bool.and_self, Bool.true_and, Bool.or_false, Bool.false_or])
  repeat ((first | refine V.s1 ?_ | ((try ((with_reducible refine .ext ?_); (conv => whnf); (try simp only [zY34_0, decide_true, Bool.not_true, Bool.and_true, Bool.and_self, Bool.true_and, Bool.or_false, Bool.false_or]))); (with_reducible refine call_intro (r := ?_) ?_ ?_); rotate_left; (focus (first | exact (cw) | exact (cf) | exact (cx) | exact (cc))); (conv => whnf))); (try simp only [zY34_0, decide_true, Bool.not_true, Bool.and_true, Bool.and_self, Bool.true_and, Bool.or_false, Bool.false_or]))
  refine ⟨(.take 0 (.take 1 (.take 2 (.take 3 (.take 4 (.take 5 (.take 6 (.take 7 (.take 8 (.take 9 (.take 10 (.take 11 (.take 12 (.take 13 (.take 14 (.take 15 (.take 16 (.ev (.cons 17 [16, 15] (.take 18 (.take 19 (.take 20 (.take 21 (.take 22 (.take 23 (.take 24 (.take 25 (.take 26 (.ev (.cons 27 [] (.take 28 (.take 29 (.done))) (.nil)))))))))))) (.nil)))))))))))))))))))), [], ⟨by kernel_rfl, by kernel_rfl, by kernel_rfl, by kernel_rfl⟩, ?_⟩
  refine drw_meet [(75, .bool false)] [] ?_ ?_
  · (conv => whnf); (try simp only [zY34_0, decide_true, Bool.not_true, Bool.and_true, Bool.and_self, Bool.true_and, Bool.or_false, Bool.false_or])
    repeat' (first | exact V.wk | ((with_reducible refine And.intro ?_ draw_nil); (conv => whnf); (try simp only [zY34_0, decide_true, Bool.not_true, Bool.and_true, Bool.and_self, Bool.true_and, Bool.or_false, Bool.false_or])) | ((with_reducible first | refine draw_split ?_ ?_ | refine nds_split ?_ ?_) <;> (conv => whnf); (try simp only [zY34_0, decide_true, Bool.not_true, Bool.and_true, Bool.and_self, Bool.true_and, Bool.or_false, Bool.false_or])) | ((first | refine V.s1 ?_ | ((with_reducible refine recheck_and ?_ ?_); (focus ((conv => whnf); (try simp only [zY34_0, decide_true, Bool.not_true, Bool.and_true, Bool.and_self, Bool.true_and, Bool.or_false, Bool.false_or]); (repeat ((first | refine V.s1 ?_); (try simp only [zY34_0, decide_true, Bool.not_true, Bool.and_true, Bool.and_self, Bool.true_and, Bool.or_false, Bool.false_or]))); exact ⟨rfl⟩)); (conv => whnf)) | ((try ((with_reducible refine .ext ?_); (conv => whnf); (try simp only [zY34_0, decide_true, Bool.not_true, Bool.and_true, Bool.and_self, Bool.true_and, Bool.or_false, Bool.false_or]))); (with_reducible refine call_intro (r := ?_) ?_ ?_); rotate_left; (focus (first | exact (co) | exact (ls))); (conv => whnf))); (try simp only [zY34_0, decide_true, Bool.not_true, Bool.and_true, Bool.and_self, Bool.true_and, Bool.or_false, Bool.false_or])) | (refine And.intro ?_ ?_ <;> (conv => whnf); (try simp only [zY34_0, decide_true, Bool.not_true, Bool.and_true, Bool.and_self, Bool.true_and, Bool.or_false, Bool.false_or])))
  (conv => whnf)
  (try simp only [zY34_0, decide_true, Bool.not_true, Bool.and_true, Bool.and_self, Bool.true_and, Bool.or_false, Bool.false_or])
  repeat ((first | refine V.s1 ?_); (try simp only [zY34_0, decide_true, Bool.not_true, Bool.and_true, Bool.and_self, Bool.true_and, Bool.or_false, Bool.false_or]))
  refine lp_any (0) (fun k => k ≤ 3) (fun k => 3 - k) (fun k => [(77, .int .i64 k)]) (fun k => []) ?_ ?_ ?_
  · exact V.wk
  · exact Nat.zero_le _
  intro k hk
  have hk4 : k = 0 ∨ k = 1 ∨ k = 2 ∨ k = 3 := by omega
  rcases hk4 with e | e | e | e
  all_goals subst e
  · simp only [k0]
    (conv => whnf)
    (try simp only [zY34_0, decide_true, Bool.not_true, Bool.and_true, Bool.and_self, Bool.true_and, Bool.or_false, Bool.false_or])
    repeat ((first | refine V.s1 ?_ | ((try ((with_reducible refine .ext ?_); (conv => whnf); (try simp only [zY34_0, decide_true, Bool.not_true, Bool.and_true, Bool.and_self, Bool.true_and, Bool.or_false, Bool.false_or]))); (with_reducible refine call_intro (r := ?_) ?_ ?_); rotate_left; (focus (first | exact (m0))); (conv => whnf))); (try simp only [zY34_0, decide_true, Bool.not_true, Bool.and_true, Bool.and_self, Bool.true_and, Bool.or_false, Bool.false_or]))
    refine ⟨(.take 0 (.take 1 (.take 2 (.take 3 (.take 4 (.take 5 (.take 6 (.take 7 (.take 8 (.done)))))))))), [], ⟨by kernel_rfl, by kernel_rfl, by kernel_rfl, by kernel_rfl⟩, ?_⟩
    refine drw_meet [(95, .bool false)] [] ?_ ?_
    · (conv => whnf); (try simp only [zY34_0, decide_true, Bool.not_true, Bool.and_true, Bool.and_self, Bool.true_and, Bool.or_false, Bool.false_or])
      repeat' (first | exact V.wk | ((with_reducible refine And.intro ?_ draw_nil); (conv => whnf); (try simp only [zY34_0, decide_true, Bool.not_true, Bool.and_true, Bool.and_self, Bool.true_and, Bool.or_false, Bool.false_or])) | ((with_reducible first | refine draw_split ?_ ?_ | refine nds_split ?_ ?_) <;> (conv => whnf); (try simp only [zY34_0, decide_true, Bool.not_true, Bool.and_true, Bool.and_self, Bool.true_and, Bool.or_false, Bool.false_or])) | ((first | refine V.s1 ?_ | ((with_reducible refine recheck_and ?_ ?_); (focus ((conv => whnf); (try simp only [zY34_0, decide_true, Bool.not_true, Bool.and_true, Bool.and_self, Bool.true_and, Bool.or_false, Bool.false_or]); (repeat ((first | refine V.s1 ?_); (try simp only [zY34_0, decide_true, Bool.not_true, Bool.and_true, Bool.and_self, Bool.true_and, Bool.or_false, Bool.false_or]))); exact ⟨rfl⟩)); (conv => whnf))); (try simp only [zY34_0, decide_true, Bool.not_true, Bool.and_true, Bool.and_self, Bool.true_and, Bool.or_false, Bool.false_or])) | (refine And.intro ?_ ?_ <;> (conv => whnf); (try simp only [zY34_0, decide_true, Bool.not_true, Bool.and_true, Bool.and_self, Bool.true_and, Bool.or_false, Bool.false_or])))
    (conv => whnf)
    (try simp only [Nat.zero_add])
    repeat ((first | refine V.s1 ?_); (try simp only [Nat.zero_add]))
    exact ⟨1, by omega, by omega, V.wk⟩
  · simp only [k1]
    (conv => whnf)
    (try simp only [zY34_0, decide_true, Bool.not_true, Bool.and_true, Bool.and_self, Bool.true_and, Bool.or_false, Bool.false_or])
    repeat ((first | refine V.s1 ?_ | ((try ((with_reducible refine .ext ?_); (conv => whnf); (try simp only [zY34_0, decide_true, Bool.not_true, Bool.and_true, Bool.and_self, Bool.true_and, Bool.or_false, Bool.false_or]))); (with_reducible refine call_intro (r := ?_) ?_ ?_); rotate_left; (focus (first | exact (m1))); (conv => whnf))); (try simp only [zY34_0, decide_true, Bool.not_true, Bool.and_true, Bool.and_self, Bool.true_and, Bool.or_false, Bool.false_or]))
    refine ⟨(.take 0 (.take 1 (.take 2 (.take 3 (.take 4 (.take 5 (.take 6 (.take 7 (.take 8 (.done)))))))))), [], ⟨by kernel_rfl, by kernel_rfl, by kernel_rfl, by kernel_rfl⟩, ?_⟩
    refine drw_meet [(95, .bool false)] [] ?_ ?_
    · (conv => whnf); (try simp only [zY34_0, decide_true, Bool.not_true, Bool.and_true, Bool.and_self, Bool.true_and, Bool.or_false, Bool.false_or])
      repeat' (first | exact V.wk | ((with_reducible refine And.intro ?_ draw_nil); (conv => whnf); (try simp only [zY34_0, decide_true, Bool.not_true, Bool.and_true, Bool.and_self, Bool.true_and, Bool.or_false, Bool.false_or])) | ((with_reducible first | refine draw_split ?_ ?_ | refine nds_split ?_ ?_) <;> (conv => whnf); (try simp only [zY34_0, decide_true, Bool.not_true, Bool.and_true, Bool.and_self, Bool.true_and, Bool.or_false, Bool.false_or])) | ((first | refine V.s1 ?_ | ((with_reducible refine recheck_and ?_ ?_); (focus ((conv => whnf); (try simp only [zY34_0, decide_true, Bool.not_true, Bool.and_true, Bool.and_self, Bool.true_and, Bool.or_false, Bool.false_or]); (repeat ((first | refine V.s1 ?_); (try simp only [zY34_0, decide_true, Bool.not_true, Bool.and_true, Bool.and_self, Bool.true_and, Bool.or_false, Bool.false_or]))); exact ⟨rfl⟩)); (conv => whnf))); (try simp only [zY34_0, decide_true, Bool.not_true, Bool.and_true, Bool.and_self, Bool.true_and, Bool.or_false, Bool.false_or])) | (refine And.intro ?_ ?_ <;> (conv => whnf); (try simp only [zY34_0, decide_true, Bool.not_true, Bool.and_true, Bool.and_self, Bool.true_and, Bool.or_false, Bool.false_or])))
    (conv => whnf)
    (try simp only [Nat.zero_add])
    repeat ((first | refine V.s1 ?_); (try simp only [Nat.zero_add]))
    exact ⟨2, by omega, by omega, V.wk⟩
  · simp only [k2]
    (conv => whnf)
    (try simp only [zY34_0, decide_true, Bool.not_true, Bool.and_true, Bool.and_self, Bool.true_and, Bool.or_false, Bool.false_or])
    repeat ((first | refine V.s1 ?_ | ((try ((with_reducible refine .ext ?_); (conv => whnf); (try simp only [zY34_0, decide_true, Bool.not_true, Bool.and_true, Bool.and_self, Bool.true_and, Bool.or_false, Bool.false_or]))); (with_reducible refine call_intro (r := ?_) ?_ ?_); rotate_left; (focus (first | exact (m2))); (conv => whnf))); (try simp only [zY34_0, decide_true, Bool.not_true, Bool.and_true, Bool.and_self, Bool.true_and, Bool.or_false, Bool.false_or]))
    refine ⟨(.take 0 (.take 1 (.take 2 (.take 3 (.take 4 (.take 5 (.take 6 (.take 7 (.take 8 (.done)))))))))), [], ⟨by kernel_rfl, by kernel_rfl, by kernel_rfl, by kernel_rfl⟩, ?_⟩
    refine drw_meet [(95, .bool false)] [] ?_ ?_
    · (conv => whnf); (try simp only [zY34_0, decide_true, Bool.not_true, Bool.and_true, Bool.and_self, Bool.true_and, Bool.or_false, Bool.false_or])
      repeat' (first | exact V.wk | ((with_reducible refine And.intro ?_ draw_nil); (conv => whnf); (try simp only [zY34_0, decide_true, Bool.not_true, Bool.and_true, Bool.and_self, Bool.true_and, Bool.or_false, Bool.false_or])) | ((with_reducible first | refine draw_split ?_ ?_ | refine nds_split ?_ ?_) <;> (conv => whnf); (try simp only [zY34_0, decide_true, Bool.not_true, Bool.and_true, Bool.and_self, Bool.true_and, Bool.or_false, Bool.false_or])) | ((first | refine V.s1 ?_ | ((with_reducible refine recheck_and ?_ ?_); (focus ((conv => whnf); (try simp only [zY34_0, decide_true, Bool.not_true, Bool.and_true, Bool.and_self, Bool.true_and, Bool.or_false, Bool.false_or]); (repeat ((first | refine V.s1 ?_); (try simp only [zY34_0, decide_true, Bool.not_true, Bool.and_true, Bool.and_self, Bool.true_and, Bool.or_false, Bool.false_or]))); exact ⟨rfl⟩)); (conv => whnf))); (try simp only [zY34_0, decide_true, Bool.not_true, Bool.and_true, Bool.and_self, Bool.true_and, Bool.or_false, Bool.false_or])) | (refine And.intro ?_ ?_ <;> (conv => whnf); (try simp only [zY34_0, decide_true, Bool.not_true, Bool.and_true, Bool.and_self, Bool.true_and, Bool.or_false, Bool.false_or])))
    (conv => whnf)
    (try simp only [Nat.zero_add])
    repeat ((first | refine V.s1 ?_); (try simp only [Nat.zero_add]))
    exact ⟨3, by omega, by omega, V.wk⟩
  · simp only [k3]
    (conv => whnf)
    (try simp only [Nat.zero_add])
    repeat ((first | refine V.s1 ?_); (try simp only [Nat.zero_add]))
    exact Fin.of rfl
end Go.Proofs.YtpcpgjcdkgcbpaaGreatDoor
end
section
namespace Go.Proofs.YtpcpgjcdkgcbpaaGreatDoor
open Go Go.V Go.Nb
theorem divInt_cast (n : Int) (d : Int) : Rat.divInt n d = (n : Rat) * (d : Rat)⁻¹ := by
  rw [Rat.divInt_eq_div, Rat.div_def]
def cN (n : Nat → Int) (i : Nat) : Int :=
  if i = 0 then 1083 * n 0 - 83 * n 1
  else if i = 15 then 1083 * n 15 - 83 * n 14
  else 1166 * n i - 83 * n (i - 1) - 83 * n (i + 1)
theorem u5 : ((100000 : Int) : Rat)⁻¹ = ((100 : Int) : Rat)⁻¹ * ((1000 : Int) : Rat)⁻¹ := by decide +kernel
theorem cor_hund (n : Nat → Int) (i : Nat) : corQ (fun k => Rat.divInt (n k) 100) i = Rat.divInt (cN n i) 100000 := by
  unfold corQ cN
  by_cases h0 : i = 0
  · rw [if_pos h0, if_pos h0]
    simp only [divInt_cast, Rat.intCast_sub, Rat.intCast_mul, u5]
    grind
  · rw [if_neg h0, if_neg h0]
    by_cases h1 : i = 15
    · rw [if_pos h1, if_pos h1]
      simp only [divInt_cast, Rat.intCast_sub, Rat.intCast_mul, u5]
      grind
    · rw [if_neg h1, if_neg h1]
      simp only [divInt_cast, Rat.intCast_sub, Rat.intCast_mul, u5]
      grind
theorem sumQ_divInt (m : Nat → Int) (d : Int) : ∀ k, sumQ (fun i => Rat.divInt (m i) d) k = Rat.divInt (si m k) d
  | 0 => by simp [sumQ, si]
  | k + 1 => by
    simp only [sumQ, si]
    rw [sumQ_divInt m d k]
    simp only [divInt_cast, Rat.intCast_add]
    grind
theorem cN_bd {n : Nat → Int} (h : ∀ k, 0 ≤ n k ∧ n k ≤ 200) (i : Nat) : -33200 ≤ cN n i ∧ cN n i ≤ 233200 := by
  unfold cN
  have h0 := h 0
  have h1 := h 1
  have h2 := h 14
  have h3 := h 15
  have h4 := h i
  have h5 := h (i - 1)
  have h6 := h (i + 1)
  split
  · omega
  · split <;> omega
theorem si_bd {m : Nat → Int} {c : Int} (hc : 0 ≤ c) (h : ∀ k, -c ≤ m k ∧ m k ≤ c) : ∀ k, k ≤ 16 → -(16 * c) ≤ si m k ∧ si m k ≤ 16 * c := by
  have key : ∀ k : Nat, -(k * c) ≤ si m k ∧ si m k ≤ k * c := fun k => by
    induction k with
    | zero => simp [si]
    | succ k ih =>
      simp only [si]
      have := h k
      rw [Int.natCast_add, Int.add_mul]
      omega
  intro k hk
  have := key k
  have h2 : (k : Int) * c ≤ 16 * c := Int.mul_le_mul_of_nonneg_right (by omega) hc
  omega
theorem fq_cor {n : Nat → Int} (h : ∀ k, 0 ≤ n k ∧ n k ≤ 200) (i : Nat) : Fq 6 (Rat.divInt (cN n i) 100000) := by
  have := cN_bd h i
  exact fq_divInt (d := 100000) (by omega) (by omega) (by omega)
theorem fq_sumc {n : Nat → Int} (h : ∀ k, 0 ≤ n k ∧ n k ≤ 200) {k : Nat} (hk : k ≤ 16) : Fq 8 (sumQ (fun i => Rat.divInt (cN n i) 100000) k) := by
  rw [sumQ_divInt]
  have := si_bd (m := cN n) (c := 233200) (by omega) (fun k => by have := cN_bd h k; omega) k hk
  exact fq_divInt (d := 100000) (by omega) (by omega) (by omega)
theorem fq_sumd {n : Nat → Int} (h : ∀ k, 0 ≤ n k ∧ n k ≤ 200) {k : Nat} (hk : k ≤ 16) : Fq 8 (sumQ (fun i => Rat.divInt (n i) 100) k) := by
  rw [sumQ_divInt]
  have := si_bd (m := n) (c := 200) (by omega) (fun k => by have := h k; omega) k hk
  exact fq_divInt (d := 100) (by omega) (by omega) (by omega)
theorem fq_shr {n d : Int} (hd : 0 ≤ d ∧ d ≤ 255) : Fq 3 (shQ n d) := by
  have hb := shN_bd n d hd
  unfold shQ
  obtain ⟨m, hm⟩ : ∃ m : Nat, 1 + d = m := ⟨(1 + d).toNat, by omega⟩
  rw [hm] at hb ⊢
  exact fq_divInt (by omega) (by omega) (by omega)
theorem fq_dr {ds : List Int} (hd : ∀ n ∈ ds, 0 ≤ n ∧ n ≤ 255) (k : Nat) : Fq 3 (drQ ds k) := by
  have := drN_bd hd k
  exact fq_divInt (d := 100) (by omega) (by omega) (by omega)
theorem mix_sp {a b : Nat → Rat} {t : Rat} (ha : SpQ a) (hb : SpQ b) (fa : ∀ k, Fq 3 (a k)) (fb : ∀ k, Fq 3 (b k)) (ft : Fq 3 t) (h0 : 0 ≤ t) (h1 : t ≤ 1) : SpQ fun i => mixQ t (a i) (b i) := fun k => by
  have hx := (ha k).2
  have hy := (hb k).2
  have h2 : 0 ≤ 1 - t := by grind
  refine ⟨(((y_one.sub ft).mul (fa k)).add (ft.mul (fb k))).mono (by omega), ?_, ?_⟩
  · have e1 := Rat.mul_nonneg h2 hx.1
    have e2 := Rat.mul_nonneg h0 hy.1
    unfold mixQ
    grind
  · have e1 := Rat.mul_nonneg h2 (show 0 ≤ 2 - a k by grind)
    have e2 := Rat.mul_nonneg h0 (show 0 ≤ 2 - b k by grind)
    unfold mixQ
    grind
theorem mix_q2 {a b : Nat → Rat} {t : Rat} (fa : ∀ k, Fq 20 (a k)) (fb : ∀ k, Fq 20 (b k)) (ca : chkS (txS a) = 0) (cb : chkS (txS b) = 0) (ht : Fq 20 t) (h0 : 0 ≤ t) (h1 : t ≤ 1) : Called Tryz.prog 28 [.agg (spL (txS a)), .agg (spL (txS b)), frT t] (spE (txS fun i => mixQ t (a i) (b i)) 0) := by
  have c := smix_c (t := xT t) (sp_bd fa) (sp_bd fb) (xT_bd ht k20)
  unfold mixS at c
  rw [if_pos ca, if_pos cb, (xT_ok ht k20).1, if_pos rfl, out_no ht h0 h1, if_neg (by decide)] at c
  have e : (fun i => xT (mixQ (qX (xT t)) (qX (txS a i)) (qX (txS b i)))) = txS fun i => mixQ t (a i) (b i) := by
    funext i
    unfold txS
    rw [(xT_ok ht k20).2, (xT_ok (fa i) k20).2, (xT_ok (fb i) k20).2]
  rw [e] at c
  exact c
theorem fq_colh {p o : List Int} (hp : isPow p) (ho : isObs o) {n : Nat → Int} (h : ∀ k, 0 ≤ n k ∧ n k ≤ 200) : Fq 40 (colP p o fun k => Rat.divInt (n k) 100) := by
  unfold colP
  rw [sw_hund]
  have hw : ∀ k, -2000000000000000 ≤ wgt p o k * n k ∧ wgt p o k * n k ≤ 2000000000000000 := fun k => by
    have h1 := wgt_bd hp ho k
    have h2 := h k
    have h3 : 0 ≤ wgt p o k * n k := Int.mul_nonneg h1.2 h2.1
    have h4 : wgt p o k * n k ≤ wgt p o k * 200 := Int.mul_le_mul_of_nonneg_left h2.2 h1.2
    omega
  have hb := si_bd (by omega) hw 16 (by omega)
  have nK : (Rat.divInt (allP p 16) 1).num ≠ 0 := by
    rw [divInt_num1]
    have := allP_pos hp
    omega
  have f1 : Fq 18 (Rat.divInt (si (fun i => wgt p o i * n i) 16) 100) := fq_divInt (d := 100) (by omega) (by omega) (by omega)
  exact (f1.div (fqK hp) nK).mono (by omega)
theorem col_nn {p o : List Int} (hp : isPow p) (ho : isObs o) {a : Nat → Rat} (h : ∀ k, 0 ≤ a k) : 0 ≤ colP p o a := by
  have h1 := col_mono (a := fun _ => 0) (b := a) hp ho h
  rw [colP_const hp, Rat.mul_zero] at h1
  exact h1
end Go.Proofs.YtpcpgjcdkgcbpaaGreatDoor
end
section
namespace Go.Proofs.YtpcpgjcdkgcbpaaGreatDoor
open Go Go.V Go.Nb
theorem fq_one : Fq 1 1 := ⟨by decide, by decide⟩
theorem one_divInt : Rat.divInt 1 1 = 1 := Rat.divInt_self' (by omega)
theorem fq_small {n m : Int} (hn : -9223372036854775807 ≤ n ∧ n ≤ 9223372036854775807) (hm : 1 ≤ m ∧ m ≤ 9223372036854775807) : Fq 20 (Rat.divInt n m) := by
  obtain ⟨d, rfl⟩ : ∃ d : Nat, m = d := ⟨m.toNat, by omega⟩
  exact fq_divInt (by omega) (by omega) (by omega)
theorem zof {n m : Int} (hn : -9223372036854775807 ≤ n ∧ n ≤ 9223372036854775807) (hm : 1 ≤ m ∧ m ≤ 9223372036854775807) : Called Tryz.prog 48 [.int .i64 n, .int .i64 m] (.tup [frT (Rat.divInt n m), .int .i64 0]) := by
  rw [← frR_ok ((fq_small hn hm).ok (by omega) (by omega))]
  exact of_c n m (by simp [InR, V.lo, V.hi]; omega) (by simp [InR, V.lo, V.hi]; omega) (by omega)
theorem zrof {n m : Int} (hn : -9223372036854775807 ≤ n ∧ n ≤ 9223372036854775807) (hm : 1 ≤ m ∧ m ≤ 9223372036854775807) : Called Tryz.prog 78 [.int .i64 n, .int .i64 m] (.tup [frT (Rat.divInt n m), .int .i64 0]) := by
  rw [← frR_ok ((fq_small hn hm).ok (by omega) (by omega))]
  exact of02_c n m (by simp [InR, V.lo, V.hi]; omega) (by simp [InR, V.lo, V.hi]; omega) (by omega)
theorem lratio {n m : Int} (hn : -9223372036854775807 ≤ n ∧ n ≤ 9223372036854775807) (hm : 1 ≤ m ∧ m ≤ 9223372036854775807) : Called Tryz.prog 71 [.int .i64 n, .int .i64 m] (frT (Rat.divInt n m)) := by
  have c := zof hn hm
  have mu := must_ok
  unfold frT at *
  generalize Rat.divInt n m = q at *
  refine called_of_run tbOk 6 ⟨Tryz.func71, rfl, rfl, Nat.le_of_ble_eq_true rfl⟩ ?_
  (conv => whnf)
  refine V.st ?_
  repeat ((try ((with_reducible refine .ext ?_); (conv => whnf))); (with_reducible refine call_intro (r := ?_) ?_ ?_); rotate_left; (focus (first | exact (c) | exact (mu _ _))); (conv => whnf); refine V.st ?_)
  exact Fin.of rfl
theorem r23of {n m : Int} (hn : -9223372036854775807 ≤ n ∧ n ≤ 9223372036854775807) (hm : 1 ≤ m ∧ m ≤ 9223372036854775807) : Called Tryz.prog 33 [.int .i64 n, .int .i64 m] (frT (Rat.divInt n m)) := by
  have c := zrof hn hm
  unfold frT at *
  generalize Rat.divInt n m = q at *
  refine called_of_run tbOk 6 ⟨Tryz.func33, rfl, rfl, Nat.le_of_ble_eq_true rfl⟩ ?_
  (conv => whnf)
  refine V.st ?_
  repeat ((try ((with_reducible refine .ext ?_); (conv => whnf))); (with_reducible refine call_intro (r := ?_) ?_ ?_); rotate_left; (focus (first | exact (c))); (conv => whnf); refine V.st ?_)
  exact Fin.of rfl
theorem labove {a b : Nat} {p q : Rat} (h : Fq a p) (g : Fq b q) (ha : 0 < a ∧ a ≤ 600) (hb : 0 < b ∧ b ≤ 600) : Called Tryz.prog 73 [frT p, frT q] (.bool (decide (ordQ p q > 0))) := by
  have c := zcmp h g ha hb
  have hw : -1 ≤ ordQ p q ∧ ordQ p q ≤ 1 := by
    unfold ordQ
    split
    · omega
    · split <;> omega
  generalize ordQ p q = w at *
  have m := musti_ok w (by simp [InR, V.lo, V.hi]; omega)
  unfold frT at *
  refine called_of_run tbOk 6 ⟨Tryz.func73, rfl, rfl, Nat.le_of_ble_eq_true rfl⟩ ?_
  (conv => whnf)
  refine V.st ?_
  repeat ((try ((with_reducible refine .ext ?_); (conv => whnf))); (with_reducible refine call_intro (r := ?_) ?_ ?_); rotate_left; (focus (first | exact (c) | exact (m))); (conv => whnf); refine V.st ?_)
  exact Fin.of rfl
def triQ (p q r : Rat) : D := .agg [.str (decZ p.num), .str (dec p.den), .str (decZ q.num), .str (dec q.den), .str (decZ r.num), .str (dec r.den)]
end Go.Proofs.YtpcpgjcdkgcbpaaGreatDoor
end
section
namespace Go.Proofs.YtpcpgjcdkgcbpaaGreatDoor
open Go Go.V Go.Nb
def strs (q : Rat) : List D := [.str (decZ q.num), .str (dec q.den)]
theorem offS {ys : List D} {c : Bool} (hc : c = false) : c = true → Called Tryz.prog 72 ys (.int .i64 0) := fun h => by rw [hc] at h; cases h
theorem offA {ys : List D} {c : Bool} (hc : c = false) : c = true → Called Tryz.prog 75 ys (.agg [.str [], .str []]) := fun h => by rw [hc] at h; cases h
theorem offR {ys : List D} {c : Bool} (hc : c = false) : c = true → Called Tryz.prog 71 ys (.agg [.str [], .str []]) := fun h => by rw [hc] at h; cases h
theorem offV {ys : List D} {c : Bool} (hc : c = false) : c = true → Called Tryz.prog 73 ys (.bool false) := fun h => by rw [hc] at h; cases h
end Go.Proofs.YtpcpgjcdkgcbpaaGreatDoor
end
section
namespace Go.Proofs.YtpcpgjcdkgcbpaaGreatDoor
open Go Go.V Go.Nb
theorem ordQ_gt1 (p q : Rat) : decide (ordQ p q > 0) = decide (q < p) := by
  refine decide_eq_decide.2 ?_
  unfold ordQ
  by_cases h : p < q
  · rw [if_pos h]
    exact ⟨fun h' => by omega, fun h' => absurd (Rat.le_of_lt h') (Rat.not_le.2 h)⟩
  · rw [if_neg h]
    by_cases h2 : p = q
    · rw [if_pos h2, h2]
      exact ⟨fun h' => by omega, fun h' => absurd h' Rat.lt_irrefl⟩
    · rw [if_neg h2]
      exact ⟨fun _ => Rat.lt_of_le_of_ne (Rat.not_lt.1 h) (fun e => h2 e.symm), fun _ => by omega⟩
-- the program's FromXyy of any texts
end Go.Proofs.YtpcpgjcdkgcbpaaGreatDoor
end
section
namespace Go.Proofs.YtpcpgjcdkgcbpaaGreatDoor
open Go Go.V Go.Nb
theorem zZ16_0 : type_of% @Nat.zero_add ∧ type_of% @tn0 ∧ type_of% @tn1 ∧ type_of% @tn2 := ⟨@Nat.zero_add, @tn0, @tn1, @tn2⟩
theorem mix1_0 (c d t u a0 b0 a1 b1 a2 b2 e0 f0 e1 f1 e2 f2 r1 r2 p1 p2 q1 q2 w1 w2 : List UInt8)
    (s : Called Tryz.prog 77 [.agg [.str c, .str d], .agg [.str t, .str u]] (.agg [.str r1, .str r2])) (m1 : Called Tryz.prog 76 [.agg [.str r1, .str r2], .agg [.str a0, .str b0]] (.agg [.str p1, .str p2]))
    (m2 : Called Tryz.prog 76 [.agg [.str t, .str u], .agg [.str e0, .str f0]] (.agg [.str q1, .str q2])) (ad : Called Tryz.prog 75 [.agg [.str p1, .str p2], .agg [.str q1, .str q2]] (.agg [.str w1, .str w2])) :
    Called Tryz.prog 74 [.int .i64 0, .ref [.str c, .str d], .ref [.str t, .str u], .ref [.str a0, .str b0, .str a1, .str b1, .str a2, .str b2], .ref [.str e0, .str f0, .str e1, .str f1, .str e2, .str f2]] (.agg [.str w1, .str w2]) := by
  refine called_of_run tbOk 6 ⟨Tryz.func74, rfl, rfl, Nat.le_of_ble_eq_true rfl⟩ ?_
  (conv => whnf)
  (conv => whnf)
  (try simp only [Nat.zero_add])
  repeat ((first | refine V.s1 ?_); (try simp only [Nat.zero_add]))
  refine ⟨(.take 0 (.take 1 (.take 3 (.take 4 (.take 5 (.take 7 (.take 8 (.take 9 (.take 10 (.ev (.cons 2 [10, 9, 8, 7, 5, 4, 3] (.ev (.cons 6 [10, 9, 8, 7] (.ev (.cons 11 [] (.ev (.cons 12 [] (.ev (.cons 13 [] (.done) (.nil))) (.nil))) (.nil))) (.nil))) (.nil)))))))))))), [], ⟨by kernel_rfl, by kernel_rfl, by kernel_rfl, by kernel_rfl⟩, ?_⟩
  refine drw_meet [] [(6, .box [.str w1, .str w2])] ?_ ?_
  · (conv => whnf); (try simp only [zZ16_0])
    repeat' (first | exact V.wk | ((with_reducible refine And.intro ?_ draw_nil); (conv => whnf); (try simp only [zZ16_0])) | ((with_reducible first | refine draw_split ?_ ?_ | refine nds_split ?_ ?_) <;> (conv => whnf); (try simp only [zZ16_0])) | ((first | refine V.s1 ?_ | ((with_reducible refine recheck_and ?_ ?_); (focus ((conv => whnf); (try simp only [zZ16_0]); (repeat ((first | refine V.s1 ?_); (try simp only [zZ16_0]))); exact ⟨rfl⟩)); (conv => whnf)) | ((try ((with_reducible refine .ext ?_); (conv => whnf); (try simp only [zZ16_0]))); (with_reducible refine call_intro (r := ?_) ?_ ?_); rotate_left; (focus (first | exact (s) | exact (m1) | exact (m2) | exact (ad))); (conv => whnf))); (try simp only [zZ16_0])) | (refine And.intro ?_ ?_ <;> (conv => whnf); (try simp only [zZ16_0])))
  (conv => whnf)
  (try simp only [Nat.zero_add])
  repeat ((first | refine V.s1 ?_); (try simp only [Nat.zero_add]))
  exact Fin.of rfl
theorem mix1_1 (c d t u a0 b0 a1 b1 a2 b2 e0 f0 e1 f1 e2 f2 r1 r2 p1 p2 q1 q2 w1 w2 : List UInt8)
    (s : Called Tryz.prog 77 [.agg [.str c, .str d], .agg [.str t, .str u]] (.agg [.str r1, .str r2])) (m1 : Called Tryz.prog 76 [.agg [.str r1, .str r2], .agg [.str a1, .str b1]] (.agg [.str p1, .str p2]))
    (m2 : Called Tryz.prog 76 [.agg [.str t, .str u], .agg [.str e1, .str f1]] (.agg [.str q1, .str q2])) (ad : Called Tryz.prog 75 [.agg [.str p1, .str p2], .agg [.str q1, .str q2]] (.agg [.str w1, .str w2])) :
    Called Tryz.prog 74 [.int .i64 1, .ref [.str c, .str d], .ref [.str t, .str u], .ref [.str a0, .str b0, .str a1, .str b1, .str a2, .str b2], .ref [.str e0, .str f0, .str e1, .str f1, .str e2, .str f2]] (.agg [.str w1, .str w2]) := by
  refine called_of_run tbOk 6 ⟨Tryz.func74, rfl, rfl, Nat.le_of_ble_eq_true rfl⟩ ?_
  (conv => whnf)
  (conv => whnf)
  (try simp only [Nat.zero_add])
  repeat ((first | refine V.s1 ?_); (try simp only [Nat.zero_add]))
  refine ⟨(.take 0 (.take 1 (.take 3 (.take 4 (.take 5 (.take 7 (.take 8 (.take 9 (.take 10 (.ev (.cons 2 [10, 9, 8, 7, 5, 4, 3] (.ev (.cons 6 [10, 9, 8, 7] (.ev (.cons 11 [] (.ev (.cons 12 [] (.ev (.cons 13 [] (.done) (.nil))) (.nil))) (.nil))) (.nil))) (.nil)))))))))))), [], ⟨by kernel_rfl, by kernel_rfl, by kernel_rfl, by kernel_rfl⟩, ?_⟩
  refine drw_meet [] [(6, .box [.str w1, .str w2])] ?_ ?_
  · (conv => whnf); (try simp only [zZ16_0])
    repeat' (first | exact V.wk | ((with_reducible refine And.intro ?_ draw_nil); (conv => whnf); (try simp only [zZ16_0])) | ((with_reducible first | refine draw_split ?_ ?_ | refine nds_split ?_ ?_) <;> (conv => whnf); (try simp only [zZ16_0])) | ((first | refine V.s1 ?_ | ((with_reducible refine recheck_and ?_ ?_); (focus ((conv => whnf); (try simp only [zZ16_0]); (repeat ((first | refine V.s1 ?_); (try simp only [zZ16_0]))); exact ⟨rfl⟩)); (conv => whnf)) | ((try ((with_reducible refine .ext ?_); (conv => whnf); (try simp only [zZ16_0]))); (with_reducible refine call_intro (r := ?_) ?_ ?_); rotate_left; (focus (first | exact (s) | exact (m1) | exact (m2) | exact (ad))); (conv => whnf))); (try simp only [zZ16_0])) | (refine And.intro ?_ ?_ <;> (conv => whnf); (try simp only [zZ16_0])))
  (conv => whnf)
  (try simp only [Nat.zero_add])
  repeat ((first | refine V.s1 ?_); (try simp only [Nat.zero_add]))
  exact Fin.of rfl
theorem mix1_2 (c d t u a0 b0 a1 b1 a2 b2 e0 f0 e1 f1 e2 f2 r1 r2 p1 p2 q1 q2 w1 w2 : List UInt8)
    (s : Called Tryz.prog 77 [.agg [.str c, .str d], .agg [.str t, .str u]] (.agg [.str r1, .str r2])) (m1 : Called Tryz.prog 76 [.agg [.str r1, .str r2], .agg [.str a2, .str b2]] (.agg [.str p1, .str p2]))
    (m2 : Called Tryz.prog 76 [.agg [.str t, .str u], .agg [.str e2, .str f2]] (.agg [.str q1, .str q2])) (ad : Called Tryz.prog 75 [.agg [.str p1, .str p2], .agg [.str q1, .str q2]] (.agg [.str w1, .str w2])) :
    Called Tryz.prog 74 [.int .i64 2, .ref [.str c, .str d], .ref [.str t, .str u], .ref [.str a0, .str b0, .str a1, .str b1, .str a2, .str b2], .ref [.str e0, .str f0, .str e1, .str f1, .str e2, .str f2]] (.agg [.str w1, .str w2]) := by
  refine called_of_run tbOk 6 ⟨Tryz.func74, rfl, rfl, Nat.le_of_ble_eq_true rfl⟩ ?_
  (conv => whnf)
  (conv => whnf)
  (try simp only [Nat.zero_add])
  repeat ((first | refine V.s1 ?_); (try simp only [Nat.zero_add]))
  refine ⟨(.take 0 (.take 1 (.take 3 (.take 4 (.take 5 (.take 7 (.take 8 (.take 9 (.take 10 (.ev (.cons 2 [10, 9, 8, 7, 5, 4, 3] (.ev (.cons 6 [10, 9, 8, 7] (.ev (.cons 11 [] (.ev (.cons 12 [] (.ev (.cons 13 [] (.done) (.nil))) (.nil))) (.nil))) (.nil))) (.nil)))))))))))), [], ⟨by kernel_rfl, by kernel_rfl, by kernel_rfl, by kernel_rfl⟩, ?_⟩
  refine drw_meet [] [(6, .box [.str w1, .str w2])] ?_ ?_
  · (conv => whnf); (try simp only [zZ16_0])
    repeat' (first | exact V.wk | ((with_reducible refine And.intro ?_ draw_nil); (conv => whnf); (try simp only [zZ16_0])) | ((with_reducible first | refine draw_split ?_ ?_ | refine nds_split ?_ ?_) <;> (conv => whnf); (try simp only [zZ16_0])) | ((first | refine V.s1 ?_ | ((with_reducible refine recheck_and ?_ ?_); (focus ((conv => whnf); (try simp only [zZ16_0]); (repeat ((first | refine V.s1 ?_); (try simp only [zZ16_0]))); exact ⟨rfl⟩)); (conv => whnf)) | ((try ((with_reducible refine .ext ?_); (conv => whnf); (try simp only [zZ16_0]))); (with_reducible refine call_intro (r := ?_) ?_ ?_); rotate_left; (focus (first | exact (s) | exact (m1) | exact (m2) | exact (ad))); (conv => whnf))); (try simp only [zZ16_0])) | (refine And.intro ?_ ?_ <;> (conv => whnf); (try simp only [zZ16_0])))
  (conv => whnf)
  (try simp only [Nat.zero_add])
  repeat ((first | refine V.s1 ?_); (try simp only [Nat.zero_add]))
  exact Fin.of rfl
end Go.Proofs.YtpcpgjcdkgcbpaaGreatDoor
end
section
namespace Go.Proofs.YtpcpgjcdkgcbpaaGreatDoor
open Go Go.V Go.Nb
def mxS (w0 v0 w1 v1 w2 v2 : List UInt8) : Nat → List D
  | 0 => [.str [], .str [], .str [], .str [], .str [], .str []]
  | 1 => [.str w0, .str v0, .str [], .str [], .str [], .str []]
  | 2 => [.str w0, .str v0, .str w1, .str v1, .str [], .str []]
  | _ => [.str w0, .str v0, .str w1, .str v1, .str w2, .str v2]
theorem mixcl_pan1 (c d t u a0 b0 a1 b1 a2 b2 e0 f0 e1 f1 e2 f2 : List UInt8) (gt : Int) (h : gt < 0) (r1 : Called Tryz.prog 71 [.int .i64 1, .int .i64 1] (.agg [.str c, .str d])) (sg : Called Tryz.prog 72 [.agg [.str t, .str u]] (.int .i64 gt)) :
    Panics Tryz.prog 70 [.ref [.str t, .str u], .ref [.str a0, .str b0, .str a1, .str b1, .str a2, .str b2], .ref [.str e0, .str f0, .str e1, .str f1, .str e2, .str f2]] (.iface 40 (.int .i64 2)) := by
  have hx : decide (gt < 0) = true := decide_eq_true h
  refine panics_of_run tbOk 6 ⟨Tryz.func70, rfl, rfl, Nat.le_of_ble_eq_true rfl⟩ ?_
  (conv => whnf)
  (conv => whnf)
  (try simp only [Nat.zero_add, Bool.not_true, Bool.true_or, Bool.not_false, hx])
  repeat ((first | refine V.s1 ?_ | ((try ((with_reducible refine .ext ?_); (conv => whnf); (try simp only [Nat.zero_add, Bool.not_true, Bool.true_or, Bool.not_false, hx]))); (with_reducible refine call_intro (r := ?_) ?_ ?_); rotate_left; (focus (first | exact (r1) | exact (sg))); (conv => whnf))); (try simp only [Nat.zero_add, Bool.not_true, Bool.true_or, Bool.not_false, hx]))
  refine ⟨_, offV rfl, ?_⟩
  (conv => whnf)
  (try simp only [Nat.zero_add, Bool.not_true, Bool.true_or, Bool.not_false, hx])
  repeat ((first | refine V.s1 ?_ | ((try ((with_reducible refine .ext ?_); (conv => whnf); (try simp only [Nat.zero_add, Bool.not_true, Bool.true_or, Bool.not_false, hx]))); (with_reducible refine call_intro (r := ?_) ?_ ?_); rotate_left; (focus (first | exact (r1) | exact (sg))); (conv => whnf))); (try simp only [Nat.zero_add, Bool.not_true, Bool.true_or, Bool.not_false, hx]))
  refine And.intro (fun _ h => by cases h) ?_
  (conv => whnf)
  (try simp only [Nat.zero_add, Bool.not_true, Bool.true_or, Bool.not_false, hx])
  repeat ((first | refine V.s1 ?_ | ((try ((with_reducible refine .ext ?_); (conv => whnf); (try simp only [Nat.zero_add, Bool.not_true, Bool.true_or, Bool.not_false, hx]))); (with_reducible refine call_intro (r := ?_) ?_ ?_); rotate_left; (focus (first | exact (r1) | exact (sg))); (conv => whnf))); (try simp only [Nat.zero_add, Bool.not_true, Bool.true_or, Bool.not_false, hx]))
  refine Cnd.split (CondB.mk (fun hq => ?_) (fun hq => ?_))
  · (conv => whnf)
    (try simp only [Nat.zero_add])
    repeat ((first | refine V.s1 ?_); (try simp only [Nat.zero_add]))
    done
  · simp at hq
theorem mixcl_pan2 (c d t u a0 b0 a1 b1 a2 b2 e0 f0 e1 f1 e2 f2 : List UInt8) (gt : Int) (h : ¬ gt < 0) (r1 : Called Tryz.prog 71 [.int .i64 1, .int .i64 1] (.agg [.str c, .str d])) (sg : Called Tryz.prog 72 [.agg [.str t, .str u]] (.int .i64 gt))
    (ab : Called Tryz.prog 73 [.agg [.str t, .str u], .agg [.str c, .str d]] (.bool true)) :
    Panics Tryz.prog 70 [.ref [.str t, .str u], .ref [.str a0, .str b0, .str a1, .str b1, .str a2, .str b2], .ref [.str e0, .str f0, .str e1, .str f1, .str e2, .str f2]] (.iface 40 (.int .i64 2)) := by
  have hx : decide (gt < 0) = false := decide_eq_false h
  refine panics_of_run tbOk 6 ⟨Tryz.func70, rfl, rfl, Nat.le_of_ble_eq_true rfl⟩ ?_
  (conv => whnf)
  (conv => whnf)
  (try simp only [Nat.zero_add, Bool.not_true, Bool.true_or, Bool.not_false, hx])
  repeat ((first | refine V.s1 ?_ | ((try ((with_reducible refine .ext ?_); (conv => whnf); (try simp only [Nat.zero_add, Bool.not_true, Bool.true_or, Bool.not_false, hx]))); (with_reducible refine call_intro (r := ?_) ?_ ?_); rotate_left; (focus (first | exact (r1) | exact (sg) | exact (ab))); (conv => whnf))); (try simp only [Nat.zero_add, Bool.not_true, Bool.true_or, Bool.not_false, hx]))
  refine Cnd.split (CondB.mk (fun hq => ?_) (fun hq => ?_))
  · (conv => whnf)
    (try simp only [Nat.zero_add])
    repeat ((first | refine V.s1 ?_); (try simp only [Nat.zero_add]))
    done
  · simp at hq
theorem zZ17_0 : type_of% @Nat.zero_add ∧ type_of% @tn0 ∧ type_of% @tn1 ∧ type_of% @tn2 := ⟨@Nat.zero_add, @tn0, @tn1, @tn2⟩
theorem mixcl_ok (c d t u a0 b0 a1 b1 a2 b2 e0 f0 e1 f1 e2 f2 w0 v0 w1 v1 w2 v2 : List UInt8) (gt : Int) (h : ¬ gt < 0) (r1 : Called Tryz.prog 71 [.int .i64 1, .int .i64 1] (.agg [.str c, .str d])) (sg : Called Tryz.prog 72 [.agg [.str t, .str u]] (.int .i64 gt))
    (ab : Called Tryz.prog 73 [.agg [.str t, .str u], .agg [.str c, .str d]] (.bool false))
    (x0 : Called Tryz.prog 74 [.int .i64 0, .ref [.str c, .str d], .ref [.str t, .str u], .ref [.str a0, .str b0, .str a1, .str b1, .str a2, .str b2], .ref [.str e0, .str f0, .str e1, .str f1, .str e2, .str f2]] (.agg [.str w0, .str v0]))
    (x1 : Called Tryz.prog 74 [.int .i64 1, .ref [.str c, .str d], .ref [.str t, .str u], .ref [.str a0, .str b0, .str a1, .str b1, .str a2, .str b2], .ref [.str e0, .str f0, .str e1, .str f1, .str e2, .str f2]] (.agg [.str w1, .str v1]))
    (x2 : Called Tryz.prog 74 [.int .i64 2, .ref [.str c, .str d], .ref [.str t, .str u], .ref [.str a0, .str b0, .str a1, .str b1, .str a2, .str b2], .ref [.str e0, .str f0, .str e1, .str f1, .str e2, .str f2]] (.agg [.str w2, .str v2])) :
    Called Tryz.prog 70 [.ref [.str t, .str u], .ref [.str a0, .str b0, .str a1, .str b1, .str a2, .str b2], .ref [.str e0, .str f0, .str e1, .str f1, .str e2, .str f2]] (.agg [.str w0, .str v0, .str w1, .str v1, .str w2, .str v2]) := by
  have hx : decide (gt < 0) = false := decide_eq_false h
  have nm := numbers_c a0 b0 a1 b1 a2 b2
  refine called_of_run tbOk 6 ⟨Tryz.func70, rfl, rfl, Nat.le_of_ble_eq_true rfl⟩ ?_
  (conv => whnf)
  (conv => whnf)
  (try simp only [Nat.zero_add, Bool.not_true, Bool.true_or, Bool.not_false, hx])
  repeat ((first | refine V.s1 ?_ | ((try ((with_reducible refine .ext ?_); (conv => whnf); (try simp only [Nat.zero_add, Bool.not_true, Bool.true_or, Bool.not_false, hx]))); (with_reducible refine call_intro (r := ?_) ?_ ?_); rotate_left; (focus (first | exact (r1) | exact (sg) | exact (ab) | exact (nm))); (conv => whnf))); (try simp only [Nat.zero_add, Bool.not_true, Bool.true_or, Bool.not_false, hx]))
  refine ⟨_, _, ⟨Tryz.func114, rfl, rfl, Nat.le_of_ble_eq_true rfl⟩, ?_⟩
  (conv => whnf)
  (conv => whnf)
  (try simp only [Nat.zero_add])
  repeat ((first | refine V.s1 ?_); (try simp only [Nat.zero_add]))
  refine Lp.pub 4 ?_
  (conv => whnf)
  refine lp_any (0) (fun k => k ≤ 3) (fun k => 3 - k) (fun k => [(6, .int .i64 k)]) (fun k => [(29, .lp none), (6, .box (mxS w0 v0 w1 v1 w2 v2 k))]) ?_ ?_ ?_
  · exact V.wk
  · exact Nat.zero_le _
  intro k hk
  have hk4 : k = 0 ∨ k = 1 ∨ k = 2 ∨ k = 3 := by omega
  rcases hk4 with e | e | e | e
  all_goals subst e
  · simp only [k0, mxS]
    (conv => whnf)
    (try simp only [zZ17_0])
    repeat ((first | refine V.s1 ?_ | ((try ((with_reducible refine .ext ?_); (conv => whnf); (try simp only [zZ17_0]))); (with_reducible refine call_intro (r := ?_) ?_ ?_); rotate_left; (focus (first | exact (x0))); (conv => whnf))); (try simp only [zZ17_0]))
    exact ⟨1, by omega, by omega, V.wk⟩
  · simp only [k1, mxS]
    (conv => whnf)
    (try simp only [zZ17_0])
    repeat ((first | refine V.s1 ?_ | ((try ((with_reducible refine .ext ?_); (conv => whnf); (try simp only [zZ17_0]))); (with_reducible refine call_intro (r := ?_) ?_ ?_); rotate_left; (focus (first | exact (x1))); (conv => whnf))); (try simp only [zZ17_0]))
    exact ⟨2, by omega, by omega, V.wk⟩
  · simp only [k2, mxS]
    (conv => whnf)
    (try simp only [zZ17_0])
    repeat ((first | refine V.s1 ?_ | ((try ((with_reducible refine .ext ?_); (conv => whnf); (try simp only [zZ17_0]))); (with_reducible refine call_intro (r := ?_) ?_ ?_); rotate_left; (focus (first | exact (x2))); (conv => whnf))); (try simp only [zZ17_0]))
    exact ⟨3, by omega, by omega, V.wk⟩
  · simp only [k3, mxS]
    (conv => whnf)
    (try simp only [Nat.zero_add])
    repeat ((first | refine V.s1 ?_); (try simp only [Nat.zero_add]))
    exact Fin.of rfl
end Go.Proofs.YtpcpgjcdkgcbpaaGreatDoor
end
section
namespace Go.Proofs.YtpcpgjcdkgcbpaaGreatDoor
open Go Go.V Go.Nb
theorem fractions1 (a0 b0 : List UInt8) (e0 : Int) (c0 : Called Tryz.prog 34 [.agg [.str a0, .str b0]] (.int .i64 e0)) :
    Called Tryz.prog 68 [.slf 2 1 (fun j => List.take 2 (List.drop (j * 2) [.str a0, .str b0]))] (.int .i64 e0) := by
  refine called_of_run tbOk 6 ⟨Tryz.func68, rfl, rfl, Nat.le_of_ble_eq_true rfl⟩ ?_
  (conv => whnf)
  (conv => whnf)
  (try simp only [Nat.zero_add])
  repeat ((first | refine V.s1 ?_); (try simp only [Nat.zero_add]))
  refine lp_any (0) (fun k => k ≤ 1 ∧ (0 < k → e0 = 0)) (fun k => 1 - k) (fun k => [(8, .int .i64 k)]) (fun k => []) ?_ ?_ ?_
  · exact V.wk
  · exact ⟨Nat.zero_le _, by omega⟩
  intro k hk
  obtain ⟨hk, z0⟩ := hk
  have hk4 : k = 0 ∨ k = 1 := by omega
  rcases hk4 with e | e
  all_goals subst e
  · simp only [k0]
    (conv => whnf)
    (try simp only [Nat.zero_add, tn0, tn1, tn2])
    repeat ((first | refine V.s1 ?_ | ((try ((with_reducible refine .ext ?_); (conv => whnf); (try simp only [Nat.zero_add, tn0, tn1, tn2]))); (with_reducible refine call_intro (r := ?_) ?_ ?_); rotate_left; (focus (first | exact (c0))); (conv => whnf))); (try simp only [Nat.zero_add, tn0, tn1, tn2]))
    refine Cnd.split (CondB.mk (fun hq => ?_) (fun hq => ?_))
    · (conv => whnf)
      (try simp only [Nat.zero_add])
      repeat ((first | refine V.s1 ?_); (try simp only [Nat.zero_add]))
      exact Fin.of rfl
    (conv => whnf)
    (try simp only [Nat.zero_add])
    repeat ((first | refine V.s1 ?_); (try simp only [Nat.zero_add]))
    simp at hq
    exact ⟨1, ⟨by omega, by omega⟩, by omega, V.wk⟩
  · simp only [k1]
    have y0 := z0 (by omega)
    subst y0
    (conv => whnf)
    (try simp only [Nat.zero_add])
    repeat ((first | refine V.s1 ?_); (try simp only [Nat.zero_add]))
    exact Fin.of rfl
def noT : D := .agg [.str [], .str [], .str [], .str [], .str [], .str []]
theorem lmix_no1 (a0 b0 a1 b1 a2 b2 e0 f0 e1 f1 e2 f2 t u : List UInt8) (e : Int) (he : e ≠ 0) (ca : Called Tryz.prog 64 [.agg [.str a0, .str b0, .str a1, .str b1, .str a2, .str b2]] (.int .i64 e)) :
    Called Tryz.prog 32 [.agg [.str a0, .str b0, .str a1, .str b1, .str a2, .str b2], .agg [.str e0, .str f0, .str e1, .str f1, .str e2, .str f2], .agg [.str t, .str u]] (.tup [noT, .int .i64 e]) := by
  refine called_of_run tbOk 6 ⟨Tryz.func32, rfl, rfl, Nat.le_of_ble_eq_true rfl⟩ ?_
  (conv => whnf)
  (conv => whnf)
  (try simp only [Nat.zero_add])
  repeat ((first | refine V.s1 ?_ | ((try ((with_reducible refine .ext ?_); (conv => whnf); (try simp only [Nat.zero_add]))); (with_reducible refine call_intro (r := ?_) ?_ ?_); rotate_left; (focus (first | exact (ca))); (conv => whnf))); (try simp only [Nat.zero_add]))
  refine Cnd.split (CondB.mk (fun hq => ?_) (fun hq => ?_))
  · (conv => whnf)
    (try simp only [Nat.zero_add])
    repeat ((first | refine V.s1 ?_); (try simp only [Nat.zero_add]))
    exact Fin.of rfl
  · exfalso
    simp at hq
    exact he hq
theorem lmix_no2 (a0 b0 a1 b1 a2 b2 e0 f0 e1 f1 e2 f2 t u : List UInt8) (e : Int) (he : e ≠ 0) (ca : Called Tryz.prog 64 [.agg [.str a0, .str b0, .str a1, .str b1, .str a2, .str b2]] (.int .i64 0))
    (cb : Called Tryz.prog 64 [.agg [.str e0, .str f0, .str e1, .str f1, .str e2, .str f2]] (.int .i64 e)) :
    Called Tryz.prog 32 [.agg [.str a0, .str b0, .str a1, .str b1, .str a2, .str b2], .agg [.str e0, .str f0, .str e1, .str f1, .str e2, .str f2], .agg [.str t, .str u]] (.tup [noT, .int .i64 e]) := by
  refine called_of_run tbOk 6 ⟨Tryz.func32, rfl, rfl, Nat.le_of_ble_eq_true rfl⟩ ?_
  (conv => whnf)
  (conv => whnf)
  (try simp only [Nat.zero_add])
  repeat ((first | refine V.s1 ?_ | ((try ((with_reducible refine .ext ?_); (conv => whnf); (try simp only [Nat.zero_add]))); (with_reducible refine call_intro (r := ?_) ?_ ?_); rotate_left; (focus (first | exact (ca) | exact (cb))); (conv => whnf))); (try simp only [Nat.zero_add]))
  refine Cnd.split (CondB.mk (fun hq => ?_) (fun hq => ?_))
  · (conv => whnf)
    (try simp only [Nat.zero_add])
    repeat ((first | refine V.s1 ?_); (try simp only [Nat.zero_add]))
    exact Fin.of rfl
  · exfalso
    simp at hq
    exact he hq
theorem lmix_no3 (a0 b0 a1 b1 a2 b2 e0 f0 e1 f1 e2 f2 t u : List UInt8) (e : Int) (he : e ≠ 0) (ca : Called Tryz.prog 64 [.agg [.str a0, .str b0, .str a1, .str b1, .str a2, .str b2]] (.int .i64 0))
    (cb : Called Tryz.prog 64 [.agg [.str e0, .str f0, .str e1, .str f1, .str e2, .str f2]] (.int .i64 0)) (fr : Called Tryz.prog 68 [.slf 2 1 (fun j => List.take 2 (List.drop (j * 2) [.str t, .str u]))] (.int .i64 e)) :
    Called Tryz.prog 32 [.agg [.str a0, .str b0, .str a1, .str b1, .str a2, .str b2], .agg [.str e0, .str f0, .str e1, .str f1, .str e2, .str f2], .agg [.str t, .str u]] (.tup [noT, .int .i64 e]) := by
  refine called_of_run tbOk 6 ⟨Tryz.func32, rfl, rfl, Nat.le_of_ble_eq_true rfl⟩ ?_
  (conv => whnf)
  (conv => whnf)
  (try simp only [Nat.zero_add])
  repeat ((first | refine V.s1 ?_ | ((try ((with_reducible refine .ext ?_); (conv => whnf); (try simp only [Nat.zero_add]))); (with_reducible refine call_intro (r := ?_) ?_ ?_); rotate_left; (focus (first | exact (ca) | exact (cb) | exact (fr))); (conv => whnf))); (try simp only [Nat.zero_add]))
  refine Cnd.split (CondB.mk (fun hq => ?_) (fun hq => ?_))
  · (conv => whnf)
    (try simp only [Nat.zero_add])
    repeat ((first | refine V.s1 ?_); (try simp only [Nat.zero_add]))
    exact Fin.of rfl
  · exfalso
    simp at hq
    exact he hq
theorem lmix_go (a0 b0 a1 b1 a2 b2 e0 f0 e1 f1 e2 f2 t u w0 v0 w1 v1 w2 v2 : List UInt8) (e : Int) (ca : Called Tryz.prog 64 [.agg [.str a0, .str b0, .str a1, .str b1, .str a2, .str b2]] (.int .i64 0))
    (cb : Called Tryz.prog 64 [.agg [.str e0, .str f0, .str e1, .str f1, .str e2, .str f2]] (.int .i64 0)) (fr : Called Tryz.prog 68 [.slf 2 1 (fun j => List.take 2 (List.drop (j * 2) [.str t, .str u]))] (.int .i64 0))
    (g : Called Tryz.prog 69 [.fn 70 [] [.ref [.str t, .str u], .ref [.str a0, .str b0, .str a1, .str b1, .str a2, .str b2], .ref [.str e0, .str f0, .str e1, .str f1, .str e2, .str f2]]] (.tup [.agg [.str w0, .str v0, .str w1, .str v1, .str w2, .str v2], .int .i64 e])) :
    Called Tryz.prog 32 [.agg [.str a0, .str b0, .str a1, .str b1, .str a2, .str b2], .agg [.str e0, .str f0, .str e1, .str f1, .str e2, .str f2], .agg [.str t, .str u]] (.tup [.agg [.str w0, .str v0, .str w1, .str v1, .str w2, .str v2], .int .i64 e]) := by
  refine called_of_run tbOk 6 ⟨Tryz.func32, rfl, rfl, Nat.le_of_ble_eq_true rfl⟩ ?_
  (conv => whnf)
  (conv => whnf)
  (try simp only [Nat.zero_add])
  repeat ((first | refine V.s1 ?_ | ((try ((with_reducible refine .ext ?_); (conv => whnf); (try simp only [Nat.zero_add]))); (with_reducible refine call_intro (r := ?_) ?_ ?_); rotate_left; (focus (first | exact (ca) | exact (cb) | exact (fr) | exact (g))); (conv => whnf))); (try simp only [Nat.zero_add]))
  exact Fin.of rfl
end Go.Proofs.YtpcpgjcdkgcbpaaGreatDoor
end
section
namespace Go.Proofs.YtpcpgjcdkgcbpaaGreatDoor
open Go Go.V Go.Nb
theorem chk3_ok {x y z : Tx} (h : chk3 x y z = 0) : okX x = true ∧ okX y = true ∧ okX z = true := by
  unfold chk3 at h
  by_cases hc : (okX x && okX y && okX z) = true
  · simp only [Bool.and_eq_true] at hc
    exact ⟨hc.1.1, hc.1.2, hc.2⟩
  · rw [if_neg hc] at h
    cases h
theorem lmix_c {n : Nat} {a b : Tx × Tx × Tx} {t : Tx} (ba : BdX n a.1 ∧ BdX n a.2.1 ∧ BdX n a.2.2) (bb : BdX n b.1 ∧ BdX n b.2.1 ∧ BdX n b.2.2) (bt : BdX n t) (h0 : 0 < n ∧ n ≤ 100) :
    Called Tryz.prog 32 [triD a.1 a.2.1 a.2.2, triD b.1 b.2.1 b.2.2, txD t] (mixX a b t) := by
  have ca := (lchk_c ba.1 ba.2.1 ba.2.2 ⟨h0.1, by omega⟩).1
  have cb := (lchk_c bb.1 bb.2.1 bb.2.2 ⟨h0.1, by omega⟩).1
  have f := fractions1 t.1 t.2 _ (fcheck_c _ _ bt.1.1 bt.1.2)
  unfold mixX
  by_cases ha : chk3 a.1 a.2.1 a.2.2 = 0
  · rw [if_pos ha]
    have ca0 := ca
    rw [ha] at ca0
    by_cases hb : chk3 b.1 b.2.1 b.2.2 = 0
    · rw [if_pos hb]
      have cb0 := cb
      rw [hb] at cb0
      by_cases ht : okX t = true
      · rw [if_pos ht]
        have f0 := f
        rw [show okP t.1 t.2 = true from ht, if_pos rfl] at f0
        obtain ⟨ka0, ka1, ka2⟩ := chk3_ok ha
        obtain ⟨kb0, kb1, kb2⟩ := chk3_ok hb
        have qt := bt.2 ht
        have qa0 := ba.1.2 ka0
        have qa1 := ba.2.1.2 ka1
        have qa2 := ba.2.2.2 ka2
        have qb0 := bb.1.2 kb0
        have qb1 := bb.2.1.2 kb1
        have qb2 := bb.2.2.2 kb2
        have et := txD_q ht
        have ea0 := txD_q ka0
        have ea1 := txD_q ka1
        have ea2 := txD_q ka2
        have eb0 := txD_q kb0
        have eb1 := txD_q kb1
        have eb2 := txD_q kb2
        have r1 := lratio (n := 1) (m := 1) (by omega) (by omega)
        rw [one_divInt] at r1
        have sg := lsign qt ⟨h0.1, by omega⟩
        have ab := labove qt fq_one ⟨h0.1, by omega⟩ ⟨by omega, by omega⟩
        rw [ordQ_gt1] at ab
        have st := fq_one.sub qt
        have sb := lsub fq_one qt (by omega) h0.1 (by omega)
        rw [← et] at sg ab sb
        unfold frT at r1
        unfold txD at sg
        unfold frT txD at ab sb
        have hp : ∀ z : Int, InR .i64 z → Panics Tryz.prog 70 [.ref [.str t.1, .str t.2], .ref [.str a.1.1, .str a.1.2, .str a.2.1.1, .str a.2.1.2, .str a.2.2.1, .str a.2.2.2], .ref [.str b.1.1, .str b.1.2, .str b.2.1.1, .str b.2.1.2, .str b.2.2.1, .str b.2.2.2]] (.iface 40 (.int .i64 z)) → Called Tryz.prog 32 [triD a.1 a.2.1 a.2.2, triD b.1 b.2.1 b.2.2, txD t] (triE no3 z) :=
          fun z hz p => lmix_go _ _ _ _ _ _ _ _ _ _ _ _ _ _ _ _ _ _ _ _ _ ca0 cb0 f0 (guard_tri_pan hz p)
        have i2 : InR .i64 2 := by simp [InR, V.lo, V.hi]
        by_cases g0 : (qX t).num < 0
        · rw [if_pos (.inl g0)]
          exact hp 2 i2 (mixcl_pan1 _ _ _ _ _ _ _ _ _ _ _ _ _ _ _ _ _ (by rw [sgn_lt]; exact g0) r1 sg)
        · by_cases g1 : 1 < qX t
          · rw [if_pos (.inr g1)]
            rw [decide_eq_true g1] at ab
            exact hp 2 i2 (mixcl_pan2 _ _ _ _ _ _ _ _ _ _ _ _ _ _ _ _ _ (by rw [sgn_lt]; exact g0) r1 sg ab)
          · rw [if_neg (fun hh => hh.elim g0 g1)]
            rw [decide_eq_false g1] at ab
            have ma0 := lmul st qa0 (by omega) h0.1 (by omega)
            have mb0 := lmul qt qb0 h0.1 h0.1 (by omega)
            have mc0 := ladd (st.mul qa0) (qt.mul qb0) (by omega) (by omega) (by omega)
            rw [← ea0] at ma0
            rw [← et, ← eb0] at mb0
            unfold frT txD at ma0 mb0
            unfold frT at mc0
            have x0 := mix1_0 _ _ _ _ a.1.1 a.1.2 a.2.1.1 a.2.1.2 a.2.2.1 a.2.2.2 b.1.1 b.1.2 b.2.1.1 b.2.1.2 b.2.2.1 b.2.2.2 _ _ _ _ _ _ _ _ sb ma0 mb0 mc0
            have ma1 := lmul st qa1 (by omega) h0.1 (by omega)
            have mb1 := lmul qt qb1 h0.1 h0.1 (by omega)
            have mc1 := ladd (st.mul qa1) (qt.mul qb1) (by omega) (by omega) (by omega)
            rw [← ea1] at ma1
            rw [← et, ← eb1] at mb1
            unfold frT txD at ma1 mb1
            unfold frT at mc1
            have x1 := mix1_1 _ _ _ _ a.1.1 a.1.2 a.2.1.1 a.2.1.2 a.2.2.1 a.2.2.2 b.1.1 b.1.2 b.2.1.1 b.2.1.2 b.2.2.1 b.2.2.2 _ _ _ _ _ _ _ _ sb ma1 mb1 mc1
            have ma2 := lmul st qa2 (by omega) h0.1 (by omega)
            have mb2 := lmul qt qb2 h0.1 h0.1 (by omega)
            have mc2 := ladd (st.mul qa2) (qt.mul qb2) (by omega) (by omega) (by omega)
            rw [← ea2] at ma2
            rw [← et, ← eb2] at mb2
            unfold frT txD at ma2 mb2
            unfold frT at mc2
            have x2 := mix1_2 _ _ _ _ a.1.1 a.1.2 a.2.1.1 a.2.1.2 a.2.2.1 a.2.2.2 b.1.1 b.1.2 b.2.1.1 b.2.1.2 b.2.2.1 b.2.2.2 _ _ _ _ _ _ _ _ sb ma2 mb2 mc2
            exact lmix_go _ _ _ _ _ _ _ _ _ _ _ _ _ _ _ _ _ _ _ _ _ ca0 cb0 f0 (guard_tri_ok (mixcl_ok _ _ _ _ _ _ _ _ _ _ _ _ _ _ _ _ _ _ _ _ _ _ _ (by rw [sgn_lt]; exact g0) r1 sg ab x0 x1 x2))
      · rw [if_neg ht]
        rw [show okP t.1 t.2 = false from Bool.eq_false_iff.2 ht] at f
        exact lmix_no3 _ _ _ _ _ _ _ _ _ _ _ _ _ _ _ (by omega) ca0 cb0 f
    · rw [if_neg hb]
      exact lmix_no2 _ _ _ _ _ _ _ _ _ _ _ _ _ _ _ hb ca0 cb
  · rw [if_neg ha]
    exact lmix_no1 _ _ _ _ _ _ _ _ _ _ _ _ _ _ _ ha ca
end Go.Proofs.YtpcpgjcdkgcbpaaGreatDoor
end
section
namespace Go.Proofs.YtpcpgjcdkgcbpaaGreatDoor
open Go Go.V Go.Nb
theorem ynn_divInt {n m : Int} (hn : 0 ≤ n) (hm : 0 < m) : 0 ≤ Rat.divInt n m := (Rat.divInt_nonneg_iff_of_pos_right hm).2 hn
theorem yshare_bd {n d : Int} (hd : 0 ≤ d ∧ d ≤ 255) : 0 ≤ shQ n d ∧ shQ n d ≤ 1 := by
  have hb := shN_bd n d hd
  unfold shQ
  refine ⟨ynn_divInt hb.1 (by omega), ?_⟩
  have h1 : Rat.divInt (1 + d) (1 + d) = 1 := Rat.divInt_self' (by omega)
  have h2 : 0 ≤ Rat.divInt (1 + d - shN n d) (1 + d) := ynn_divInt (by omega) (by omega)
  have h3 : Rat.divInt (1 + d - shN n d) (1 + d) + Rat.divInt (shN n d) (1 + d) = 1 := by
    rw [Rat.divInt_add_divInt _ _ (by omega) (by omega), ← h1, ← Int.add_mul, show 1 + d - shN n d + shN n d = 1 + d by omega]
    exact Rat.divInt_mul_right (by omega)
  grind
end Go.Proofs.YtpcpgjcdkgcbpaaGreatDoor
end
section
namespace Go.Proofs.YtpcpgjcdkgcbpaaGreatDoor
open Go Go.V Go.Nb
theorem ychk3_q {n : Nat} {x y z : Rat} (hx : Fq n x) (hy : Fq n y) (hz : Fq n z) (h0 : 0 < n ∧ n ≤ 600) (px : 0 ≤ x) (py : 0 ≤ y) (pz : 0 ≤ z) : chk3 (xT x) (xT y) (xT z) = 0 := by
  have a := xT_ok hx h0
  have b := xT_ok hy h0
  have c := xT_ok hz h0
  unfold chk3
  rw [a.1, b.1, c.1, a.2, b.2, c.2, if_pos (show (true && true && true) = true from rfl), if_neg]
  have e1 := Rat.num_nonneg.2 px
  have e2 := Rat.num_nonneg.2 py
  have e3 := Rat.num_nonneg.2 pz
  omega
theorem ylmix_q {n : Nat} {a0 a1 a2 b0 b1 b2 t : Rat} (ha : Fq n a0 ∧ Fq n a1 ∧ Fq n a2) (hb : Fq n b0 ∧ Fq n b1 ∧ Fq n b2) (ht : Fq n t) (h0 : 0 < n ∧ n ≤ 100) (pa : 0 ≤ a0 ∧ 0 ≤ a1 ∧ 0 ≤ a2) (pb : 0 ≤ b0 ∧ 0 ≤ b1 ∧ 0 ≤ b2) (pt : 0 ≤ t ∧ t ≤ 1) :
    Called Tryz.prog 32 [triQ a0 a1 a2, triQ b0 b1 b2, frT t] (.tup [triQ (mixQ t a0 b0) (mixQ t a1 b1) (mixQ t a2 b2), .int .i64 0]) := by
  have k0 : 0 < n ∧ n ≤ 600 := ⟨h0.1, by omega⟩
  have c := lmix_c (n := n) (a := (xT a0, xT a1, xT a2)) (b := (xT b0, xT b1, xT b2)) (t := xT t) ⟨xT_bd ha.1 k0, xT_bd ha.2.1 k0, xT_bd ha.2.2 k0⟩ ⟨xT_bd hb.1 k0, xT_bd hb.2.1 k0, xT_bd hb.2.2 k0⟩ (xT_bd ht k0) h0
  have e1 := ychk3_q ha.1 ha.2.1 ha.2.2 k0 pa.1 pa.2.1 pa.2.2
  have e2 := ychk3_q hb.1 hb.2.1 hb.2.2 k0 pb.1 pb.2.1 pb.2.2
  have et := xT_ok ht k0
  have en := Rat.num_nonneg.2 pt.1
  unfold mixX at c
  dsimp only at c
  rw [if_pos e1, if_pos e2, et.1, if_pos rfl, et.2, if_neg (fun h => by
    rcases h with h | h
    · omega
    · exact absurd pt.2 (Rat.not_le.2 h)), (xT_ok ha.1 k0).2, (xT_ok ha.2.1 k0).2, (xT_ok ha.2.2 k0).2, (xT_ok hb.1 k0).2, (xT_ok hb.2.1 k0).2, (xT_ok hb.2.2 k0).2] at c
  exact c
end Go.Proofs.YtpcpgjcdkgcbpaaGreatDoor
end
section
namespace Go.Proofs.YtpcpgjcdkgcbpaaGreatDoor
open Go Go.V Go.Nb
theorem col_one (p o : List Int) (hp : isPow p) (c : Rat) : colP p o (fun _ => c) = colP p o (fun _ => 1) * c := by
  rw [colP_const hp, colP_const hp]
  grind
theorem col_pos {p o : List Int} (hp : isPow p) (ho : isObs o) : 0 < colP p o (fun _ => 1) := by
  have key : ∀ p ∈ [waL, wdL, weL], ∀ o ∈ [wxL, wyL, wzL], 0 < si (wgt p o) 16 := by decide +kernel
  have h1 : 0 < si (wgt p o) 16 := by
    refine key p ?_ o ?_
    · rcases hp with e | e | e <;> simp [e]
    · rcases ho with e | e | e <;> simp [e]
  rw [colP_const hp, Rat.mul_one, Rat.div_def, divInt_one]
  exact Rat.mul_pos (by exact_mod_cast h1) (inv_pos' (all_pos hp))
theorem num_pos' {q : Rat} (h : 0 < q) : q.num ≠ 0 := fun e => by
  rw [Rat.num_eq_zero.1 e] at h
  exact Rat.lt_irrefl h
theorem lsound_q {n : Nat} {x y z : Rat} (hx : Fq n x) (hy : Fq n y) (hz : Fq n z) (h0 : 0 < n ∧ n ≤ 600) (px : 0 < x) (py : 0 < y) (pz : 0 < z) : Called Tryz.prog 30 [triD (xT x) (xT y) (xT z)] (.int .i64 0) := by
  have c := (lchk_c (xT_bd hx h0) (xT_bd hy h0) (xT_bd hz h0) h0).2
  have e := ychk3_q hx hy hz h0 (Rat.le_of_lt px) (Rat.le_of_lt py) (Rat.le_of_lt pz)
  unfold snd3 at c
  rw [if_pos e, (xT_ok hx h0).2, (xT_ok hy h0).2, (xT_ok hz h0).2, if_neg (fun h => by
    rcases h with h | h | h
    · exact num_pos' px h
    · exact num_pos' py h
    · exact num_pos' pz h)] at c
  exact c
theorem spectrumFlat_c {n d s : Int} (hn : -32768 ≤ n ∧ n ≤ 32767) (hdd : 0 ≤ d ∧ d ≤ 255) (hs : 0 ≤ s ∧ s ≤ 255) :
    Called Tryz.prog 7 [.agg [.int .i16 n, .int .u8 d], .int .u8 s] (.bool true) := by
  have sh := numShare_c n d hn hdd
  have ft := fq_shr (n := n) hdd
  have bx := yshare_bd (n := n) hdd
  generalize shQ n d = t at *
  have ft2 : Fq 20 t := ft.mono (by omega)
  have t2 : t ≤ 2 := by
    have := bx.2
    grind
  have cf := flat_q ft2 bx.1 t2
  have hi := isLt_ltOf s
  have hp := pow_is (ltOf s)
  have sq : SpQ fun _ => t := fun _ => ⟨ft2, bx.1, t2⟩
  have cw := whi_q hi
  have cx := xyz_q sq hi
  have cc := cor_q sq
  rw [show corQ (fun _ => t) = fun _ => t from funext fun i => cor_flat t i] at cc
  have co := l26_of (n := 1) (m := 1) (by omega) (by omega)
  rw [y_div1] at co
  have ox : isObs wxL := .inl rfl
  have o_y : isObs wyL := .inr (.inl rfl)
  have oz : isObs wzL := .inr (.inr rfl)
  have h1 : ∀ {o}, isObs o → Fq 560 (colP (powL (ltOf s)) o fun _ => 1) := fun ho => fq_col hp ho fun _ => y_one.mono (by omega)
  have k5 : 0 < 560 ∧ 560 ≤ 600 := by omega
  have ls := lsound_q (h1 ox) (h1 o_y) (h1 oz) k5 (col_pos hp ox) (col_pos hp o_y) (col_pos hp oz)
  have m0 := zmul (h1 ox) ft (by omega) (by omega) (by omega)
  have m1 := zmul (h1 o_y) ft (by omega) (by omega) (by omega)
  have m2 := zmul (h1 oz) ft (by omega) (by omega) (by omega)
  unfold colT at cw cx
  rw [col_one _ _ hp t, col_one _ _ hp t, col_one _ _ hp t] at cx
  rw [colP_y hp] at cw cx ls m1
  exact flatlaw_t n d s (ltOf s) _ _ _ _ _ _ _ _ _ _ _ _ _ _ _ (lightOf_c hs) sh cw cf cx cc co ls m0 m1 m2
end Go.Proofs.YtpcpgjcdkgcbpaaGreatDoor
end
