/- What some functions of the program answer at values that mean given lists and numbers, each proved of the program's own code. Conditions: those that each theorem names. -/
import Derived.Test.YtfhmfpneiagakaaT19
import Derived.Test.YtfhmfpneiagakaaV9
set_option linter.unusedSimpArgs false
set_option linter.unusedVariables false
set_option maxHeartbeats 8000000
set_option maxRecDepth 100000
namespace Go.Proofs.Ytfhmfpneiagakaa
open Go Go.V Go.Gr
section
variable {size : List Int} {out : Int} {data : List Int} {s d : D} (Fs : V.Fin (.ints .i64 size) s) (Fd : V.Fin (.ints .i64 data) d) (hg : okGrid size out data = false) (hs : size.length ≤ 281474976710656) (hd : data.length ≤ 281474976710656)
include Fs Fd hg hs hd
theorem bad_check : Called Try.prog 25 [.agg [s, .int .i64 out, d]] (.int .i64 100) :=
  Called.arg (ds' := [gridD size out data]) ⟨Fin.agg ⟨Fs, Fin.same _, Fd, trivial⟩, trivial⟩ (Called.cast (check_c _ _ _ hs hd) (by rw [hg]; rfl))
theorem bad_place : Called Try.prog 13 [.agg [s, .int .i64 out, d], .ints .i64 [9]] (.tup [.int .i64 0, .int .i64 100]) :=
  Called.arg (ds' := [gridD size out data, .ints .i64 [9]]) ⟨Fin.agg ⟨Fs, Fin.same _, Fd, trivial⟩, Fin.same _, trivial⟩ (Called.cast (gplace_c _ _ _ _ hs hd (by decide)) (by rw [hg]; rfl))
theorem bad_at : Called Try.prog 15 [.agg [s, .int .i64 out, d], .nil] (.tup [.ints .i64 [], .int .i64 100]) :=
  Called.arg (ds' := [gridD size out data, .ints .i64 []]) ⟨Fin.agg ⟨Fs, Fin.same _, Fd, trivial⟩, Fin.nil _, trivial⟩ (Called.cast (gat_c _ _ _ _ hs hd (by decide)) (by rw [hg]; rfl))
theorem bad_range : Called Try.prog 27 [.agg [s, .int .i64 out, d]] (.tup [.ints .i64 [], .ints .i64 [], .int .i64 100]) :=
  Called.arg (ds' := [gridD size out data]) ⟨Fin.agg ⟨Fs, Fin.same _, Fd, trivial⟩, trivial⟩ (Called.cast (range_c _ _ _ hs hd) (by rw [hg]; rfl))
theorem bad_swap : Called Try.prog 18 [.agg [s, .int .i64 out, d], .int .i64 9, .int .i64 9] (.tup [gridD [] 0 [], .int .i64 100]) :=
  Called.arg (ds' := [gridD size out data, .int .i64 9, .int .i64 9]) ⟨Fin.agg ⟨Fs, Fin.same _, Fd, trivial⟩, Fin.same _, Fin.same _, trivial⟩ (Called.cast (swap_c _ _ _ _ _ hs hd) (by
  have hE : swErr size out data 9 9 = 100 := by unfold swErr; rw [hg]; rfl
  unfold swR; rw [hE]; rfl))
theorem bad_pick : Called Try.prog 21 [.agg [s, .int .i64 out, d], .nil] (.tup [gridD [] 0 [], .int .i64 100]) :=
  Called.arg (ds' := [gridD size out data, .ints .i64 []]) ⟨Fin.agg ⟨Fs, Fin.same _, Fd, trivial⟩, Fin.nil _, trivial⟩ (Called.cast (pick_c _ _ _ _ hs hd (by decide)) (by
  have hE : pkErr size out data [] = 100 := by unfold pkErr; rw [hg]; rfl
  unfold pkR; rw [hE]; rfl))
end
def zer (n : Nat) : List Int := List.replicate n 0
theorem zer_c (n : Nat) (h : n ≤ 100000) : Called Try.prog 26 [.int .i64 n] (.ints .i64 (zer n)) := zeros_c n h
def badS : Nat → List Int
  | 0 => [] | 1 => [1] | 2 => [10] | 3 => [2, 2, 2, 2, 2] | 4 => [2] | 5 => [2] | 6 => [2] | 7 => [2] | 8 => [2] | 9 => [9, 9, 9] | _ => [9, 9, 9, 6]
def badO : Nat → Int
  | 0 => 0 | 4 => 0 | 5 => 5 | 9 => 4 | _ => 1
def badDt : Nat → List Int
  | 0 => [] | 1 => zer 1 | 2 => zer 10 | 3 => zer 32 | 4 => [] | 5 => zer 10 | 6 => [0, 65536] | 7 => [0, -1] | 8 => zer 3 | 9 => zer 2915 | _ => zer 4374
def one24 : List Int := [1, 1, 0, 1, 3, 3, 2, 3, 5, 5, 4, 5, 7, 7, 6, 7, 9, 9, 8, 9, 11, 11, 10, 11]
theorem known_c : Called Try.prog 6 [] (.bool true) := by
  refine called_of_run tbOk 6 ⟨Try.func6, rfl, rfl, Nat.le_of_ble_eq_true rfl⟩ ?_
  (conv => whnf)
  repeat (first
  | ((with_reducible first | refine And.intro ?_ draw_nil | refine Cnd.y ?_ | refine Cnd.n ?_ | refine Cnd.ny ?_ | refine Cnd.nn ?_); (conv => whnf))
  | ((with_reducible refine recheck_and ?_ ?_); (focus ((conv => whnf); (repeat (first | ((with_reducible refine And.intro ?_ ?_); (focus (first | exact fun _ h => (by rw [h]; rfl) | (intros; (repeat' (first | exact rfl | exact True.intro | exact Nat.le_refl _ | with_reducible refine And.intro ?_ ?_ | assumption)); done) | (intros; (try simp only [V.InR, V.lo, V.hi, decide_eq_true_eq, decide_eq_false_iff_not] at *); omega))); (conv => whnf)) | ((with_reducible refine Or.inl (And.intro ?_ ?_)); (focus (first | exact fun _ h => (by rw [h]; rfl) | (intros; (repeat' (first | exact rfl | exact True.intro | exact Nat.le_refl _ | with_reducible refine And.intro ?_ ?_ | assumption)); done) | (intros; (try simp only [V.InR, V.lo, V.hi, decide_eq_true_eq, decide_eq_false_iff_not] at *); omega))); (conv => whnf)) | ((with_reducible refine Or.inr (And.intro ?_ ?_)); (focus (first | exact fun _ h => (by rw [h]; rfl) | (intros; (repeat' (first | exact rfl | exact True.intro | exact Nat.le_refl _ | with_reducible refine And.intro ?_ ?_ | assumption)); done) | (intros; (try simp only [V.InR, V.lo, V.hi, decide_eq_true_eq, decide_eq_false_iff_not] at *); omega))); (conv => whnf)))); exact ⟨rfl⟩)); (conv => whnf))
  | ((with_reducible refine And.intro ?_ ?_); (focus (first | exact fun _ h => (by rw [h]; rfl) | (intros; (repeat' (first | exact rfl | exact True.intro | exact Nat.le_refl _ | with_reducible refine And.intro ?_ ?_ | assumption)); done) | (intros; (try simp only [V.InR, V.lo, V.hi, decide_eq_true_eq, decide_eq_false_iff_not] at *); omega))); (conv => whnf))
  | ((with_reducible refine GrdK.yes ?_ ?_); (focus (first | with_reducible assumption | rfl)); (conv => whnf))
  | ((with_reducible refine GrdK.no ?_ ?_); (focus (first | with_reducible assumption | rfl)); (conv => whnf))
  | ((with_reducible refine Cnd.no ?_ ?_); (focus decide); (conv => whnf))
  | ((with_reducible refine Cnd.yes ?_ ?_); (focus decide); (conv => whnf))
  | ((with_reducible refine Or.inl (And.intro ?_ ?_)); (focus (first | exact fun _ h => (by rw [h]; rfl) | (intros; (repeat' (first | exact rfl | exact True.intro | exact Nat.le_refl _ | with_reducible refine And.intro ?_ ?_ | assumption)); done) | (intros; (try simp only [V.InR, V.lo, V.hi, decide_eq_true_eq, decide_eq_false_iff_not] at *); omega))); (conv => whnf))
  | ((with_reducible refine Or.inr (And.intro ?_ ?_)); (focus (first | exact fun _ h => (by rw [h]; rfl) | (intros; (repeat' (first | exact rfl | exact True.intro | exact Nat.le_refl _ | with_reducible refine And.intro ?_ ?_ | assumption)); done) | (intros; (try simp only [V.InR, V.lo, V.hi, decide_eq_true_eq, decide_eq_false_iff_not] at *); omega))); (conv => whnf))
  | ((try ((with_reducible refine .ext ?_); (conv => whnf))); (with_reducible refine call_intro (r := ?_) ?_ ?_); rotate_left; (focus (first | exact (wakes_c) | exact (zer_c 1 (by decide)) | exact (zer_c 10 (by decide)) | exact (zer_c 32 (by decide)) | exact (zer_c 3 (by decide)) | exact (zer_c 2915 (by decide)) | exact (zer_c 4374 (by decide)))); (conv => whnf)))
  refine Lp.pub 44 ?_
  (conv => whnf)
  refine Lp.pub 48 ?_
  (conv => whnf)
  refine Lp.pub 52 ?_
  (conv => whnf)
  refine Lp.pub 56 ?_
  (conv => whnf)
  refine Lp.pub 58 ?_
  (conv => whnf)
  refine Lp.pub 62 ?_
  (conv => whnf)
  refine Lp.pub 63 ?_
  (conv => whnf)
  refine Lp.pub 65 ?_
  (conv => whnf)
  refine Lp.pub 66 ?_
  (conv => whnf)
  refine Lp.pub 68 ?_
  (conv => whnf)
  refine Lp.pub 72 ?_
  (conv => whnf)
  refine Lp.pub 76 ?_
  (conv => whnf)
  refine lp_go (11) (fun k => True) (fun k => [(82, .int .i64 k)]) (fun k => []) (by refine Wk.of2 ?_ ?_ <;> (repeat' (first | exact True.intro | exact rfl | (refine And.intro ?_ ?_)))) ?_ ?_
  · trivial
  intro k hk _
  have hk2 : k = 0 ∨ k = 1 ∨ k = 2 ∨ k = 3 ∨ k = 4 ∨ k = 5 ∨ k = 6 ∨ k = 7 ∨ k = 8 ∨ k = 9 ∨ k = 10 ∨ k = 11 := by omega
  rcases hk2 with rfl | rfl | rfl | rfl | rfl | rfl | rfl | rfl | rfl | rfl | rfl | rfl
  · have hg : okGrid (badS 0) (badO 0) (badDt 0) = false := by kernel_rfl
    have h1 : (badS 0).length ≤ 281474976710656 := (Nat.le_of_ble_eq_true (by kernel_rfl))
    have h2 : (badDt 0).length ≤ 281474976710656 := (Nat.le_of_ble_eq_true (by kernel_rfl))
    have c_place := bad_place (size := badS 0) (out := badO 0) (data := badDt 0) (s := .nil) (d := .nil) (Fin.nil _) (Fin.nil _) hg h1 h2
    have c_at := bad_at (size := badS 0) (out := badO 0) (data := badDt 0) (s := .nil) (d := .nil) (Fin.nil _) (Fin.nil _) hg h1 h2
    have c_range := bad_range (size := badS 0) (out := badO 0) (data := badDt 0) (s := .nil) (d := .nil) (Fin.nil _) (Fin.nil _) hg h1 h2
    have c_swap := bad_swap (size := badS 0) (out := badO 0) (data := badDt 0) (s := .nil) (d := .nil) (Fin.nil _) (Fin.nil _) hg h1 h2
    have c_pick := bad_pick (size := badS 0) (out := badO 0) (data := badDt 0) (s := .nil) (d := .nil) (Fin.nil _) (Fin.nil _) hg h1 h2
    have c_check := bad_check (size := badS 0) (out := badO 0) (data := badDt 0) (s := .nil) (d := .nil) (Fin.nil _) (Fin.nil _) hg h1 h2
    (conv => whnf)
    repeat (first
    | ((with_reducible first | refine And.intro ?_ draw_nil | refine Cnd.y ?_ | refine Cnd.n ?_ | refine Cnd.ny ?_ | refine Cnd.nn ?_); (conv => whnf))
    | ((with_reducible refine recheck_and ?_ ?_); (focus ((conv => whnf); (repeat (first | ((with_reducible refine And.intro ?_ ?_); (focus (first | exact fun _ h => (by rw [h]; rfl) | (intros; (repeat' (first | exact rfl | exact True.intro | exact Nat.le_refl _ | with_reducible refine And.intro ?_ ?_ | assumption)); done) | (intros; (try simp only [V.InR, V.lo, V.hi, decide_eq_true_eq, decide_eq_false_iff_not] at *); omega))); (conv => whnf)) | ((with_reducible refine Or.inl (And.intro ?_ ?_)); (focus (first | exact fun _ h => (by rw [h]; rfl) | (intros; (repeat' (first | exact rfl | exact True.intro | exact Nat.le_refl _ | with_reducible refine And.intro ?_ ?_ | assumption)); done) | (intros; (try simp only [V.InR, V.lo, V.hi, decide_eq_true_eq, decide_eq_false_iff_not] at *); omega))); (conv => whnf)) | ((with_reducible refine Or.inr (And.intro ?_ ?_)); (focus (first | exact fun _ h => (by rw [h]; rfl) | (intros; (repeat' (first | exact rfl | exact True.intro | exact Nat.le_refl _ | with_reducible refine And.intro ?_ ?_ | assumption)); done) | (intros; (try simp only [V.InR, V.lo, V.hi, decide_eq_true_eq, decide_eq_false_iff_not] at *); omega))); (conv => whnf)))); exact ⟨rfl⟩)); (conv => whnf))
    | ((with_reducible refine And.intro ?_ ?_); (focus (first | exact fun _ h => (by rw [h]; rfl) | (intros; (repeat' (first | exact rfl | exact True.intro | exact Nat.le_refl _ | with_reducible refine And.intro ?_ ?_ | assumption)); done) | (intros; (try simp only [V.InR, V.lo, V.hi, decide_eq_true_eq, decide_eq_false_iff_not] at *); omega))); (conv => whnf))
    | ((with_reducible refine GrdK.yes ?_ ?_); (focus (first | with_reducible assumption | rfl)); (conv => whnf))
    | ((with_reducible refine GrdK.no ?_ ?_); (focus (first | with_reducible assumption | rfl)); (conv => whnf))
    | ((with_reducible refine Cnd.no ?_ ?_); (focus decide); (conv => whnf))
    | ((with_reducible refine Cnd.yes ?_ ?_); (focus decide); (conv => whnf))
    | ((with_reducible refine Or.inl (And.intro ?_ ?_)); (focus (first | exact fun _ h => (by rw [h]; rfl) | (intros; (repeat' (first | exact rfl | exact True.intro | exact Nat.le_refl _ | with_reducible refine And.intro ?_ ?_ | assumption)); done) | (intros; (try simp only [V.InR, V.lo, V.hi, decide_eq_true_eq, decide_eq_false_iff_not] at *); omega))); (conv => whnf))
    | ((with_reducible refine Or.inr (And.intro ?_ ?_)); (focus (first | exact fun _ h => (by rw [h]; rfl) | (intros; (repeat' (first | exact rfl | exact True.intro | exact Nat.le_refl _ | with_reducible refine And.intro ?_ ?_ | assumption)); done) | (intros; (try simp only [V.InR, V.lo, V.hi, decide_eq_true_eq, decide_eq_false_iff_not] at *); omega))); (conv => whnf))
    | ((try ((with_reducible refine .ext ?_); (conv => whnf))); (with_reducible refine call_intro (r := ?_) ?_ ?_); rotate_left; (focus (first | exact (c_place) | exact (c_at) | exact (c_range) | exact (c_swap) | exact (c_pick) | exact (c_check))); (conv => whnf)))
    exact ⟨1, ⟨by omega, trivial⟩, by omega, by refine Wk.of2 ?_ ?_ <;> (repeat' (first | exact True.intro | exact rfl | (refine And.intro ?_ ?_)))⟩
  · have hg : okGrid (badS 1) (badO 1) (badDt 1) = false := by kernel_rfl
    have h1 : (badS 1).length ≤ 281474976710656 := (Nat.le_of_ble_eq_true (by kernel_rfl))
    have h2 : (badDt 1).length ≤ 281474976710656 := (Nat.le_of_ble_eq_true (by kernel_rfl))
    have c_place := bad_place (size := badS 1) (out := badO 1) (data := badDt 1) (s := .ints .i64 (badS 1)) (d := .ints .i64 (badDt 1)) (Fin.same _) (Fin.same _) hg h1 h2
    have c_at := bad_at (size := badS 1) (out := badO 1) (data := badDt 1) (s := .ints .i64 (badS 1)) (d := .ints .i64 (badDt 1)) (Fin.same _) (Fin.same _) hg h1 h2
    have c_range := bad_range (size := badS 1) (out := badO 1) (data := badDt 1) (s := .ints .i64 (badS 1)) (d := .ints .i64 (badDt 1)) (Fin.same _) (Fin.same _) hg h1 h2
    have c_swap := bad_swap (size := badS 1) (out := badO 1) (data := badDt 1) (s := .ints .i64 (badS 1)) (d := .ints .i64 (badDt 1)) (Fin.same _) (Fin.same _) hg h1 h2
    have c_pick := bad_pick (size := badS 1) (out := badO 1) (data := badDt 1) (s := .ints .i64 (badS 1)) (d := .ints .i64 (badDt 1)) (Fin.same _) (Fin.same _) hg h1 h2
    have c_check := bad_check (size := badS 1) (out := badO 1) (data := badDt 1) (s := .ints .i64 (badS 1)) (d := .ints .i64 (badDt 1)) (Fin.same _) (Fin.same _) hg h1 h2
    (conv => whnf)
    repeat (first
    | ((with_reducible first | refine And.intro ?_ draw_nil | refine Cnd.y ?_ | refine Cnd.n ?_ | refine Cnd.ny ?_ | refine Cnd.nn ?_); (conv => whnf))
    | ((with_reducible refine recheck_and ?_ ?_); (focus ((conv => whnf); (repeat (first | ((with_reducible refine And.intro ?_ ?_); (focus (first | exact fun _ h => (by rw [h]; rfl) | (intros; (repeat' (first | exact rfl | exact True.intro | exact Nat.le_refl _ | with_reducible refine And.intro ?_ ?_ | assumption)); done) | (intros; (try simp only [V.InR, V.lo, V.hi, decide_eq_true_eq, decide_eq_false_iff_not] at *); omega))); (conv => whnf)) | ((with_reducible refine Or.inl (And.intro ?_ ?_)); (focus (first | exact fun _ h => (by rw [h]; rfl) | (intros; (repeat' (first | exact rfl | exact True.intro | exact Nat.le_refl _ | with_reducible refine And.intro ?_ ?_ | assumption)); done) | (intros; (try simp only [V.InR, V.lo, V.hi, decide_eq_true_eq, decide_eq_false_iff_not] at *); omega))); (conv => whnf)) | ((with_reducible refine Or.inr (And.intro ?_ ?_)); (focus (first | exact fun _ h => (by rw [h]; rfl) | (intros; (repeat' (first | exact rfl | exact True.intro | exact Nat.le_refl _ | with_reducible refine And.intro ?_ ?_ | assumption)); done) | (intros; (try simp only [V.InR, V.lo, V.hi, decide_eq_true_eq, decide_eq_false_iff_not] at *); omega))); (conv => whnf)))); exact ⟨rfl⟩)); (conv => whnf))
    | ((with_reducible refine And.intro ?_ ?_); (focus (first | exact fun _ h => (by rw [h]; rfl) | (intros; (repeat' (first | exact rfl | exact True.intro | exact Nat.le_refl _ | with_reducible refine And.intro ?_ ?_ | assumption)); done) | (intros; (try simp only [V.InR, V.lo, V.hi, decide_eq_true_eq, decide_eq_false_iff_not] at *); omega))); (conv => whnf))
    | ((with_reducible refine GrdK.yes ?_ ?_); (focus (first | with_reducible assumption | rfl)); (conv => whnf))
    | ((with_reducible refine GrdK.no ?_ ?_); (focus (first | with_reducible assumption | rfl)); (conv => whnf))
    | ((with_reducible refine Cnd.no ?_ ?_); (focus decide); (conv => whnf))
    | ((with_reducible refine Cnd.yes ?_ ?_); (focus decide); (conv => whnf))
    | ((with_reducible refine Or.inl (And.intro ?_ ?_)); (focus (first | exact fun _ h => (by rw [h]; rfl) | (intros; (repeat' (first | exact rfl | exact True.intro | exact Nat.le_refl _ | with_reducible refine And.intro ?_ ?_ | assumption)); done) | (intros; (try simp only [V.InR, V.lo, V.hi, decide_eq_true_eq, decide_eq_false_iff_not] at *); omega))); (conv => whnf))
    | ((with_reducible refine Or.inr (And.intro ?_ ?_)); (focus (first | exact fun _ h => (by rw [h]; rfl) | (intros; (repeat' (first | exact rfl | exact True.intro | exact Nat.le_refl _ | with_reducible refine And.intro ?_ ?_ | assumption)); done) | (intros; (try simp only [V.InR, V.lo, V.hi, decide_eq_true_eq, decide_eq_false_iff_not] at *); omega))); (conv => whnf))
    | ((try ((with_reducible refine .ext ?_); (conv => whnf))); (with_reducible refine call_intro (r := ?_) ?_ ?_); rotate_left; (focus (first | exact (c_place) | exact (c_at) | exact (c_range) | exact (c_swap) | exact (c_pick) | exact (c_check))); (conv => whnf)))
    exact ⟨2, ⟨by omega, trivial⟩, by omega, by refine Wk.of2 ?_ ?_ <;> (repeat' (first | exact True.intro | exact rfl | (refine And.intro ?_ ?_)))⟩
  · have hg : okGrid (badS 2) (badO 2) (badDt 2) = false := by kernel_rfl
    have h1 : (badS 2).length ≤ 281474976710656 := (Nat.le_of_ble_eq_true (by kernel_rfl))
    have h2 : (badDt 2).length ≤ 281474976710656 := (Nat.le_of_ble_eq_true (by kernel_rfl))
    have c_place := bad_place (size := badS 2) (out := badO 2) (data := badDt 2) (s := .ints .i64 (badS 2)) (d := .ints .i64 (badDt 2)) (Fin.same _) (Fin.same _) hg h1 h2
    have c_at := bad_at (size := badS 2) (out := badO 2) (data := badDt 2) (s := .ints .i64 (badS 2)) (d := .ints .i64 (badDt 2)) (Fin.same _) (Fin.same _) hg h1 h2
    have c_range := bad_range (size := badS 2) (out := badO 2) (data := badDt 2) (s := .ints .i64 (badS 2)) (d := .ints .i64 (badDt 2)) (Fin.same _) (Fin.same _) hg h1 h2
    have c_swap := bad_swap (size := badS 2) (out := badO 2) (data := badDt 2) (s := .ints .i64 (badS 2)) (d := .ints .i64 (badDt 2)) (Fin.same _) (Fin.same _) hg h1 h2
    have c_pick := bad_pick (size := badS 2) (out := badO 2) (data := badDt 2) (s := .ints .i64 (badS 2)) (d := .ints .i64 (badDt 2)) (Fin.same _) (Fin.same _) hg h1 h2
    have c_check := bad_check (size := badS 2) (out := badO 2) (data := badDt 2) (s := .ints .i64 (badS 2)) (d := .ints .i64 (badDt 2)) (Fin.same _) (Fin.same _) hg h1 h2
    (conv => whnf)
    repeat (first
    | ((with_reducible first | refine And.intro ?_ draw_nil | refine Cnd.y ?_ | refine Cnd.n ?_ | refine Cnd.ny ?_ | refine Cnd.nn ?_); (conv => whnf))
    | ((with_reducible refine recheck_and ?_ ?_); (focus ((conv => whnf); (repeat (first | ((with_reducible refine And.intro ?_ ?_); (focus (first | exact fun _ h => (by rw [h]; rfl) | (intros; (repeat' (first | exact rfl | exact True.intro | exact Nat.le_refl _ | with_reducible refine And.intro ?_ ?_ | assumption)); done) | (intros; (try simp only [V.InR, V.lo, V.hi, decide_eq_true_eq, decide_eq_false_iff_not] at *); omega))); (conv => whnf)) | ((with_reducible refine Or.inl (And.intro ?_ ?_)); (focus (first | exact fun _ h => (by rw [h]; rfl) | (intros; (repeat' (first | exact rfl | exact True.intro | exact Nat.le_refl _ | with_reducible refine And.intro ?_ ?_ | assumption)); done) | (intros; (try simp only [V.InR, V.lo, V.hi, decide_eq_true_eq, decide_eq_false_iff_not] at *); omega))); (conv => whnf)) | ((with_reducible refine Or.inr (And.intro ?_ ?_)); (focus (first | exact fun _ h => (by rw [h]; rfl) | (intros; (repeat' (first | exact rfl | exact True.intro | exact Nat.le_refl _ | with_reducible refine And.intro ?_ ?_ | assumption)); done) | (intros; (try simp only [V.InR, V.lo, V.hi, decide_eq_true_eq, decide_eq_false_iff_not] at *); omega))); (conv => whnf)))); exact ⟨rfl⟩)); (conv => whnf))
    | ((with_reducible refine And.intro ?_ ?_); (focus (first | exact fun _ h => (by rw [h]; rfl) | (intros; (repeat' (first | exact rfl | exact True.intro | exact Nat.le_refl _ | with_reducible refine And.intro ?_ ?_ | assumption)); done) | (intros; (try simp only [V.InR, V.lo, V.hi, decide_eq_true_eq, decide_eq_false_iff_not] at *); omega))); (conv => whnf))
    | ((with_reducible refine GrdK.yes ?_ ?_); (focus (first | with_reducible assumption | rfl)); (conv => whnf))
    | ((with_reducible refine GrdK.no ?_ ?_); (focus (first | with_reducible assumption | rfl)); (conv => whnf))
    | ((with_reducible refine Cnd.no ?_ ?_); (focus decide); (conv => whnf))
    | ((with_reducible refine Cnd.yes ?_ ?_); (focus decide); (conv => whnf))
    | ((with_reducible refine Or.inl (And.intro ?_ ?_)); (focus (first | exact fun _ h => (by rw [h]; rfl) | (intros; (repeat' (first | exact rfl | exact True.intro | exact Nat.le_refl _ | with_reducible refine And.intro ?_ ?_ | assumption)); done) | (intros; (try simp only [V.InR, V.lo, V.hi, decide_eq_true_eq, decide_eq_false_iff_not] at *); omega))); (conv => whnf))
    | ((with_reducible refine Or.inr (And.intro ?_ ?_)); (focus (first | exact fun _ h => (by rw [h]; rfl) | (intros; (repeat' (first | exact rfl | exact True.intro | exact Nat.le_refl _ | with_reducible refine And.intro ?_ ?_ | assumption)); done) | (intros; (try simp only [V.InR, V.lo, V.hi, decide_eq_true_eq, decide_eq_false_iff_not] at *); omega))); (conv => whnf))
    | ((try ((with_reducible refine .ext ?_); (conv => whnf))); (with_reducible refine call_intro (r := ?_) ?_ ?_); rotate_left; (focus (first | exact (c_place) | exact (c_at) | exact (c_range) | exact (c_swap) | exact (c_pick) | exact (c_check))); (conv => whnf)))
    exact ⟨3, ⟨by omega, trivial⟩, by omega, by refine Wk.of2 ?_ ?_ <;> (repeat' (first | exact True.intro | exact rfl | (refine And.intro ?_ ?_)))⟩
  · have hg : okGrid (badS 3) (badO 3) (badDt 3) = false := by kernel_rfl
    have h1 : (badS 3).length ≤ 281474976710656 := (Nat.le_of_ble_eq_true (by kernel_rfl))
    have h2 : (badDt 3).length ≤ 281474976710656 := (Nat.le_of_ble_eq_true (by kernel_rfl))
    have c_place := bad_place (size := badS 3) (out := badO 3) (data := badDt 3) (s := .ints .i64 (badS 3)) (d := .ints .i64 (badDt 3)) (Fin.same _) (Fin.same _) hg h1 h2
    have c_at := bad_at (size := badS 3) (out := badO 3) (data := badDt 3) (s := .ints .i64 (badS 3)) (d := .ints .i64 (badDt 3)) (Fin.same _) (Fin.same _) hg h1 h2
    have c_range := bad_range (size := badS 3) (out := badO 3) (data := badDt 3) (s := .ints .i64 (badS 3)) (d := .ints .i64 (badDt 3)) (Fin.same _) (Fin.same _) hg h1 h2
    have c_swap := bad_swap (size := badS 3) (out := badO 3) (data := badDt 3) (s := .ints .i64 (badS 3)) (d := .ints .i64 (badDt 3)) (Fin.same _) (Fin.same _) hg h1 h2
    have c_pick := bad_pick (size := badS 3) (out := badO 3) (data := badDt 3) (s := .ints .i64 (badS 3)) (d := .ints .i64 (badDt 3)) (Fin.same _) (Fin.same _) hg h1 h2
    have c_check := bad_check (size := badS 3) (out := badO 3) (data := badDt 3) (s := .ints .i64 (badS 3)) (d := .ints .i64 (badDt 3)) (Fin.same _) (Fin.same _) hg h1 h2
    (conv => whnf)
    repeat (first
    | ((with_reducible first | refine And.intro ?_ draw_nil | refine Cnd.y ?_ | refine Cnd.n ?_ | refine Cnd.ny ?_ | refine Cnd.nn ?_); (conv => whnf))
    | ((with_reducible refine recheck_and ?_ ?_); (focus ((conv => whnf); (repeat (first | ((with_reducible refine And.intro ?_ ?_); (focus (first | exact fun _ h => (by rw [h]; rfl) | (intros; (repeat' (first | exact rfl | exact True.intro | exact Nat.le_refl _ | with_reducible refine And.intro ?_ ?_ | assumption)); done) | (intros; (try simp only [V.InR, V.lo, V.hi, decide_eq_true_eq, decide_eq_false_iff_not] at *); omega))); (conv => whnf)) | ((with_reducible refine Or.inl (And.intro ?_ ?_)); (focus (first | exact fun _ h => (by rw [h]; rfl) | (intros; (repeat' (first | exact rfl | exact True.intro | exact Nat.le_refl _ | with_reducible refine And.intro ?_ ?_ | assumption)); done) | (intros; (try simp only [V.InR, V.lo, V.hi, decide_eq_true_eq, decide_eq_false_iff_not] at *); omega))); (conv => whnf)) | ((with_reducible refine Or.inr (And.intro ?_ ?_)); (focus (first | exact fun _ h => (by rw [h]; rfl) | (intros; (repeat' (first | exact rfl | exact True.intro | exact Nat.le_refl _ | with_reducible refine And.intro ?_ ?_ | assumption)); done) | (intros; (try simp only [V.InR, V.lo, V.hi, decide_eq_true_eq, decide_eq_false_iff_not] at *); omega))); (conv => whnf)))); exact ⟨rfl⟩)); (conv => whnf))
    | ((with_reducible refine And.intro ?_ ?_); (focus (first | exact fun _ h => (by rw [h]; rfl) | (intros; (repeat' (first | exact rfl | exact True.intro | exact Nat.le_refl _ | with_reducible refine And.intro ?_ ?_ | assumption)); done) | (intros; (try simp only [V.InR, V.lo, V.hi, decide_eq_true_eq, decide_eq_false_iff_not] at *); omega))); (conv => whnf))
    | ((with_reducible refine GrdK.yes ?_ ?_); (focus (first | with_reducible assumption | rfl)); (conv => whnf))
    | ((with_reducible refine GrdK.no ?_ ?_); (focus (first | with_reducible assumption | rfl)); (conv => whnf))
    | ((with_reducible refine Cnd.no ?_ ?_); (focus decide); (conv => whnf))
    | ((with_reducible refine Cnd.yes ?_ ?_); (focus decide); (conv => whnf))
    | ((with_reducible refine Or.inl (And.intro ?_ ?_)); (focus (first | exact fun _ h => (by rw [h]; rfl) | (intros; (repeat' (first | exact rfl | exact True.intro | exact Nat.le_refl _ | with_reducible refine And.intro ?_ ?_ | assumption)); done) | (intros; (try simp only [V.InR, V.lo, V.hi, decide_eq_true_eq, decide_eq_false_iff_not] at *); omega))); (conv => whnf))
    | ((with_reducible refine Or.inr (And.intro ?_ ?_)); (focus (first | exact fun _ h => (by rw [h]; rfl) | (intros; (repeat' (first | exact rfl | exact True.intro | exact Nat.le_refl _ | with_reducible refine And.intro ?_ ?_ | assumption)); done) | (intros; (try simp only [V.InR, V.lo, V.hi, decide_eq_true_eq, decide_eq_false_iff_not] at *); omega))); (conv => whnf))
    | ((try ((with_reducible refine .ext ?_); (conv => whnf))); (with_reducible refine call_intro (r := ?_) ?_ ?_); rotate_left; (focus (first | exact (c_place) | exact (c_at) | exact (c_range) | exact (c_swap) | exact (c_pick) | exact (c_check))); (conv => whnf)))
    exact ⟨4, ⟨by omega, trivial⟩, by omega, by refine Wk.of2 ?_ ?_ <;> (repeat' (first | exact True.intro | exact rfl | (refine And.intro ?_ ?_)))⟩
  · have hg : okGrid (badS 4) (badO 4) (badDt 4) = false := by kernel_rfl
    have h1 : (badS 4).length ≤ 281474976710656 := (Nat.le_of_ble_eq_true (by kernel_rfl))
    have h2 : (badDt 4).length ≤ 281474976710656 := (Nat.le_of_ble_eq_true (by kernel_rfl))
    have c_place := bad_place (size := badS 4) (out := badO 4) (data := badDt 4) (s := .ints .i64 (badS 4)) (d := .nil) (Fin.same _) (Fin.nil _) hg h1 h2
    have c_at := bad_at (size := badS 4) (out := badO 4) (data := badDt 4) (s := .ints .i64 (badS 4)) (d := .nil) (Fin.same _) (Fin.nil _) hg h1 h2
    have c_range := bad_range (size := badS 4) (out := badO 4) (data := badDt 4) (s := .ints .i64 (badS 4)) (d := .nil) (Fin.same _) (Fin.nil _) hg h1 h2
    have c_swap := bad_swap (size := badS 4) (out := badO 4) (data := badDt 4) (s := .ints .i64 (badS 4)) (d := .nil) (Fin.same _) (Fin.nil _) hg h1 h2
    have c_pick := bad_pick (size := badS 4) (out := badO 4) (data := badDt 4) (s := .ints .i64 (badS 4)) (d := .nil) (Fin.same _) (Fin.nil _) hg h1 h2
    have c_check := bad_check (size := badS 4) (out := badO 4) (data := badDt 4) (s := .ints .i64 (badS 4)) (d := .nil) (Fin.same _) (Fin.nil _) hg h1 h2
    (conv => whnf)
    repeat (first
    | ((with_reducible first | refine And.intro ?_ draw_nil | refine Cnd.y ?_ | refine Cnd.n ?_ | refine Cnd.ny ?_ | refine Cnd.nn ?_); (conv => whnf))
    | ((with_reducible refine recheck_and ?_ ?_); (focus ((conv => whnf); (repeat (first | ((with_reducible refine And.intro ?_ ?_); (focus (first | exact fun _ h => (by rw [h]; rfl) | (intros; (repeat' (first | exact rfl | exact True.intro | exact Nat.le_refl _ | with_reducible refine And.intro ?_ ?_ | assumption)); done) | (intros; (try simp only [V.InR, V.lo, V.hi, decide_eq_true_eq, decide_eq_false_iff_not] at *); omega))); (conv => whnf)) | ((with_reducible refine Or.inl (And.intro ?_ ?_)); (focus (first | exact fun _ h => (by rw [h]; rfl) | (intros; (repeat' (first | exact rfl | exact True.intro | exact Nat.le_refl _ | with_reducible refine And.intro ?_ ?_ | assumption)); done) | (intros; (try simp only [V.InR, V.lo, V.hi, decide_eq_true_eq, decide_eq_false_iff_not] at *); omega))); (conv => whnf)) | ((with_reducible refine Or.inr (And.intro ?_ ?_)); (focus (first | exact fun _ h => (by rw [h]; rfl) | (intros; (repeat' (first | exact rfl | exact True.intro | exact Nat.le_refl _ | with_reducible refine And.intro ?_ ?_ | assumption)); done) | (intros; (try simp only [V.InR, V.lo, V.hi, decide_eq_true_eq, decide_eq_false_iff_not] at *); omega))); (conv => whnf)))); exact ⟨rfl⟩)); (conv => whnf))
    | ((with_reducible refine And.intro ?_ ?_); (focus (first | exact fun _ h => (by rw [h]; rfl) | (intros; (repeat' (first | exact rfl | exact True.intro | exact Nat.le_refl _ | with_reducible refine And.intro ?_ ?_ | assumption)); done) | (intros; (try simp only [V.InR, V.lo, V.hi, decide_eq_true_eq, decide_eq_false_iff_not] at *); omega))); (conv => whnf))
    | ((with_reducible refine GrdK.yes ?_ ?_); (focus (first | with_reducible assumption | rfl)); (conv => whnf))
    | ((with_reducible refine GrdK.no ?_ ?_); (focus (first | with_reducible assumption | rfl)); (conv => whnf))
    | ((with_reducible refine Cnd.no ?_ ?_); (focus decide); (conv => whnf))
    | ((with_reducible refine Cnd.yes ?_ ?_); (focus decide); (conv => whnf))
    | ((with_reducible refine Or.inl (And.intro ?_ ?_)); (focus (first | exact fun _ h => (by rw [h]; rfl) | (intros; (repeat' (first | exact rfl | exact True.intro | exact Nat.le_refl _ | with_reducible refine And.intro ?_ ?_ | assumption)); done) | (intros; (try simp only [V.InR, V.lo, V.hi, decide_eq_true_eq, decide_eq_false_iff_not] at *); omega))); (conv => whnf))
    | ((with_reducible refine Or.inr (And.intro ?_ ?_)); (focus (first | exact fun _ h => (by rw [h]; rfl) | (intros; (repeat' (first | exact rfl | exact True.intro | exact Nat.le_refl _ | with_reducible refine And.intro ?_ ?_ | assumption)); done) | (intros; (try simp only [V.InR, V.lo, V.hi, decide_eq_true_eq, decide_eq_false_iff_not] at *); omega))); (conv => whnf))
    | ((try ((with_reducible refine .ext ?_); (conv => whnf))); (with_reducible refine call_intro (r := ?_) ?_ ?_); rotate_left; (focus (first | exact (c_place) | exact (c_at) | exact (c_range) | exact (c_swap) | exact (c_pick) | exact (c_check))); (conv => whnf)))
    exact ⟨5, ⟨by omega, trivial⟩, by omega, by refine Wk.of2 ?_ ?_ <;> (repeat' (first | exact True.intro | exact rfl | (refine And.intro ?_ ?_)))⟩
  · have hg : okGrid (badS 5) (badO 5) (badDt 5) = false := by kernel_rfl
    have h1 : (badS 5).length ≤ 281474976710656 := (Nat.le_of_ble_eq_true (by kernel_rfl))
    have h2 : (badDt 5).length ≤ 281474976710656 := (Nat.le_of_ble_eq_true (by kernel_rfl))
    have c_place := bad_place (size := badS 5) (out := badO 5) (data := badDt 5) (s := .ints .i64 (badS 5)) (d := .ints .i64 (badDt 5)) (Fin.same _) (Fin.same _) hg h1 h2
    have c_at := bad_at (size := badS 5) (out := badO 5) (data := badDt 5) (s := .ints .i64 (badS 5)) (d := .ints .i64 (badDt 5)) (Fin.same _) (Fin.same _) hg h1 h2
    have c_range := bad_range (size := badS 5) (out := badO 5) (data := badDt 5) (s := .ints .i64 (badS 5)) (d := .ints .i64 (badDt 5)) (Fin.same _) (Fin.same _) hg h1 h2
    have c_swap := bad_swap (size := badS 5) (out := badO 5) (data := badDt 5) (s := .ints .i64 (badS 5)) (d := .ints .i64 (badDt 5)) (Fin.same _) (Fin.same _) hg h1 h2
    have c_pick := bad_pick (size := badS 5) (out := badO 5) (data := badDt 5) (s := .ints .i64 (badS 5)) (d := .ints .i64 (badDt 5)) (Fin.same _) (Fin.same _) hg h1 h2
    have c_check := bad_check (size := badS 5) (out := badO 5) (data := badDt 5) (s := .ints .i64 (badS 5)) (d := .ints .i64 (badDt 5)) (Fin.same _) (Fin.same _) hg h1 h2
    (conv => whnf)
    repeat (first
    | ((with_reducible first | refine And.intro ?_ draw_nil | refine Cnd.y ?_ | refine Cnd.n ?_ | refine Cnd.ny ?_ | refine Cnd.nn ?_); (conv => whnf))
    | ((with_reducible refine recheck_and ?_ ?_); (focus ((conv => whnf); (repeat (first | ((with_reducible refine And.intro ?_ ?_); (focus (first | exact fun _ h => (by rw [h]; rfl) | (intros; (repeat' (first | exact rfl | exact True.intro | exact Nat.le_refl _ | with_reducible refine And.intro ?_ ?_ | assumption)); done) | (intros; (try simp only [V.InR, V.lo, V.hi, decide_eq_true_eq, decide_eq_false_iff_not] at *); omega))); (conv => whnf)) | ((with_reducible refine Or.inl (And.intro ?_ ?_)); (focus (first | exact fun _ h => (by rw [h]; rfl) | (intros; (repeat' (first | exact rfl | exact True.intro | exact Nat.le_refl _ | with_reducible refine And.intro ?_ ?_ | assumption)); done) | (intros; (try simp only [V.InR, V.lo, V.hi, decide_eq_true_eq, decide_eq_false_iff_not] at *); omega))); (conv => whnf)) | ((with_reducible refine Or.inr (And.intro ?_ ?_)); (focus (first | exact fun _ h => (by rw [h]; rfl) | (intros; (repeat' (first | exact rfl | exact True.intro | exact Nat.le_refl _ | with_reducible refine And.intro ?_ ?_ | assumption)); done) | (intros; (try simp only [V.InR, V.lo, V.hi, decide_eq_true_eq, decide_eq_false_iff_not] at *); omega))); (conv => whnf)))); exact ⟨rfl⟩)); (conv => whnf))
    | ((with_reducible refine And.intro ?_ ?_); (focus (first | exact fun _ h => (by rw [h]; rfl) | (intros; (repeat' (first | exact rfl | exact True.intro | exact Nat.le_refl _ | with_reducible refine And.intro ?_ ?_ | assumption)); done) | (intros; (try simp only [V.InR, V.lo, V.hi, decide_eq_true_eq, decide_eq_false_iff_not] at *); omega))); (conv => whnf))
    | ((with_reducible refine GrdK.yes ?_ ?_); (focus (first | with_reducible assumption | rfl)); (conv => whnf))
    | ((with_reducible refine GrdK.no ?_ ?_); (focus (first | with_reducible assumption | rfl)); (conv => whnf))
    | ((with_reducible refine Cnd.no ?_ ?_); (focus decide); (conv => whnf))
    | ((with_reducible refine Cnd.yes ?_ ?_); (focus decide); (conv => whnf))
    | ((with_reducible refine Or.inl (And.intro ?_ ?_)); (focus (first | exact fun _ h => (by rw [h]; rfl) | (intros; (repeat' (first | exact rfl | exact True.intro | exact Nat.le_refl _ | with_reducible refine And.intro ?_ ?_ | assumption)); done) | (intros; (try simp only [V.InR, V.lo, V.hi, decide_eq_true_eq, decide_eq_false_iff_not] at *); omega))); (conv => whnf))
    | ((with_reducible refine Or.inr (And.intro ?_ ?_)); (focus (first | exact fun _ h => (by rw [h]; rfl) | (intros; (repeat' (first | exact rfl | exact True.intro | exact Nat.le_refl _ | with_reducible refine And.intro ?_ ?_ | assumption)); done) | (intros; (try simp only [V.InR, V.lo, V.hi, decide_eq_true_eq, decide_eq_false_iff_not] at *); omega))); (conv => whnf))
    | ((try ((with_reducible refine .ext ?_); (conv => whnf))); (with_reducible refine call_intro (r := ?_) ?_ ?_); rotate_left; (focus (first | exact (c_place) | exact (c_at) | exact (c_range) | exact (c_swap) | exact (c_pick) | exact (c_check))); (conv => whnf)))
    exact ⟨6, ⟨by omega, trivial⟩, by omega, by refine Wk.of2 ?_ ?_ <;> (repeat' (first | exact True.intro | exact rfl | (refine And.intro ?_ ?_)))⟩
  · have hg : okGrid (badS 6) (badO 6) (badDt 6) = false := by kernel_rfl
    have h1 : (badS 6).length ≤ 281474976710656 := (Nat.le_of_ble_eq_true (by kernel_rfl))
    have h2 : (badDt 6).length ≤ 281474976710656 := (Nat.le_of_ble_eq_true (by kernel_rfl))
    have c_place := bad_place (size := badS 6) (out := badO 6) (data := badDt 6) (s := .ints .i64 (badS 6)) (d := .ints .i64 (badDt 6)) (Fin.same _) (Fin.same _) hg h1 h2
    have c_at := bad_at (size := badS 6) (out := badO 6) (data := badDt 6) (s := .ints .i64 (badS 6)) (d := .ints .i64 (badDt 6)) (Fin.same _) (Fin.same _) hg h1 h2
    have c_range := bad_range (size := badS 6) (out := badO 6) (data := badDt 6) (s := .ints .i64 (badS 6)) (d := .ints .i64 (badDt 6)) (Fin.same _) (Fin.same _) hg h1 h2
    have c_swap := bad_swap (size := badS 6) (out := badO 6) (data := badDt 6) (s := .ints .i64 (badS 6)) (d := .ints .i64 (badDt 6)) (Fin.same _) (Fin.same _) hg h1 h2
    have c_pick := bad_pick (size := badS 6) (out := badO 6) (data := badDt 6) (s := .ints .i64 (badS 6)) (d := .ints .i64 (badDt 6)) (Fin.same _) (Fin.same _) hg h1 h2
    have c_check := bad_check (size := badS 6) (out := badO 6) (data := badDt 6) (s := .ints .i64 (badS 6)) (d := .ints .i64 (badDt 6)) (Fin.same _) (Fin.same _) hg h1 h2
    (conv => whnf)
    repeat (first
    | ((with_reducible first | refine And.intro ?_ draw_nil | refine Cnd.y ?_ | refine Cnd.n ?_ | refine Cnd.ny ?_ | refine Cnd.nn ?_); (conv => whnf))
    | ((with_reducible refine recheck_and ?_ ?_); (focus ((conv => whnf); (repeat (first | ((with_reducible refine And.intro ?_ ?_); (focus (first | exact fun _ h => (by rw [h]; rfl) | (intros; (repeat' (first | exact rfl | exact True.intro | exact Nat.le_refl _ | with_reducible refine And.intro ?_ ?_ | assumption)); done) | (intros; (try simp only [V.InR, V.lo, V.hi, decide_eq_true_eq, decide_eq_false_iff_not] at *); omega))); (conv => whnf)) | ((with_reducible refine Or.inl (And.intro ?_ ?_)); (focus (first | exact fun _ h => (by rw [h]; rfl) | (intros; (repeat' (first | exact rfl | exact True.intro | exact Nat.le_refl _ | with_reducible refine And.intro ?_ ?_ | assumption)); done) | (intros; (try simp only [V.InR, V.lo, V.hi, decide_eq_true_eq, decide_eq_false_iff_not] at *); omega))); (conv => whnf)) | ((with_reducible refine Or.inr (And.intro ?_ ?_)); (focus (first | exact fun _ h => (by rw [h]; rfl) | (intros; (repeat' (first | exact rfl | exact True.intro | exact Nat.le_refl _ | with_reducible refine And.intro ?_ ?_ | assumption)); done) | (intros; (try simp only [V.InR, V.lo, V.hi, decide_eq_true_eq, decide_eq_false_iff_not] at *); omega))); (conv => whnf)))); exact ⟨rfl⟩)); (conv => whnf))
    | ((with_reducible refine And.intro ?_ ?_); (focus (first | exact fun _ h => (by rw [h]; rfl) | (intros; (repeat' (first | exact rfl | exact True.intro | exact Nat.le_refl _ | with_reducible refine And.intro ?_ ?_ | assumption)); done) | (intros; (try simp only [V.InR, V.lo, V.hi, decide_eq_true_eq, decide_eq_false_iff_not] at *); omega))); (conv => whnf))
    | ((with_reducible refine GrdK.yes ?_ ?_); (focus (first | with_reducible assumption | rfl)); (conv => whnf))
    | ((with_reducible refine GrdK.no ?_ ?_); (focus (first | with_reducible assumption | rfl)); (conv => whnf))
    | ((with_reducible refine Cnd.no ?_ ?_); (focus decide); (conv => whnf))
    | ((with_reducible refine Cnd.yes ?_ ?_); (focus decide); (conv => whnf))
    | ((with_reducible refine Or.inl (And.intro ?_ ?_)); (focus (first | exact fun _ h => (by rw [h]; rfl) | (intros; (repeat' (first | exact rfl | exact True.intro | exact Nat.le_refl _ | with_reducible refine And.intro ?_ ?_ | assumption)); done) | (intros; (try simp only [V.InR, V.lo, V.hi, decide_eq_true_eq, decide_eq_false_iff_not] at *); omega))); (conv => whnf))
    | ((with_reducible refine Or.inr (And.intro ?_ ?_)); (focus (first | exact fun _ h => (by rw [h]; rfl) | (intros; (repeat' (first | exact rfl | exact True.intro | exact Nat.le_refl _ | with_reducible refine And.intro ?_ ?_ | assumption)); done) | (intros; (try simp only [V.InR, V.lo, V.hi, decide_eq_true_eq, decide_eq_false_iff_not] at *); omega))); (conv => whnf))
    | ((try ((with_reducible refine .ext ?_); (conv => whnf))); (with_reducible refine call_intro (r := ?_) ?_ ?_); rotate_left; (focus (first | exact (c_place) | exact (c_at) | exact (c_range) | exact (c_swap) | exact (c_pick) | exact (c_check))); (conv => whnf)))
    exact ⟨7, ⟨by omega, trivial⟩, by omega, by refine Wk.of2 ?_ ?_ <;> (repeat' (first | exact True.intro | exact rfl | (refine And.intro ?_ ?_)))⟩
  · have hg : okGrid (badS 7) (badO 7) (badDt 7) = false := by kernel_rfl
    have h1 : (badS 7).length ≤ 281474976710656 := (Nat.le_of_ble_eq_true (by kernel_rfl))
    have h2 : (badDt 7).length ≤ 281474976710656 := (Nat.le_of_ble_eq_true (by kernel_rfl))
    have c_place := bad_place (size := badS 7) (out := badO 7) (data := badDt 7) (s := .ints .i64 (badS 7)) (d := .ints .i64 (badDt 7)) (Fin.same _) (Fin.same _) hg h1 h2
    have c_at := bad_at (size := badS 7) (out := badO 7) (data := badDt 7) (s := .ints .i64 (badS 7)) (d := .ints .i64 (badDt 7)) (Fin.same _) (Fin.same _) hg h1 h2
    have c_range := bad_range (size := badS 7) (out := badO 7) (data := badDt 7) (s := .ints .i64 (badS 7)) (d := .ints .i64 (badDt 7)) (Fin.same _) (Fin.same _) hg h1 h2
    have c_swap := bad_swap (size := badS 7) (out := badO 7) (data := badDt 7) (s := .ints .i64 (badS 7)) (d := .ints .i64 (badDt 7)) (Fin.same _) (Fin.same _) hg h1 h2
    have c_pick := bad_pick (size := badS 7) (out := badO 7) (data := badDt 7) (s := .ints .i64 (badS 7)) (d := .ints .i64 (badDt 7)) (Fin.same _) (Fin.same _) hg h1 h2
    have c_check := bad_check (size := badS 7) (out := badO 7) (data := badDt 7) (s := .ints .i64 (badS 7)) (d := .ints .i64 (badDt 7)) (Fin.same _) (Fin.same _) hg h1 h2
    (conv => whnf)
    repeat (first
    | ((with_reducible first | refine And.intro ?_ draw_nil | refine Cnd.y ?_ | refine Cnd.n ?_ | refine Cnd.ny ?_ | refine Cnd.nn ?_); (conv => whnf))
    | ((with_reducible refine recheck_and ?_ ?_); (focus ((conv => whnf); (repeat (first | ((with_reducible refine And.intro ?_ ?_); (focus (first | exact fun _ h => (by rw [h]; rfl) | (intros; (repeat' (first | exact rfl | exact True.intro | exact Nat.le_refl _ | with_reducible refine And.intro ?_ ?_ | assumption)); done) | (intros; (try simp only [V.InR, V.lo, V.hi, decide_eq_true_eq, decide_eq_false_iff_not] at *); omega))); (conv => whnf)) | ((with_reducible refine Or.inl (And.intro ?_ ?_)); (focus (first | exact fun _ h => (by rw [h]; rfl) | (intros; (repeat' (first | exact rfl | exact True.intro | exact Nat.le_refl _ | with_reducible refine And.intro ?_ ?_ | assumption)); done) | (intros; (try simp only [V.InR, V.lo, V.hi, decide_eq_true_eq, decide_eq_false_iff_not] at *); omega))); (conv => whnf)) | ((with_reducible refine Or.inr (And.intro ?_ ?_)); (focus (first | exact fun _ h => (by rw [h]; rfl) | (intros; (repeat' (first | exact rfl | exact True.intro | exact Nat.le_refl _ | with_reducible refine And.intro ?_ ?_ | assumption)); done) | (intros; (try simp only [V.InR, V.lo, V.hi, decide_eq_true_eq, decide_eq_false_iff_not] at *); omega))); (conv => whnf)))); exact ⟨rfl⟩)); (conv => whnf))
    | ((with_reducible refine And.intro ?_ ?_); (focus (first | exact fun _ h => (by rw [h]; rfl) | (intros; (repeat' (first | exact rfl | exact True.intro | exact Nat.le_refl _ | with_reducible refine And.intro ?_ ?_ | assumption)); done) | (intros; (try simp only [V.InR, V.lo, V.hi, decide_eq_true_eq, decide_eq_false_iff_not] at *); omega))); (conv => whnf))
    | ((with_reducible refine GrdK.yes ?_ ?_); (focus (first | with_reducible assumption | rfl)); (conv => whnf))
    | ((with_reducible refine GrdK.no ?_ ?_); (focus (first | with_reducible assumption | rfl)); (conv => whnf))
    | ((with_reducible refine Cnd.no ?_ ?_); (focus decide); (conv => whnf))
    | ((with_reducible refine Cnd.yes ?_ ?_); (focus decide); (conv => whnf))
    | ((with_reducible refine Or.inl (And.intro ?_ ?_)); (focus (first | exact fun _ h => (by rw [h]; rfl) | (intros; (repeat' (first | exact rfl | exact True.intro | exact Nat.le_refl _ | with_reducible refine And.intro ?_ ?_ | assumption)); done) | (intros; (try simp only [V.InR, V.lo, V.hi, decide_eq_true_eq, decide_eq_false_iff_not] at *); omega))); (conv => whnf))
    | ((with_reducible refine Or.inr (And.intro ?_ ?_)); (focus (first | exact fun _ h => (by rw [h]; rfl) | (intros; (repeat' (first | exact rfl | exact True.intro | exact Nat.le_refl _ | with_reducible refine And.intro ?_ ?_ | assumption)); done) | (intros; (try simp only [V.InR, V.lo, V.hi, decide_eq_true_eq, decide_eq_false_iff_not] at *); omega))); (conv => whnf))
    | ((try ((with_reducible refine .ext ?_); (conv => whnf))); (with_reducible refine call_intro (r := ?_) ?_ ?_); rotate_left; (focus (first | exact (c_place) | exact (c_at) | exact (c_range) | exact (c_swap) | exact (c_pick) | exact (c_check))); (conv => whnf)))
    exact ⟨8, ⟨by omega, trivial⟩, by omega, by refine Wk.of2 ?_ ?_ <;> (repeat' (first | exact True.intro | exact rfl | (refine And.intro ?_ ?_)))⟩
  · have hg : okGrid (badS 8) (badO 8) (badDt 8) = false := by kernel_rfl
    have h1 : (badS 8).length ≤ 281474976710656 := (Nat.le_of_ble_eq_true (by kernel_rfl))
    have h2 : (badDt 8).length ≤ 281474976710656 := (Nat.le_of_ble_eq_true (by kernel_rfl))
    have c_place := bad_place (size := badS 8) (out := badO 8) (data := badDt 8) (s := .ints .i64 (badS 8)) (d := .ints .i64 (badDt 8)) (Fin.same _) (Fin.same _) hg h1 h2
    have c_at := bad_at (size := badS 8) (out := badO 8) (data := badDt 8) (s := .ints .i64 (badS 8)) (d := .ints .i64 (badDt 8)) (Fin.same _) (Fin.same _) hg h1 h2
    have c_range := bad_range (size := badS 8) (out := badO 8) (data := badDt 8) (s := .ints .i64 (badS 8)) (d := .ints .i64 (badDt 8)) (Fin.same _) (Fin.same _) hg h1 h2
    have c_swap := bad_swap (size := badS 8) (out := badO 8) (data := badDt 8) (s := .ints .i64 (badS 8)) (d := .ints .i64 (badDt 8)) (Fin.same _) (Fin.same _) hg h1 h2
    have c_pick := bad_pick (size := badS 8) (out := badO 8) (data := badDt 8) (s := .ints .i64 (badS 8)) (d := .ints .i64 (badDt 8)) (Fin.same _) (Fin.same _) hg h1 h2
    have c_check := bad_check (size := badS 8) (out := badO 8) (data := badDt 8) (s := .ints .i64 (badS 8)) (d := .ints .i64 (badDt 8)) (Fin.same _) (Fin.same _) hg h1 h2
    (conv => whnf)
    repeat (first
    | ((with_reducible first | refine And.intro ?_ draw_nil | refine Cnd.y ?_ | refine Cnd.n ?_ | refine Cnd.ny ?_ | refine Cnd.nn ?_); (conv => whnf))
    | ((with_reducible refine recheck_and ?_ ?_); (focus ((conv => whnf); (repeat (first | ((with_reducible refine And.intro ?_ ?_); (focus (first | exact fun _ h => (by rw [h]; rfl) | (intros; (repeat' (first | exact rfl | exact True.intro | exact Nat.le_refl _ | with_reducible refine And.intro ?_ ?_ | assumption)); done) | (intros; (try simp only [V.InR, V.lo, V.hi, decide_eq_true_eq, decide_eq_false_iff_not] at *); omega))); (conv => whnf)) | ((with_reducible refine Or.inl (And.intro ?_ ?_)); (focus (first | exact fun _ h => (by rw [h]; rfl) | (intros; (repeat' (first | exact rfl | exact True.intro | exact Nat.le_refl _ | with_reducible refine And.intro ?_ ?_ | assumption)); done) | (intros; (try simp only [V.InR, V.lo, V.hi, decide_eq_true_eq, decide_eq_false_iff_not] at *); omega))); (conv => whnf)) | ((with_reducible refine Or.inr (And.intro ?_ ?_)); (focus (first | exact fun _ h => (by rw [h]; rfl) | (intros; (repeat' (first | exact rfl | exact True.intro | exact Nat.le_refl _ | with_reducible refine And.intro ?_ ?_ | assumption)); done) | (intros; (try simp only [V.InR, V.lo, V.hi, decide_eq_true_eq, decide_eq_false_iff_not] at *); omega))); (conv => whnf)))); exact ⟨rfl⟩)); (conv => whnf))
    | ((with_reducible refine And.intro ?_ ?_); (focus (first | exact fun _ h => (by rw [h]; rfl) | (intros; (repeat' (first | exact rfl | exact True.intro | exact Nat.le_refl _ | with_reducible refine And.intro ?_ ?_ | assumption)); done) | (intros; (try simp only [V.InR, V.lo, V.hi, decide_eq_true_eq, decide_eq_false_iff_not] at *); omega))); (conv => whnf))
    | ((with_reducible refine GrdK.yes ?_ ?_); (focus (first | with_reducible assumption | rfl)); (conv => whnf))
    | ((with_reducible refine GrdK.no ?_ ?_); (focus (first | with_reducible assumption | rfl)); (conv => whnf))
    | ((with_reducible refine Cnd.no ?_ ?_); (focus decide); (conv => whnf))
    | ((with_reducible refine Cnd.yes ?_ ?_); (focus decide); (conv => whnf))
    | ((with_reducible refine Or.inl (And.intro ?_ ?_)); (focus (first | exact fun _ h => (by rw [h]; rfl) | (intros; (repeat' (first | exact rfl | exact True.intro | exact Nat.le_refl _ | with_reducible refine And.intro ?_ ?_ | assumption)); done) | (intros; (try simp only [V.InR, V.lo, V.hi, decide_eq_true_eq, decide_eq_false_iff_not] at *); omega))); (conv => whnf))
    | ((with_reducible refine Or.inr (And.intro ?_ ?_)); (focus (first | exact fun _ h => (by rw [h]; rfl) | (intros; (repeat' (first | exact rfl | exact True.intro | exact Nat.le_refl _ | with_reducible refine And.intro ?_ ?_ | assumption)); done) | (intros; (try simp only [V.InR, V.lo, V.hi, decide_eq_true_eq, decide_eq_false_iff_not] at *); omega))); (conv => whnf))
    | ((try ((with_reducible refine .ext ?_); (conv => whnf))); (with_reducible refine call_intro (r := ?_) ?_ ?_); rotate_left; (focus (first | exact (c_place) | exact (c_at) | exact (c_range) | exact (c_swap) | exact (c_pick) | exact (c_check))); (conv => whnf)))
    exact ⟨9, ⟨by omega, trivial⟩, by omega, by refine Wk.of2 ?_ ?_ <;> (repeat' (first | exact True.intro | exact rfl | (refine And.intro ?_ ?_)))⟩
  · have hg : okGrid (badS 9) (badO 9) (badDt 9) = false := by kernel_rfl
    have h1 : (badS 9).length ≤ 281474976710656 := (Nat.le_of_ble_eq_true (by kernel_rfl))
    have h2 : (badDt 9).length ≤ 281474976710656 := (Nat.le_of_ble_eq_true (by kernel_rfl))
    have c_place := bad_place (size := badS 9) (out := badO 9) (data := badDt 9) (s := .ints .i64 (badS 9)) (d := .ints .i64 (badDt 9)) (Fin.same _) (Fin.same _) hg h1 h2
    have c_at := bad_at (size := badS 9) (out := badO 9) (data := badDt 9) (s := .ints .i64 (badS 9)) (d := .ints .i64 (badDt 9)) (Fin.same _) (Fin.same _) hg h1 h2
    have c_range := bad_range (size := badS 9) (out := badO 9) (data := badDt 9) (s := .ints .i64 (badS 9)) (d := .ints .i64 (badDt 9)) (Fin.same _) (Fin.same _) hg h1 h2
    have c_swap := bad_swap (size := badS 9) (out := badO 9) (data := badDt 9) (s := .ints .i64 (badS 9)) (d := .ints .i64 (badDt 9)) (Fin.same _) (Fin.same _) hg h1 h2
    have c_pick := bad_pick (size := badS 9) (out := badO 9) (data := badDt 9) (s := .ints .i64 (badS 9)) (d := .ints .i64 (badDt 9)) (Fin.same _) (Fin.same _) hg h1 h2
    have c_check := bad_check (size := badS 9) (out := badO 9) (data := badDt 9) (s := .ints .i64 (badS 9)) (d := .ints .i64 (badDt 9)) (Fin.same _) (Fin.same _) hg h1 h2
    (conv => whnf)
    repeat (first
    | ((with_reducible first | refine And.intro ?_ draw_nil | refine Cnd.y ?_ | refine Cnd.n ?_ | refine Cnd.ny ?_ | refine Cnd.nn ?_); (conv => whnf))
    | ((with_reducible refine recheck_and ?_ ?_); (focus ((conv => whnf); (repeat (first | ((with_reducible refine And.intro ?_ ?_); (focus (first | exact fun _ h => (by rw [h]; rfl) | (intros; (repeat' (first | exact rfl | exact True.intro | exact Nat.le_refl _ | with_reducible refine And.intro ?_ ?_ | assumption)); done) | (intros; (try simp only [V.InR, V.lo, V.hi, decide_eq_true_eq, decide_eq_false_iff_not] at *); omega))); (conv => whnf)) | ((with_reducible refine Or.inl (And.intro ?_ ?_)); (focus (first | exact fun _ h => (by rw [h]; rfl) | (intros; (repeat' (first | exact rfl | exact True.intro | exact Nat.le_refl _ | with_reducible refine And.intro ?_ ?_ | assumption)); done) | (intros; (try simp only [V.InR, V.lo, V.hi, decide_eq_true_eq, decide_eq_false_iff_not] at *); omega))); (conv => whnf)) | ((with_reducible refine Or.inr (And.intro ?_ ?_)); (focus (first | exact fun _ h => (by rw [h]; rfl) | (intros; (repeat' (first | exact rfl | exact True.intro | exact Nat.le_refl _ | with_reducible refine And.intro ?_ ?_ | assumption)); done) | (intros; (try simp only [V.InR, V.lo, V.hi, decide_eq_true_eq, decide_eq_false_iff_not] at *); omega))); (conv => whnf)))); exact ⟨rfl⟩)); (conv => whnf))
    | ((with_reducible refine And.intro ?_ ?_); (focus (first | exact fun _ h => (by rw [h]; rfl) | (intros; (repeat' (first | exact rfl | exact True.intro | exact Nat.le_refl _ | with_reducible refine And.intro ?_ ?_ | assumption)); done) | (intros; (try simp only [V.InR, V.lo, V.hi, decide_eq_true_eq, decide_eq_false_iff_not] at *); omega))); (conv => whnf))
    | ((with_reducible refine GrdK.yes ?_ ?_); (focus (first | with_reducible assumption | rfl)); (conv => whnf))
    | ((with_reducible refine GrdK.no ?_ ?_); (focus (first | with_reducible assumption | rfl)); (conv => whnf))
    | ((with_reducible refine Cnd.no ?_ ?_); (focus decide); (conv => whnf))
    | ((with_reducible refine Cnd.yes ?_ ?_); (focus decide); (conv => whnf))
    | ((with_reducible refine Or.inl (And.intro ?_ ?_)); (focus (first | exact fun _ h => (by rw [h]; rfl) | (intros; (repeat' (first | exact rfl | exact True.intro | exact Nat.le_refl _ | with_reducible refine And.intro ?_ ?_ | assumption)); done) | (intros; (try simp only [V.InR, V.lo, V.hi, decide_eq_true_eq, decide_eq_false_iff_not] at *); omega))); (conv => whnf))
    | ((with_reducible refine Or.inr (And.intro ?_ ?_)); (focus (first | exact fun _ h => (by rw [h]; rfl) | (intros; (repeat' (first | exact rfl | exact True.intro | exact Nat.le_refl _ | with_reducible refine And.intro ?_ ?_ | assumption)); done) | (intros; (try simp only [V.InR, V.lo, V.hi, decide_eq_true_eq, decide_eq_false_iff_not] at *); omega))); (conv => whnf))
    | ((try ((with_reducible refine .ext ?_); (conv => whnf))); (with_reducible refine call_intro (r := ?_) ?_ ?_); rotate_left; (focus (first | exact (c_place) | exact (c_at) | exact (c_range) | exact (c_swap) | exact (c_pick) | exact (c_check))); (conv => whnf)))
    exact ⟨10, ⟨by omega, trivial⟩, by omega, by refine Wk.of2 ?_ ?_ <;> (repeat' (first | exact True.intro | exact rfl | (refine And.intro ?_ ?_)))⟩
  · have hg : okGrid (badS 10) (badO 10) (badDt 10) = false := by kernel_rfl
    have h1 : (badS 10).length ≤ 281474976710656 := (Nat.le_of_ble_eq_true (by kernel_rfl))
    have h2 : (badDt 10).length ≤ 281474976710656 := (Nat.le_of_ble_eq_true (by kernel_rfl))
    have c_place := bad_place (size := badS 10) (out := badO 10) (data := badDt 10) (s := .ints .i64 (badS 10)) (d := .ints .i64 (badDt 10)) (Fin.same _) (Fin.same _) hg h1 h2
    have c_at := bad_at (size := badS 10) (out := badO 10) (data := badDt 10) (s := .ints .i64 (badS 10)) (d := .ints .i64 (badDt 10)) (Fin.same _) (Fin.same _) hg h1 h2
    have c_range := bad_range (size := badS 10) (out := badO 10) (data := badDt 10) (s := .ints .i64 (badS 10)) (d := .ints .i64 (badDt 10)) (Fin.same _) (Fin.same _) hg h1 h2
    have c_swap := bad_swap (size := badS 10) (out := badO 10) (data := badDt 10) (s := .ints .i64 (badS 10)) (d := .ints .i64 (badDt 10)) (Fin.same _) (Fin.same _) hg h1 h2
    have c_pick := bad_pick (size := badS 10) (out := badO 10) (data := badDt 10) (s := .ints .i64 (badS 10)) (d := .ints .i64 (badDt 10)) (Fin.same _) (Fin.same _) hg h1 h2
    have c_check := bad_check (size := badS 10) (out := badO 10) (data := badDt 10) (s := .ints .i64 (badS 10)) (d := .ints .i64 (badDt 10)) (Fin.same _) (Fin.same _) hg h1 h2
    (conv => whnf)
    repeat (first
    | ((with_reducible first | refine And.intro ?_ draw_nil | refine Cnd.y ?_ | refine Cnd.n ?_ | refine Cnd.ny ?_ | refine Cnd.nn ?_); (conv => whnf))
    | ((with_reducible refine recheck_and ?_ ?_); (focus ((conv => whnf); (repeat (first | ((with_reducible refine And.intro ?_ ?_); (focus (first | exact fun _ h => (by rw [h]; rfl) | (intros; (repeat' (first | exact rfl | exact True.intro | exact Nat.le_refl _ | with_reducible refine And.intro ?_ ?_ | assumption)); done) | (intros; (try simp only [V.InR, V.lo, V.hi, decide_eq_true_eq, decide_eq_false_iff_not] at *); omega))); (conv => whnf)) | ((with_reducible refine Or.inl (And.intro ?_ ?_)); (focus (first | exact fun _ h => (by rw [h]; rfl) | (intros; (repeat' (first | exact rfl | exact True.intro | exact Nat.le_refl _ | with_reducible refine And.intro ?_ ?_ | assumption)); done) | (intros; (try simp only [V.InR, V.lo, V.hi, decide_eq_true_eq, decide_eq_false_iff_not] at *); omega))); (conv => whnf)) | ((with_reducible refine Or.inr (And.intro ?_ ?_)); (focus (first | exact fun _ h => (by rw [h]; rfl) | (intros; (repeat' (first | exact rfl | exact True.intro | exact Nat.le_refl _ | with_reducible refine And.intro ?_ ?_ | assumption)); done) | (intros; (try simp only [V.InR, V.lo, V.hi, decide_eq_true_eq, decide_eq_false_iff_not] at *); omega))); (conv => whnf)))); exact ⟨rfl⟩)); (conv => whnf))
    | ((with_reducible refine And.intro ?_ ?_); (focus (first | exact fun _ h => (by rw [h]; rfl) | (intros; (repeat' (first | exact rfl | exact True.intro | exact Nat.le_refl _ | with_reducible refine And.intro ?_ ?_ | assumption)); done) | (intros; (try simp only [V.InR, V.lo, V.hi, decide_eq_true_eq, decide_eq_false_iff_not] at *); omega))); (conv => whnf))
    | ((with_reducible refine GrdK.yes ?_ ?_); (focus (first | with_reducible assumption | rfl)); (conv => whnf))
    | ((with_reducible refine GrdK.no ?_ ?_); (focus (first | with_reducible assumption | rfl)); (conv => whnf))
    | ((with_reducible refine Cnd.no ?_ ?_); (focus decide); (conv => whnf))
    | ((with_reducible refine Cnd.yes ?_ ?_); (focus decide); (conv => whnf))
    | ((with_reducible refine Or.inl (And.intro ?_ ?_)); (focus (first | exact fun _ h => (by rw [h]; rfl) | (intros; (repeat' (first | exact rfl | exact True.intro | exact Nat.le_refl _ | with_reducible refine And.intro ?_ ?_ | assumption)); done) | (intros; (try simp only [V.InR, V.lo, V.hi, decide_eq_true_eq, decide_eq_false_iff_not] at *); omega))); (conv => whnf))
    | ((with_reducible refine Or.inr (And.intro ?_ ?_)); (focus (first | exact fun _ h => (by rw [h]; rfl) | (intros; (repeat' (first | exact rfl | exact True.intro | exact Nat.le_refl _ | with_reducible refine And.intro ?_ ?_ | assumption)); done) | (intros; (try simp only [V.InR, V.lo, V.hi, decide_eq_true_eq, decide_eq_false_iff_not] at *); omega))); (conv => whnf))
    | ((try ((with_reducible refine .ext ?_); (conv => whnf))); (with_reducible refine call_intro (r := ?_) ?_ ?_); rotate_left; (focus (first | exact (c_place) | exact (c_at) | exact (c_range) | exact (c_swap) | exact (c_pick) | exact (c_check))); (conv => whnf)))
    exact ⟨11, ⟨by omega, trivial⟩, by omega, by refine Wk.of2 ?_ ?_ <;> (repeat' (first | exact True.intro | exact rfl | (refine And.intro ?_ ?_)))⟩
  · have hl1 : ([2, 3] : List Int).length ≤ 281474976710656 := by decide
    have hl2 : dat12.length ≤ 281474976710656 := by decide
    have hb1 : ([8, 8, 8, 8] : List Int).length ≤ 281474976710656 := by decide
    have hb2 : (zer 4096).length ≤ 281474976710656 := Nat.le_of_ble_eq_true (by kernel_rfl)
    have a1 : Called Try.prog 15 [gridD [2, 3] 2 dat12, .ints .i64 [0]] (.tup [.ints .i64 [], .int .i64 2]) := Called.cast (gat_c _ _ _ _ hl1 hl2 (by decide)) (by kernel_rfl)
    have a2 : Called Try.prog 15 [gridD [2, 3] 2 dat12, .ints .i64 [0, 0, 0]] (.tup [.ints .i64 [], .int .i64 2]) := Called.cast (gat_c _ _ _ _ hl1 hl2 (by decide)) (by kernel_rfl)
    have p1 : Called Try.prog 13 [gridD [2, 3] 2 dat12, .ints .i64 [0, -1]] (.tup [.int .i64 0, .int .i64 2]) := Called.cast (gplace_c _ _ _ _ hl1 hl2 (by decide)) (by kernel_rfl)
    have s1 : Called Try.prog 18 [gridD [2, 3] 2 dat12, .int .i64 0, .int .i64 2] (.tup [gridD [] 0 [], .int .i64 2]) := Called.cast (swap_c _ _ _ _ _ hl1 hl2) (by kernel_rfl)
    have s2 : Called Try.prog 18 [gridD [2, 3] 2 dat12, .int .i64 (-1), .int .i64 0] (.tup [gridD [] 0 [], .int .i64 2]) := Called.cast (swap_c _ _ _ _ _ hl1 hl2) (by kernel_rfl)
    have k1 : Called Try.prog 21 [gridD [2, 3] 2 dat12, .ints .i64 [2]] (.tup [gridD [] 0 [], .int .i64 2]) := Called.cast (pick_c _ _ _ _ hl1 hl2 (by decide)) (by kernel_rfl)
    have k2 : Called Try.prog 21 [gridD [2, 3] 2 dat12, .nil] (.tup [gridD [] 0 [], .int .i64 2]) := Called.arg (ds' := [gridD [2, 3] 2 dat12, .ints .i64 []]) ⟨Fin.same _, Fin.nil _, trivial⟩ (Called.cast (pick_c _ _ _ _ hl1 hl2 (by decide)) (by kernel_rfl))
    have k3 : Called Try.prog 21 [gridD [2, 3] 2 dat12, .ints .i64 [0, 0, 0, 0, 0]] (.tup [gridD [] 0 [], .int .i64 2]) := Called.cast (pick_c _ _ _ _ hl1 hl2 (by decide)) (by kernel_rfl)
    have k4 : Called Try.prog 21 [gridD [8, 8, 8, 8] 1 (zer 4096), .ints .i64 [0, 0]] (.tup [gridD [] 0 [], .int .i64 3]) := Called.cast (pick_c _ _ _ _ hb1 hb2 (by decide)) (by kernel_rfl)
    have k5 : Called Try.prog 21 [gridD [8, 8, 8, 8] 1 (zer 4096), .ints .i64 [0, 1]] (.tup [gridD [] 0 [], .int .i64 2]) := Called.cast (pick_c _ _ _ _ hb1 hb2 (by decide)) (by kernel_rfl)
    have k6 : Called Try.prog 21 [gridD [2, 3] 2 dat12, .ints .i64 [1, 1, 0, 1]] (.tup [gridD [2, 3] 4 one24, .int .i64 0]) := Called.cast (pick_c _ _ _ _ hl1 hl2 (by decide)) (by kernel_rfl)
    have c1 : Called Try.prog 25 [gridD [8, 8, 8, 8] 1 (zer 4096)] (.int .i64 0) := Called.cast (check_c _ _ _ hb1 hb2) (by kernel_rfl)
    have z1 := zer_c 4096 (by decide)
    (conv => whnf)
    repeat (first
    | ((with_reducible first | refine And.intro ?_ draw_nil | refine Cnd.y ?_ | refine Cnd.n ?_ | refine Cnd.ny ?_ | refine Cnd.nn ?_); (conv => whnf))
    | ((with_reducible refine recheck_and ?_ ?_); (focus ((conv => whnf); (repeat (first | ((with_reducible refine And.intro ?_ ?_); (focus (first | exact fun _ h => (by rw [h]; rfl) | (intros; (repeat' (first | exact rfl | exact True.intro | exact Nat.le_refl _ | with_reducible refine And.intro ?_ ?_ | assumption)); done) | (intros; (try simp only [V.InR, V.lo, V.hi, decide_eq_true_eq, decide_eq_false_iff_not] at *); omega))); (conv => whnf)) | ((with_reducible refine Or.inl (And.intro ?_ ?_)); (focus (first | exact fun _ h => (by rw [h]; rfl) | (intros; (repeat' (first | exact rfl | exact True.intro | exact Nat.le_refl _ | with_reducible refine And.intro ?_ ?_ | assumption)); done) | (intros; (try simp only [V.InR, V.lo, V.hi, decide_eq_true_eq, decide_eq_false_iff_not] at *); omega))); (conv => whnf)) | ((with_reducible refine Or.inr (And.intro ?_ ?_)); (focus (first | exact fun _ h => (by rw [h]; rfl) | (intros; (repeat' (first | exact rfl | exact True.intro | exact Nat.le_refl _ | with_reducible refine And.intro ?_ ?_ | assumption)); done) | (intros; (try simp only [V.InR, V.lo, V.hi, decide_eq_true_eq, decide_eq_false_iff_not] at *); omega))); (conv => whnf)))); exact ⟨rfl⟩)); (conv => whnf))
    | ((with_reducible refine And.intro ?_ ?_); (focus (first | exact fun _ h => (by rw [h]; rfl) | (intros; (repeat' (first | exact rfl | exact True.intro | exact Nat.le_refl _ | with_reducible refine And.intro ?_ ?_ | assumption)); done) | (intros; (try simp only [V.InR, V.lo, V.hi, decide_eq_true_eq, decide_eq_false_iff_not] at *); omega))); (conv => whnf))
    | ((with_reducible refine GrdK.yes ?_ ?_); (focus (first | with_reducible assumption | rfl)); (conv => whnf))
    | ((with_reducible refine GrdK.no ?_ ?_); (focus (first | with_reducible assumption | rfl)); (conv => whnf))
    | ((with_reducible refine Cnd.no ?_ ?_); (focus decide); (conv => whnf))
    | ((with_reducible refine Cnd.yes ?_ ?_); (focus decide); (conv => whnf))
    | ((with_reducible refine Or.inl (And.intro ?_ ?_)); (focus (first | exact fun _ h => (by rw [h]; rfl) | (intros; (repeat' (first | exact rfl | exact True.intro | exact Nat.le_refl _ | with_reducible refine And.intro ?_ ?_ | assumption)); done) | (intros; (try simp only [V.InR, V.lo, V.hi, decide_eq_true_eq, decide_eq_false_iff_not] at *); omega))); (conv => whnf))
    | ((with_reducible refine Or.inr (And.intro ?_ ?_)); (focus (first | exact fun _ h => (by rw [h]; rfl) | (intros; (repeat' (first | exact rfl | exact True.intro | exact Nat.le_refl _ | with_reducible refine And.intro ?_ ?_ | assumption)); done) | (intros; (try simp only [V.InR, V.lo, V.hi, decide_eq_true_eq, decide_eq_false_iff_not] at *); omega))); (conv => whnf))
    | ((try ((with_reducible refine .ext ?_); (conv => whnf))); (with_reducible refine call_intro (r := ?_) ?_ ?_); rotate_left; (focus (first | exact (twelve_c) | exact (a1) | exact (a2) | exact (p1) | exact (s1) | exact (s2) | exact (k1) | exact (k2) | exact (k3) | exact (k4) | exact (k5) | exact (k6) | exact (c1) | exact (z1))); (conv => whnf)))
    refine And.intro (fun _ => by decide) ?_
    (conv => whnf)
    repeat (first
    | ((with_reducible first | refine And.intro ?_ draw_nil | refine Cnd.y ?_ | refine Cnd.n ?_ | refine Cnd.ny ?_ | refine Cnd.nn ?_); (conv => whnf))
    | ((with_reducible refine recheck_and ?_ ?_); (focus ((conv => whnf); (repeat (first | ((with_reducible refine And.intro ?_ ?_); (focus (first | exact fun _ h => (by rw [h]; rfl) | (intros; (repeat' (first | exact rfl | exact True.intro | exact Nat.le_refl _ | with_reducible refine And.intro ?_ ?_ | assumption)); done) | (intros; (try simp only [V.InR, V.lo, V.hi, decide_eq_true_eq, decide_eq_false_iff_not] at *); omega))); (conv => whnf)) | ((with_reducible refine Or.inl (And.intro ?_ ?_)); (focus (first | exact fun _ h => (by rw [h]; rfl) | (intros; (repeat' (first | exact rfl | exact True.intro | exact Nat.le_refl _ | with_reducible refine And.intro ?_ ?_ | assumption)); done) | (intros; (try simp only [V.InR, V.lo, V.hi, decide_eq_true_eq, decide_eq_false_iff_not] at *); omega))); (conv => whnf)) | ((with_reducible refine Or.inr (And.intro ?_ ?_)); (focus (first | exact fun _ h => (by rw [h]; rfl) | (intros; (repeat' (first | exact rfl | exact True.intro | exact Nat.le_refl _ | with_reducible refine And.intro ?_ ?_ | assumption)); done) | (intros; (try simp only [V.InR, V.lo, V.hi, decide_eq_true_eq, decide_eq_false_iff_not] at *); omega))); (conv => whnf)))); exact ⟨rfl⟩)); (conv => whnf))
    | ((with_reducible refine And.intro ?_ ?_); (focus (first | exact fun _ h => (by rw [h]; rfl) | (intros; (repeat' (first | exact rfl | exact True.intro | exact Nat.le_refl _ | with_reducible refine And.intro ?_ ?_ | assumption)); done) | (intros; (try simp only [V.InR, V.lo, V.hi, decide_eq_true_eq, decide_eq_false_iff_not] at *); omega))); (conv => whnf))
    | ((with_reducible refine GrdK.yes ?_ ?_); (focus (first | with_reducible assumption | rfl)); (conv => whnf))
    | ((with_reducible refine GrdK.no ?_ ?_); (focus (first | with_reducible assumption | rfl)); (conv => whnf))
    | ((with_reducible refine Cnd.no ?_ ?_); (focus decide); (conv => whnf))
    | ((with_reducible refine Cnd.yes ?_ ?_); (focus decide); (conv => whnf))
    | ((with_reducible refine Or.inl (And.intro ?_ ?_)); (focus (first | exact fun _ h => (by rw [h]; rfl) | (intros; (repeat' (first | exact rfl | exact True.intro | exact Nat.le_refl _ | with_reducible refine And.intro ?_ ?_ | assumption)); done) | (intros; (try simp only [V.InR, V.lo, V.hi, decide_eq_true_eq, decide_eq_false_iff_not] at *); omega))); (conv => whnf))
    | ((with_reducible refine Or.inr (And.intro ?_ ?_)); (focus (first | exact fun _ h => (by rw [h]; rfl) | (intros; (repeat' (first | exact rfl | exact True.intro | exact Nat.le_refl _ | with_reducible refine And.intro ?_ ?_ | assumption)); done) | (intros; (try simp only [V.InR, V.lo, V.hi, decide_eq_true_eq, decide_eq_false_iff_not] at *); omega))); (conv => whnf))
    | ((try ((with_reducible refine .ext ?_); (conv => whnf))); (with_reducible refine call_intro (r := ?_) ?_ ?_); rotate_left; (focus (first | fail)); (conv => whnf)))
    refine And.intro (fun _ => by decide) ?_
    (conv => whnf)
    repeat (first
    | ((with_reducible first | refine And.intro ?_ draw_nil | refine Cnd.y ?_ | refine Cnd.n ?_ | refine Cnd.ny ?_ | refine Cnd.nn ?_); (conv => whnf))
    | ((with_reducible refine recheck_and ?_ ?_); (focus ((conv => whnf); (repeat (first | ((with_reducible refine And.intro ?_ ?_); (focus (first | exact fun _ h => (by rw [h]; rfl) | (intros; (repeat' (first | exact rfl | exact True.intro | exact Nat.le_refl _ | with_reducible refine And.intro ?_ ?_ | assumption)); done) | (intros; (try simp only [V.InR, V.lo, V.hi, decide_eq_true_eq, decide_eq_false_iff_not] at *); omega))); (conv => whnf)) | ((with_reducible refine Or.inl (And.intro ?_ ?_)); (focus (first | exact fun _ h => (by rw [h]; rfl) | (intros; (repeat' (first | exact rfl | exact True.intro | exact Nat.le_refl _ | with_reducible refine And.intro ?_ ?_ | assumption)); done) | (intros; (try simp only [V.InR, V.lo, V.hi, decide_eq_true_eq, decide_eq_false_iff_not] at *); omega))); (conv => whnf)) | ((with_reducible refine Or.inr (And.intro ?_ ?_)); (focus (first | exact fun _ h => (by rw [h]; rfl) | (intros; (repeat' (first | exact rfl | exact True.intro | exact Nat.le_refl _ | with_reducible refine And.intro ?_ ?_ | assumption)); done) | (intros; (try simp only [V.InR, V.lo, V.hi, decide_eq_true_eq, decide_eq_false_iff_not] at *); omega))); (conv => whnf)))); exact ⟨rfl⟩)); (conv => whnf))
    | ((with_reducible refine And.intro ?_ ?_); (focus (first | exact fun _ h => (by rw [h]; rfl) | (intros; (repeat' (first | exact rfl | exact True.intro | exact Nat.le_refl _ | with_reducible refine And.intro ?_ ?_ | assumption)); done) | (intros; (try simp only [V.InR, V.lo, V.hi, decide_eq_true_eq, decide_eq_false_iff_not] at *); omega))); (conv => whnf))
    | ((with_reducible refine GrdK.yes ?_ ?_); (focus (first | with_reducible assumption | rfl)); (conv => whnf))
    | ((with_reducible refine GrdK.no ?_ ?_); (focus (first | with_reducible assumption | rfl)); (conv => whnf))
    | ((with_reducible refine Cnd.no ?_ ?_); (focus decide); (conv => whnf))
    | ((with_reducible refine Cnd.yes ?_ ?_); (focus decide); (conv => whnf))
    | ((with_reducible refine Or.inl (And.intro ?_ ?_)); (focus (first | exact fun _ h => (by rw [h]; rfl) | (intros; (repeat' (first | exact rfl | exact True.intro | exact Nat.le_refl _ | with_reducible refine And.intro ?_ ?_ | assumption)); done) | (intros; (try simp only [V.InR, V.lo, V.hi, decide_eq_true_eq, decide_eq_false_iff_not] at *); omega))); (conv => whnf))
    | ((with_reducible refine Or.inr (And.intro ?_ ?_)); (focus (first | exact fun _ h => (by rw [h]; rfl) | (intros; (repeat' (first | exact rfl | exact True.intro | exact Nat.le_refl _ | with_reducible refine And.intro ?_ ?_ | assumption)); done) | (intros; (try simp only [V.InR, V.lo, V.hi, decide_eq_true_eq, decide_eq_false_iff_not] at *); omega))); (conv => whnf))
    | ((try ((with_reducible refine .ext ?_); (conv => whnf))); (with_reducible refine call_intro (r := ?_) ?_ ?_); rotate_left; (focus (first | fail)); (conv => whnf)))
    exact Fin.of (by kernel_rfl)
end Go.Proofs.Ytfhmfpneiagakaa
