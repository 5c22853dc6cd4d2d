/- What some functions of the program answer at values that mean given lists and numbers, each proved of the program's own code. Conditions: those that each theorem names. -/
import Derived.Test.YtfhmfpneiagakaaT22
import Derived.Test.YtfhmfpneiagakaaT15
set_option linter.unusedSimpArgs false
set_option linter.unusedVariables false
set_option maxHeartbeats 8000000
set_option maxRecDepth 100000
namespace Go.Proofs.Ytfhmfpneiagakaa
open Go Go.V Go.Gr
def bendsD (w0 a0 n0 w1 a1 n1 : Int) : D := .agg [.int .u8 w0, .int .u8 a0, .int .i64 n0, .int .u8 w1, .int .u8 a1, .int .i64 n1]
def fourD (s0 : List Int) (o0 : Int) (d0 : List Int) (s1 : List Int) (o1 : Int) (d1 : List Int) (s2 : List Int) (o2 : Int) (d2 : List Int) (s3 : List Int) (o3 : Int) (d3 : List Int) : D :=
  .agg [.ints .i64 s0, .int .i64 o0, .ints .i64 d0, .ints .i64 s1, .int .i64 o1, .ints .i64 d1, .ints .i64 s2, .int .i64 o2, .ints .i64 d2, .ints .i64 s3, .int .i64 o3, .ints .i64 d3]
theorem four_c (size : List Int) (out : Int) (data : List Int) (ds : List Int) (o : Int) (vals : List Int) (sm : Bool) (w0 a0 n0 w1 a1 n1 : Int)
    (hs : size.length ≤ 281474976710656) (hda : data.length ≤ 281474976710656)
    (hd : ∀ v ∈ ds, 0 ≤ v ∧ v ≤ 255) (hdl : ds.length ≤ 281474976710656) (ho : 0 ≤ o ∧ o ≤ 255) (hv : ∀ v ∈ vals, 0 ≤ v ∧ v ≤ 65535) (hvl : vals.length ≤ 281474976710656)
    (hw0 : 0 ≤ w0 ∧ w0 ≤ 255) (ha0 : 0 ≤ a0 ∧ a0 ≤ 255) (hw1 : 0 ≤ w1 ∧ w1 ≤ 255) (ha1 : 0 ≤ a1 ∧ a1 ≤ 255) :
    ∃ s0 o0 d0 s1 o1 d1 s2 o2 d2 s3 o3 d3, Called Try.prog 11 [gridD size out data, draftD ds o vals sm, bendsD w0 a0 n0 w1 a1 n1] (fourD s0 o0 d0 s1 o1 d1 s2 o2 d2 s3 o3 d3) ∧
      (s0.length ≤ 100 ∧ d0.length ≤ 100000) ∧ (s1.length ≤ 100 ∧ d1.length ≤ 100000) ∧ (s2.length ≤ 100 ∧ d2.length ≤ 100000) ∧ (s3.length ≤ 100 ∧ d3.length ≤ 100000) := by
  have hdr := draft_c ds o vals sm hd hdl ho hv hvl
  have hg := draft_ok ds o vals sm hv
  have hb := nsD_bd ds
  have hG := okGrid_iff hg
  have hns : (nz (nsD ds)).length = (nsD ds).length := by simp [nz]
  obtain ⟨s1, o1, d1, c1, b1⟩ := bend_c w0 a0 n0 (nz (nsD ds)) (wD o) (dData ds o vals sm) hw0 ha0 (by omega) (by omega)
  obtain ⟨s2, o2, d2, c2, b2⟩ := bend_c w1 a1 n1 s1 o1 d1 hw1 ha1 (by omega) (by omega)
  have c3 := copied_c size out data hs hda
  refine ⟨nz (nsD ds), wD o, dData ds o vals sm, s1, o1, d1, s2, o2, d2, size.take 8, out, data.take 5000, ?_, ⟨by omega, by omega⟩, b1, b2, ⟨by simp; omega, by simp; omega⟩⟩
  generalize nz (nsD ds) = s0 at *
  generalize (wD o : Int) = o0 at *
  generalize dData ds o vals sm = d0 at *
  refine called_of_run tbOk 6 ⟨Try.func11, rfl, rfl, Nat.le_of_ble_eq_true rfl⟩ ?_
  (conv => whnf)
  refine V.st ?_
  repeat ((try ((with_reducible refine .ext ?_); (conv => whnf))); (with_reducible refine call_intro (r := ?_) ?_ ?_); rotate_left; (focus (first | exact (hdr) | exact (c1) | exact (c2) | exact (c3))); (conv => whnf); refine V.st ?_)
  refine ⟨(.take 0 (.take 1 (.take 2 (.take 3 (.take 4 (.take 6 (.ev (.cons 5 [6, 1, 0] (.ev (.cons 7 [1, 0] (.take 8 (.ev (.cons 9 [] (.done) (.nil)))) (.nil))) (.nil))))))))), ⟨by kernel_rfl, by kernel_rfl, by kernel_rfl⟩, .go ?_⟩
  (conv => whnf)
  refine V.st ?_
  repeat ((try ((with_reducible refine .ext ?_); (conv => whnf))); (with_reducible refine call_intro (r := ?_) ?_ ?_); rotate_left; (focus (first | exact (hdr) | exact (c1) | exact (c2) | exact (c3))); (conv => whnf); refine V.st ?_)
  exact Fin.of rfl
end Go.Proofs.Ytfhmfpneiagakaa
