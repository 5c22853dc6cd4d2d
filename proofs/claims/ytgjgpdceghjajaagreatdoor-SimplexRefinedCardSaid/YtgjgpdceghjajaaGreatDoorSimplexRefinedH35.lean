/- What functions of the program answer at given values, part 35. Conditions: those that each theorem names. -/
import Derived.Test.YtgjgpdceghjajaaGreatDoorSimplexRefinedH33
import Derived.Test.YtgjgpdceghjajaaGreatDoorSimplexRefinedH34
import Derived.Test.YtgjgpdceghjajaaGreatDoorSimplexRefinedH30
import Derived.Test.YtgjgpdceghjajaaGreatDoorSimplexRefinedH29
import Derived.Test.YtgjgpdceghjajaaGreatDoorSimplexRefinedH31
import Derived.Test.YtgjgpdceghjajaaGreatDoorSimplexRefinedH32
import Derived.Test.YtgjgpdceghjajaaGreatDoorSimplexRefinedH13
set_option linter.unusedSimpArgs false
set_option linter.unusedVariables false
set_option maxHeartbeats 8000000
set_option maxRecDepth 100000
section
namespace Go.Proofs.YtgjgpdceghjajaaGreatDoor
open Go Go.V Go.Gr Go.Nb
def clI (v : Int) : Int := min (max v 0) 1000000000000
def midB (b : Int × Int) : Rat := Rat.divInt (clI b.1 + clI b.2) 2000000000000
def halB (b : Int × Int) : Rat := Rat.divInt (clI b.2 - clI b.1) 2000000000000
def bce (B : Nat → Int × Int) : Nat → List D
 | 0 => []
 | k + 1 => bce B k ++ [.int .i64 (B k).1, .int .i64 (B k).2]
def slB (B : Nat → Int × Int) (n : Nat) : D := .slf 2 n (fun j => List.take 2 (List.drop (j * 2) (bce B n)))
theorem jbU (v : Int) : 0 ≤ clI v ∧ clI v ≤ 1000000000000 := by unfold clI; omega
theorem clI_mono {a b : Int} (h : a ≤ b) : clI a ≤ clI b := by unfold clI; omega
theorem clamp_q {b : Int × Int} (h : vb b.1 b.2 = true) : Called Tryz.prog 57 [.agg [.int .i64 b.1, .int .i64 b.2], .int .i64 0, .int .i64 1000000000000] (.tup [.agg [.int .i64 (clI b.1), .int .i64 (clI b.2)], .int .i64 0]) := by
 have c := clamp_b b.1 b.2 0 1000000000000
 have v := jbw.1 h
 have b1 := jbU b.1
 have b2 := jbU b.2
 have m := clI_mono v.2.1
 rw [if_pos h, if_pos (jbw.2 (by omega))] at c
 have e : mk (min (max b.1 0) 1000000000000) (min (max b.2 0) 1000000000000) = (clI b.1, clI b.2, 0) := by
  unfold mk
  rw [if_pos (jbw.2 (by unfold clI at *; omega))]
  rfl
 rw [e] at c
 exact c
theorem divQ (a : Int) : Rat.divInt a 2000000000000 = (a : Rat) / 2000000000000 := by
 rw [Rat.divInt_eq_div]
 rfl
theorem divF (a : Int) : Rat.divInt a 65535 = (a : Rat) / 65535 := by
 rw [Rat.divInt_eq_div]
 rfl
theorem fq_mid (b : Int × Int) : Fq 14 (midB b) := by
 have b1 := jbU b.1
 have b2 := jbU b.2
 exact jaD (n := 14) (d := 2000000000000) (by decide) (by omega) (by decide)
theorem fq_hal (b : Int × Int) : Fq 14 (halB b) := by
 have b1 := jbU b.1
 have b2 := jbU b.2
 exact jaD (n := 14) (d := 2000000000000) (by decide) (by omega) (by decide)
theorem hal_bd {b : Int × Int} (h : vb b.1 b.2 = true) : 0 ≤ halB b ∧ halB b ≤ 1 := by
 have b1 := jbU b.1
 have b2 := jbU b.2
 have m := clI_mono (jbw.1 h).2.1
 unfold halB
 rw [divQ]
 have g1 : (0 : Rat) ≤ ((clI b.2 - clI b.1 : Int) : Rat) := by exact_mod_cast (show (0 : Int) ≤ clI b.2 - clI b.1 by omega)
 have g2 : ((clI b.2 - clI b.1 : Int) : Rat) ≤ ((1000000000000 : Int) : Rat) := Rat.intCast_le_intCast.2 (by omega)
 rw [show ((1000000000000 : Int) : Rat) = 1000000000000 from rfl] at g2
 constructor <;> grind
theorem fq_full {v : Int} (h : 0 ≤ v ∧ v ≤ 65535) : Fq 10 (Rat.divInt v 65535) := jaD (n := 10) (d := 65535) (by decide) (by omega) (by decide)
def sprQ (zs data : List Int) (out : Int) (n : Nat) (X : Nat → Int × Int) (j : Nat) : Rat := smF (fun i => (((outS zs data out zs.length j).getD i 0 : Int) : Rat) * halB (X i)) (n - 1) / 65535
theorem spr_term {st : List Int} {n i : Nat} {b : Int × Int} (hs : rowOk n st) (h : vb b.1 b.2 = true) : 0 ≤ ((st.getD i 0 : Int) : Rat) * halB b ∧ ((st.getD i 0 : Int) : Rat) * halB b ≤ 600000 := by
 have g := hal_bd h
 have s := hs.2 i
 have s0 : (0 : Rat) ≤ ((st.getD i 0 : Int) : Rat) := by exact_mod_cast s.1
 have s1 : ((st.getD i 0 : Int) : Rat) ≤ ((600000 : Int) : Rat) := Rat.intCast_le_intCast.2 s.2
 rw [show ((600000 : Int) : Rat) = 600000 from rfl] at s1
 have m1 := Rat.mul_le_mul_of_nonneg_left g.2 s0
 have m0 := Rat.mul_le_mul_of_nonneg_left g.1 s0
 constructor <;> grind
theorem smF_bd {P : Nat → Rat} {n : Nat} (h : ∀ i, i ≤ n → 0 ≤ P i ∧ P i ≤ 600000) : ∀ k, k ≤ n → 0 ≤ smF P k ∧ smF P k ≤ 600000 * (((k + 1 : Nat) : Int) : Rat)
 | 0, hk => by
  have := h 0 hk
  simp only [smF]
  rw [show (((0 + 1 : Nat) : Int) : Rat) = 1 from rfl]
  constructor <;> grind
 | k + 1, hk => by
  have a := smF_bd h k (by omega)
  have b := h (k + 1) hk
  simp only [smF]
  rw [show (((k + 1 + 1 : Nat) : Int) : Rat) = (((k + 1 : Nat) : Int) : Rat) + 1 by rw [Int.natCast_add, Rat.intCast_add]; rfl]
  constructor <;> grind
theorem fq_ev1 {x0 : Rat} {z0 out : Int} {data : List Int} (hg : jal [z0] out data = true) (h0 : Fq 40 x0) (j : Nat) : Fq 376 (evQ [z0] out data x0 0 0 j) := by
 have og := jat hg
 have s0 := og.2.1 z0 (by simp)
 have f0 := jbj h0 (by decide) s0
 have fr : ∀ k, Fq 43 (rqN (spR z0 x0) 0 0 k) := fq_rq f0 jco jco
 rw [ev1_sm s0.1]
 have fm : ∀ k, Fq 92 ((fun k => wqN (rqN (spR z0 x0) 0 0) [0] 1 k * (((slot data (pz ([z0].zip ((atK [spB z0 x0, 0, 0, 0] [0] k).take 1)) * out) out).getD j 0 : Int) : Rat)) k) := fun k => (fq_wq fr _ 1 k).mul (jaJ (n := 5) (by have := jbI og.2.2.2 (pz ([z0].zip ((atK [spB z0 x0, 0, 0, 0] [0] k).take 1)) * out) out j; omega) (by omega))
 have s := fq_sm fm 1
 have q := s.div (jaJ (n := 5) (z := 65535) jaN (by decide)) jbS
 rw [show ((65535 : Int) : Rat) = 65535 from rfl] at q
 exact q.mono (by decide)
theorem ev_in1 {x0 : Rat} {z0 out : Int} {data : List Int} (hg : jal [z0] out data = true) {j : Nat} (hj : j < out.toNat) : Rat.divInt ((loL out data).getD j 0) 65535 ≤ evQ [z0] out data x0 0 0 j ∧ evQ [z0] out data x0 0 0 j ≤ Rat.divInt ((hiL out data).getD j 0) 65535 := by
 have og := jat hg
 have rb := jdk hg hj
 have s0 := og.2.1 z0 (by simp)
 have b := ev_bd (s0 := z0) (s1 := 2) (s2 := 2) (v := gvF [z0] out data j) (m := (((loL out data).getD j 0 : Int) : Rat)) (M := (((hiL out data).getD j 0 : Int) : Rat)) (by omega) (fun i k l hi hk hl => by
  have g := rb.2.2 [i] (by simp [okIdx]; omega)
  exact ⟨Rat.intCast_le_intCast.2 g.1, Rat.intCast_le_intCast.2 g.2⟩) x0 0 0
 rw [divF, divF]
 show _ ≤ evF z0 2 2 (gvF [z0] out data j) x0 0 0 / 65535 ∧ evF z0 2 2 (gvF [z0] out data j) x0 0 0 / 65535 ≤ _
 constructor <;> grind
theorem fq_ev2 {x0 x1 : Rat} {z0 z1 out : Int} {data : List Int} (hg : jal [z0, z1] out data = true) (h0 : Fq 40 x0) (h1 : Fq 40 x1) (j : Nat) : Fq 376 (evQ [z0, z1] out data x0 x1 0 j) := by
 have og := jat hg
 have s0 := og.2.1 z0 (by simp)
 have f0 := jbj h0 (by decide) s0
 have s1 := og.2.1 z1 (by simp)
 have f1 := jbj h1 (by decide) s1
 have fr : ∀ k, Fq 43 (rqN (spR z0 x0) (spR z1 x1) 0 k) := fq_rq f0 f1 jco
 rw [ev2_sm s0.1 s1.1]
 have fm : ∀ k, Fq 92 ((fun k => wqN (rqN (spR z0 x0) (spR z1 x1) 0) (ord2 (spR z0 x0) (spR z1 x1)) 2 k * (((slot data (pz ([z0, z1].zip ((atK [spB z0 x0, spB z1 x1, 0, 0] (ord2 (spR z0 x0) (spR z1 x1)) k).take 2)) * out) out).getD j 0 : Int) : Rat)) k) := fun k => (fq_wq fr _ 2 k).mul (jaJ (n := 5) (by have := jbI og.2.2.2 (pz ([z0, z1].zip ((atK [spB z0 x0, spB z1 x1, 0, 0] (ord2 (spR z0 x0) (spR z1 x1)) k).take 2)) * out) out j; omega) (by omega))
 have s := fq_sm fm 2
 have q := s.div (jaJ (n := 5) (z := 65535) jaN (by decide)) jbS
 rw [show ((65535 : Int) : Rat) = 65535 from rfl] at q
 exact q.mono (by decide)
theorem ev_in2 {x0 x1 : Rat} {z0 z1 out : Int} {data : List Int} (hg : jal [z0, z1] out data = true) {j : Nat} (hj : j < out.toNat) : Rat.divInt ((loL out data).getD j 0) 65535 ≤ evQ [z0, z1] out data x0 x1 0 j ∧ evQ [z0, z1] out data x0 x1 0 j ≤ Rat.divInt ((hiL out data).getD j 0) 65535 := by
 have og := jat hg
 have rb := jdk hg hj
 have s0 := og.2.1 z0 (by simp)
 have s1 := og.2.1 z1 (by simp)
 have b := ev_bd (s0 := z0) (s1 := z1) (s2 := 2) (v := gvF [z0, z1] out data j) (m := (((loL out data).getD j 0 : Int) : Rat)) (M := (((hiL out data).getD j 0 : Int) : Rat)) (by omega) (fun i k l hi hk hl => by
  have g := rb.2.2 [i, k] (by simp [okIdx]; omega)
  exact ⟨Rat.intCast_le_intCast.2 g.1, Rat.intCast_le_intCast.2 g.2⟩) x0 x1 0
 rw [divF, divF]
 show _ ≤ evF z0 z1 2 (gvF [z0, z1] out data j) x0 x1 0 / 65535 ∧ evF z0 z1 2 (gvF [z0, z1] out data j) x0 x1 0 / 65535 ≤ _
 constructor <;> grind
theorem fq_ev3 {x0 x1 x2 : Rat} {z0 z1 z2 out : Int} {data : List Int} (hg : jal [z0, z1, z2] out data = true) (h0 : Fq 40 x0) (h1 : Fq 40 x1) (h2 : Fq 40 x2) (j : Nat) : Fq 376 (evQ [z0, z1, z2] out data x0 x1 x2 j) := by
 have og := jat hg
 have s0 := og.2.1 z0 (by simp)
 have f0 := jbj h0 (by decide) s0
 have s1 := og.2.1 z1 (by simp)
 have f1 := jbj h1 (by decide) s1
 have s2 := og.2.1 z2 (by simp)
 have f2 := jbj h2 (by decide) s2
 have fr : ∀ k, Fq 43 (rqN (spR z0 x0) (spR z1 x1) (spR z2 x2) k) := fq_rq f0 f1 f2
 rw [ev3_sm s0.1 s1.1 s2.1]
 have fm : ∀ k, Fq 92 ((fun k => wqN (rqN (spR z0 x0) (spR z1 x1) (spR z2 x2)) (ord3 (spR z0 x0) (spR z1 x1) (spR z2 x2)) 3 k * (((slot data (pz ([z0, z1, z2].zip ((atK [spB z0 x0, spB z1 x1, spB z2 x2, 0] (ord3 (spR z0 x0) (spR z1 x1) (spR z2 x2)) k).take 3)) * out) out).getD j 0 : Int) : Rat)) k) := fun k => (fq_wq fr _ 3 k).mul (jaJ (n := 5) (by have := jbI og.2.2.2 (pz ([z0, z1, z2].zip ((atK [spB z0 x0, spB z1 x1, spB z2 x2, 0] (ord3 (spR z0 x0) (spR z1 x1) (spR z2 x2)) k).take 3)) * out) out j; omega) (by omega))
 have s := fq_sm fm 3
 have q := s.div (jaJ (n := 5) (z := 65535) jaN (by decide)) jbS
 rw [show ((65535 : Int) : Rat) = 65535 from rfl] at q
 exact q.mono (by decide)
theorem ev_in3 {x0 x1 x2 : Rat} {z0 z1 z2 out : Int} {data : List Int} (hg : jal [z0, z1, z2] out data = true) {j : Nat} (hj : j < out.toNat) : Rat.divInt ((loL out data).getD j 0) 65535 ≤ evQ [z0, z1, z2] out data x0 x1 x2 j ∧ evQ [z0, z1, z2] out data x0 x1 x2 j ≤ Rat.divInt ((hiL out data).getD j 0) 65535 := by
 have og := jat hg
 have rb := jdk hg hj
 have s0 := og.2.1 z0 (by simp)
 have s1 := og.2.1 z1 (by simp)
 have s2 := og.2.1 z2 (by simp)
 have b := ev_bd (s0 := z0) (s1 := z1) (s2 := z2) (v := gvF [z0, z1, z2] out data j) (m := (((loL out data).getD j 0 : Int) : Rat)) (M := (((hiL out data).getD j 0 : Int) : Rat)) (by omega) (fun i k l hi hk hl => by
  have g := rb.2.2 [i, k, l] (by simp [okIdx]; omega)
  exact ⟨Rat.intCast_le_intCast.2 g.1, Rat.intCast_le_intCast.2 g.2⟩) x0 x1 x2
 rw [divF, divF]
 show _ ≤ evF z0 z1 z2 (gvF [z0, z1, z2] out data j) x0 x1 x2 / 65535 ∧ evF z0 z1 z2 (gvF [z0, z1, z2] out data j) x0 x1 x2 / 65535 ≤ _
 constructor <;> grind
end Go.Proofs.YtgjgpdceghjajaaGreatDoor
end
section
namespace Go.Proofs.YtgjgpdceghjajaaGreatDoor
open Go Go.V Go.Nb Go.Gr
theorem jhw {ns : List Nat} {w : Nat} {f : Nat → List Int} (hn : 1 ≤ ns.length ∧ ns.length ≤ 4) (h2 : ∀ n ∈ ns, 2 ≤ n ∧ n ≤ 9) (hw : 1 ≤ w ∧ w ≤ 4) (hl : ∀ j, (f j).length = w) (hv : ∀ j, ∀ v ∈ f j, 0 ≤ v ∧ v ≤ 65535) (hP : PR ns * w ≤ 4096) : jal (nz ns) w (flat ns f (PR ns)) = true := by
 have hl : (flat ns f (PR ns)).length = PR ns * w := jeW hl
 unfold jal
 have e1 : (nz ns).length = ns.length := by simp [nz]
 have e2 : (nz ns).all (fun n => decide (2 ≤ n ∧ n ≤ 9)) = true := by
  rw [jiI]
  intro x hx
  obtain ⟨n, hn, rfl⟩ := List.mem_map.1 hx
  have := h2 n hn
  simp; omega
 have e3 : (flat ns f (PR ns)).all (fun v => decide (0 ≤ v ∧ v ≤ 65535)) = true := by
  rw [jiI]
  intro x hx
  obtain ⟨j, _, hj⟩ := mem_flat hx
  simpa using hv j x hj
 rw [e2, e3, jdL]
 simp only [Bool.and_true, jh9, decide_eq_true_eq]
 refine ⟨⟨by omega, by omega⟩, by omega, ?_⟩
 rw [hl]; simp
theorem jek {x : Rat} (h0 : 0 ≤ x) (h1 : x ≤ 1) : 0 ≤ nearZ x 65535 ∧ nearZ x 65535 ≤ 65535 := by
 have hd : (0 : Int) < x.den := by have := x.den_pos; omega
 have hn : 0 ≤ x.num := Rat.num_nonneg.2 h0
 have hn1 : x.num ≤ x.den := by
  have := Rat.le_iff (a := x) (b := 1) |>.1 h1
  simpa using this
 unfold nearZ
 have e1 : ((65535 * 2 : Nat) : Int) = 131070 := rfl
 have e2 : ((x.den * 2 : Nat) : Int) = 2 * (x.den : Int) := by push_cast; omega
 rw [e1, e2]
 refine ⟨Int.ediv_nonneg (by omega) (by omega), ?_⟩
 have : (x.num * 131070 + x.den) / (2 * (x.den : Int)) < 65536 := Int.ediv_lt_of_lt_mul (by omega) (by omega)
 omega
theorem near_q {n : Nat} {x : Rat} (h : Fq n x) (h0 : 0 < n ∧ n ≤ 600) (hb : 0 ≤ x ∧ x ≤ 1) : Called Tryz.prog 68 [frT x, .int .i64 65535] (.tup [.int .i64 (nearZ x 65535), .int .i64 0]) := by
 have o := jaM (h.ok h0.1 h0.2)
 have b := jek hb.1 hb.2
 have c := near_f (decZ x.num) (dec x.den) 65535 o.1 (by omega) (by omega) (by rw [o.2]; omega)
 rw [o.2] at c
 exact c
def xR (ts : List Nat) (m i : Nat) : Rat := Rat.divInt ((pad4 (ixl ts m)).getD i 0) ((nz ts).getD i 0 - 1)
def rfW (zs : List Int) (out : Int) (data : List Int) (ts : List Nat) (m j : Nat) : Int := nearZ (evQ zs out data (xR ts m 0) (xR ts m 1) (xR ts m 2) j) 65535
def rfD (zs : List Int) (out : Int) (data : List Int) (ts : List Nat) : List Int := flat ts (fun m => (List.range out.toNat).map (rfW zs out data ts m)) (PR ts)
theorem jeF (l : List Int) (i : Nat) : (pad4 l).getD i 0 = l.getD i 0 := by
 unfold pad4
 rw [jiJ, jiJ]
 rcases jip i l.length with h | h
 ·rw [jiS h]
 ·rw [List.getElem?_append_right h, ji5 h]
  cases e : (List.replicate (4 - l.length) (0 : Int))[i - l.length]? with
  | none => rfl
  | some v => have := jiO e; rw [List.mem_replicate] at this; rw [this.2]; rfl
theorem xR_off {ts : List Nat} {m i : Nat} (h : ts.length ≤ i) : xR ts m i = 0 := by
 unfold xR
 rw [jeF, jiJ, ji5 (by rw [jaj]; exact h)]
 simp
theorem xR_at {ts : List Nat} {m i n : Nat} (h2 : ∀ n ∈ ts, 2 ≤ n ∧ n ≤ 9) (h : ts[i]? = some n) : ∃ a : Int, (pad4 (ixl ts m)).getD i 0 = a ∧ (ixl ts m).getD i 0 = a ∧ (0 ≤ a ∧ a ≤ (n : Int) - 1) ∧ (nz ts).getD i 0 = n ∧ xR ts m i = Rat.divInt a ((n : Int) - 1) := by
 have e := jdT ts m i n h
 have b := jcs (m := m) (fun n hn => by have := h2 n hn; omega) h e
 have en : (nz ts).getD i 0 = n := by simp [nz, jiJ, h]
 have e1 : (ixl ts m).getD i 0 = ((m / PR (ts.drop (i + 1)) % n : Nat) : Int) := by rw [jiJ, e]; rfl
 exact ⟨_, by rw [jeF, e1], e1, b, en, by unfold xR; rw [jeF, e1, en]⟩
theorem xR_fq {ts : List Nat} (h2 : ∀ n ∈ ts, 2 ≤ n ∧ n ≤ 9) (m i : Nat) : Fq 40 (xR ts m i) := by
 rcases jip i ts.length with h | h
 ·have hn := jiM h
  have hb := h2 _ (jiN h)
  obtain ⟨a, _, _, ha, _, e⟩ := xR_at (m := m) h2 hn
  rw [e]
  generalize ts[i] = n at *
  obtain ⟨d, hd⟩ : ∃ d : Nat, (n : Int) - 1 = (d : Int) := ⟨n - 1, by omega⟩
  rw [hd]
  refine jaD (by omega) ?_ ?_
  ·exact Nat.lt_of_le_of_lt (show a.natAbs ≤ 9 by omega) (by decide)
  ·exact Nat.lt_of_le_of_lt (show d ≤ 9 by omega) (by decide)
 ·rw [xR_off h]; exact ⟨by decide, by decide⟩
theorem xR_gp {ts : List Nat} (h2 : ∀ n ∈ ts, 2 ≤ n ∧ n ≤ 9) {m i n : Nat} (h : ts[i]? = some n) : gp n (xR ts m i) = (((ixl ts m).getD i 0 : Int) : Rat) := by
 obtain ⟨a, _, ea, ha, _, e⟩ := xR_at (m := m) h2 h
 have hb := h2 n (jiO h)
 rw [ea, e]
 unfold gp
 obtain ⟨d, hd⟩ : ∃ d : Nat, (n : Int) - 1 = (d : Int) := ⟨n - 1, by omega⟩
 rw [hd] at ha ⊢
 have hd0 : (0 : Rat) < ((d : Int) : Rat) := by exact_mod_cast (show (0 : Int) < d by omega)
 have e1 : Rat.divInt a d = (a : Rat) / ((d : Int) : Rat) := Rat.divInt_eq_div a d
 have a0 : (0 : Rat) ≤ (a : Rat) := by exact_mod_cast ha.1
 have a1 : (a : Rat) ≤ ((d : Int) : Rat) := by exact_mod_cast ha.2
 have b0 : 0 ≤ (a : Rat) / ((d : Int) : Rat) := by rw [Rat.div_def]; exact Rat.mul_nonneg a0 (Rat.le_of_lt (Rat.inv_pos.2 hd0))
 have b1 : (a : Rat) / ((d : Int) : Rat) ≤ 1 := by
  rcases (Rat.le_total (a := (a : Rat) / ((d : Int) : Rat)) (b := 1)) with h | h
  ·exact h
  ·have e2 : (a : Rat) / ((d : Int) : Rat) * ((d : Int) : Rat) = (a : Rat) := Rat.div_mul_cancel (by grind)
   have e3 := Rat.mul_le_mul_of_nonneg_right h (Rat.le_of_lt hd0)
   rw [e2, Rat.one_mul] at e3
   have e4 : (a : Rat) = ((d : Int) : Rat) := Rat.le_antisymm a1 e3
   rw [e4, Rat.div_def, Rat.mul_inv_cancel _ (by grind)]
   exact Rat.le_refl
 rw [e1, clQ_id b0 b1, Rat.div_mul_cancel (by grind)]
theorem jgh {z0 out : Int} {data : List Int} (hg : jal [z0] out data = true) (x0 : Rat) {j : Nat} (hj : j < out.toNat) : 0 ≤ evQ [z0] out data x0 0 0 j ∧ evQ [z0] out data x0 0 0 j ≤ 1 := by
 obtain ⟨b1, b2⟩ := ev_in1 (x0 := x0) hg hj
 obtain ⟨r1, r2, _⟩ := jdk hg hj
 rw [divF] at b1
 generalize (loL out data).getD j 0 = a at *
 generalize (hiL out data).getD j 0 = b at *
 have a0 : (0 : Rat) ≤ (a : Rat) := Rat.intCast_le_intCast.2 r1.1
 have b0 : (b : Rat) ≤ 65535 := by
  have := Rat.intCast_le_intCast.2 r2.2
  rwa [show ((65535 : Int) : Rat) = 65535 from by decide +kernel] at this
 rw [divF] at b2
 constructor <;> grind
theorem rfW1 {z0 out : Int} {data : List Int} {ts : List Nat} (ht : ts.length = 1) (m j : Nat) : rfW [z0] out data ts m j = nearZ (evQ [z0] out data (xR ts m 0) 0 0 j) 65535 := by
 unfold rfW
 rw [xR_off (i := 1) (by omega), xR_off (i := 2) (by omega)]
theorem refq1 {z0 out : Int} {data : List Int} (hg : jal [z0] out data = true) (ts : List Nat) (ht : ts.length = 1) (h2 : ∀ n ∈ ts, 2 ≤ n ∧ n ≤ 9) (hc : cnP out ts 1 ≤ 4096) : Called Tryz.prog 33 [gridD [z0] out data, .ints .i64 (nz ts)] (.tup [gridD (nz ts) out (rfD [z0] out data ts), .int .i64 0]) := by
 have ho := (jat hg).1
 have hl := (jat hg).2.2.1.1
 have fx := fun m i => xR_fq h2 m i
 have ck := Called.cast (jb1 [z0] out data (by simp) (by omega)) (by rw [hg]; first | done | rfl)
 refine refine1_t [z0] data out ts (fun m i => txq (xR ts m i)) (fun m j => txq (evQ [z0] out data (xR ts m 0) 0 0 j)) (rfW [z0] out data ts) rfl ht h2 ho hc ck (fun m i hm hi => ?_) (fun m hm => evalq1 hg (fx m 0)) (fun m j hm hj => ?_)
 ·obtain ⟨n, hn⟩ : ∃ n, ts[i]? = some n := ⟨ts[i], jiM (by omega)⟩
  obtain ⟨a, e1, e2, ha, e3, e4⟩ := xR_at (m := m) h2 hn
  have hb := h2 n (jiO hn)
  have c := jd3 (n := a) (m := (n : Int) - 1) (by omega) (by omega)
  rw [e1, e3]
  rw [← e4] at c
  exact c
 ·rw [rfW1 ht]
  exact near_q (fq_ev1 hg (fx m 0) j) (by decide) (jgh hg (xR ts m 0) hj)
theorem jgg {z0 z1 out : Int} {data : List Int} (hg : jal [z0, z1] out data = true) (x0 x1 : Rat) {j : Nat} (hj : j < out.toNat) : 0 ≤ evQ [z0, z1] out data x0 x1 0 j ∧ evQ [z0, z1] out data x0 x1 0 j ≤ 1 := by
 obtain ⟨b1, b2⟩ := ev_in2 (x0 := x0) (x1 := x1) hg hj
 obtain ⟨r1, r2, _⟩ := jdk hg hj
 rw [divF] at b1
 generalize (loL out data).getD j 0 = a at *
 generalize (hiL out data).getD j 0 = b at *
 have a0 : (0 : Rat) ≤ (a : Rat) := Rat.intCast_le_intCast.2 r1.1
 have b0 : (b : Rat) ≤ 65535 := by
  have := Rat.intCast_le_intCast.2 r2.2
  rwa [show ((65535 : Int) : Rat) = 65535 from by decide +kernel] at this
 rw [divF] at b2
 constructor <;> grind
theorem rfW2 {z0 z1 out : Int} {data : List Int} {ts : List Nat} (ht : ts.length = 2) (m j : Nat) : rfW [z0, z1] out data ts m j = nearZ (evQ [z0, z1] out data (xR ts m 0) (xR ts m 1) 0 j) 65535 := by
 unfold rfW
 rw [xR_off (i := 2) (by omega)]
theorem refq2 {z0 z1 out : Int} {data : List Int} (hg : jal [z0, z1] out data = true) (ts : List Nat) (ht : ts.length = 2) (h2 : ∀ n ∈ ts, 2 ≤ n ∧ n ≤ 9) (hc : cnP out ts 2 ≤ 4096) : Called Tryz.prog 33 [gridD [z0, z1] out data, .ints .i64 (nz ts)] (.tup [gridD (nz ts) out (rfD [z0, z1] out data ts), .int .i64 0]) := by
 have ho := (jat hg).1
 have hl := (jat hg).2.2.1.1
 have fx := fun m i => xR_fq h2 m i
 have ck := Called.cast (jb1 [z0, z1] out data (by simp) (by omega)) (by rw [hg]; first | done | rfl)
 refine refine2_t [z0, z1] data out ts (fun m i => txq (xR ts m i)) (fun m j => txq (evQ [z0, z1] out data (xR ts m 0) (xR ts m 1) 0 j)) (rfW [z0, z1] out data ts) rfl ht h2 ho hc ck (fun m i hm hi => ?_) (fun m hm => evalq2 hg (fx m 0) (fx m 1)) (fun m j hm hj => ?_)
 ·obtain ⟨n, hn⟩ : ∃ n, ts[i]? = some n := ⟨ts[i], jiM (by omega)⟩
  obtain ⟨a, e1, e2, ha, e3, e4⟩ := xR_at (m := m) h2 hn
  have hb := h2 n (jiO hn)
  have c := jd3 (n := a) (m := (n : Int) - 1) (by omega) (by omega)
  rw [e1, e3]
  rw [← e4] at c
  exact c
 ·rw [rfW2 ht]
  exact near_q (fq_ev2 hg (fx m 0) (fx m 1) j) (by decide) (jgg hg (xR ts m 0) (xR ts m 1) hj)
theorem jgf {z0 z1 z2 out : Int} {data : List Int} (hg : jal [z0, z1, z2] out data = true) (x0 x1 x2 : Rat) {j : Nat} (hj : j < out.toNat) : 0 ≤ evQ [z0, z1, z2] out data x0 x1 x2 j ∧ evQ [z0, z1, z2] out data x0 x1 x2 j ≤ 1 := by
 obtain ⟨b1, b2⟩ := ev_in3 (x0 := x0) (x1 := x1) (x2 := x2) hg hj
 obtain ⟨r1, r2, _⟩ := jdk hg hj
 rw [divF] at b1
 generalize (loL out data).getD j 0 = a at *
 generalize (hiL out data).getD j 0 = b at *
 have a0 : (0 : Rat) ≤ (a : Rat) := Rat.intCast_le_intCast.2 r1.1
 have b0 : (b : Rat) ≤ 65535 := by
  have := Rat.intCast_le_intCast.2 r2.2
  rwa [show ((65535 : Int) : Rat) = 65535 from by decide +kernel] at this
 rw [divF] at b2
 constructor <;> grind
theorem rfW3 {z0 z1 z2 out : Int} {data : List Int} {ts : List Nat} (ht : ts.length = 3) (m j : Nat) : rfW [z0, z1, z2] out data ts m j = nearZ (evQ [z0, z1, z2] out data (xR ts m 0) (xR ts m 1) (xR ts m 2) j) 65535 := by
 unfold rfW
 rfl
theorem refq3 {z0 z1 z2 out : Int} {data : List Int} (hg : jal [z0, z1, z2] out data = true) (ts : List Nat) (ht : ts.length = 3) (h2 : ∀ n ∈ ts, 2 ≤ n ∧ n ≤ 9) (hc : cnP out ts 3 ≤ 4096) : Called Tryz.prog 33 [gridD [z0, z1, z2] out data, .ints .i64 (nz ts)] (.tup [gridD (nz ts) out (rfD [z0, z1, z2] out data ts), .int .i64 0]) := by
 have ho := (jat hg).1
 have hl := (jat hg).2.2.1.1
 have fx := fun m i => xR_fq h2 m i
 have ck := Called.cast (jb1 [z0, z1, z2] out data (by simp) (by omega)) (by rw [hg]; first | done | rfl)
 refine refine3_t [z0, z1, z2] data out ts (fun m i => txq (xR ts m i)) (fun m j => txq (evQ [z0, z1, z2] out data (xR ts m 0) (xR ts m 1) (xR ts m 2) j)) (rfW [z0, z1, z2] out data ts) rfl ht h2 ho hc ck (fun m i hm hi => ?_) (fun m hm => evalq3 hg (fx m 0) (fx m 1) (fx m 2)) (fun m j hm hj => ?_)
 ·obtain ⟨n, hn⟩ : ∃ n, ts[i]? = some n := ⟨ts[i], jiM (by omega)⟩
  obtain ⟨a, e1, e2, ha, e3, e4⟩ := xR_at (m := m) h2 hn
  have hb := h2 n (jiO hn)
  have c := jd3 (n := a) (m := (n : Int) - 1) (by omega) (by omega)
  rw [e1, e3]
  rw [← e4] at c
  exact c
 ·rw [rfW3 ht]
  exact near_q (fq_ev3 hg (fx m 0) (fx m 1) (fx m 2) j) (by decide) (jgf hg (xR ts m 0) (xR ts m 1) (xR ts m 2) hj)
theorem pz_at {ns : List Nat} (hpos : ∀ n ∈ ns, 0 < n) {m : Nat} (hm : m < PR ns) : pz ((nz ns).zip (ixl ns m)) = (m : Int) := by
 have e := jft ns hpos m 0
 rw [jim hm, Int.zero_mul, Int.zero_add] at e
 exact e
theorem gp20 : gp 2 0 = ((0 : Int) : Rat) := by decide +kernel
theorem jey {data : List Int} {n w m : Nat} (h : data.length = n * w) (hm : m < n) : (slot data ((m * w : Nat) : Int) w).length = w := by
 have h1 : (m + 1) * w ≤ n * w := Nat.mul_le_mul_right w hm
 rw [Nat.add_mul, Nat.one_mul] at h1
 unfold slot
 rw [jiQ, ji7, jih, jih]
 omega
theorem jfv {ts : List Nat} (h2 : ∀ n ∈ ts, 2 ≤ n ∧ n ≤ 9) : ∀ n ∈ ts, 0 < n := fun n hn => by have := h2 n hn; omega
theorem pt_val1 {s0 : Nat} (h2 : ∀ n ∈ [s0], 2 ≤ n ∧ n ≤ 9) (out : Int) (data : List Int) {m : Nat} (hm : m < PR [s0]) (j : Nat) : evQ (nz [s0]) out data (xR [s0] m 0) 0 0 j = Rat.divInt ((slot data ((m : Int) * out) out).getD j 0) 65535 := by
 have g0 := xR_gp h2 (m := m) (i := 0) (n := s0) rfl
 have b0 := h2 s0 (by simp)
 have e := jhy (s0 := (s0 : Int)) (s1 := 2) (s2 := 2) (by omega) g0 gp20 gp20 (gvF (nz [s0]) out data j)
 have e3 : ([(ixl [s0] m).getD 0 0, 0, 0] : List Int).take (nz [s0]).length = ixl [s0] m := rfl
 unfold evQ
 rw [show (nz [s0]).getD 0 2 = (s0 : Int) from rfl, show (nz [s0]).getD 1 2 = 2 from rfl, show (nz [s0]).getD 2 2 = 2 from rfl, e, divF]
 unfold gvF
 rw [e3, pz_at (jfv h2) hm]
theorem rf_same1 {s0 w : Nat} {data : List Int} (hg : jal (nz [s0]) w data = true) (h2 : ∀ n ∈ [s0], 2 ≤ n ∧ n ≤ 9) : rfD (nz [s0]) w data [s0] = data := by
 have og := jgx hg
 have hz : (nz [s0]).map Int.toNat = [s0] := by simp [nz]
 rw [hz] at og
 have hl := og.1
 unfold rfD
 rw [jih] at hl ⊢
 refine jeV hl fun m hm => ?_
 have hs := jey hl hm
 refine List.ext_getElem? fun j => ?_
 rcases jip j w with hj | hj
 ·rw [List.getElem?_map, List.getElem?_range hj]
  have e : rfW (nz [s0]) w data [s0] m j = (slot data ((m * w : Nat) : Int) w).getD j 0 := by
   have e0 : rfW (nz [s0]) w data [s0] m j = nearZ (evQ (nz [s0]) w data (xR [s0] m 0) 0 0 j) 65535 := rfW1 (z0 := (s0 : Int)) rfl m j
   rw [e0, pt_val1 h2 w data hm j]
   exact (jdO (s := 65535) _ (by decide)).trans (by simp)
  rw [jiM (by omega), Option.map_some, e, jiJ, jiM (by omega)]
  rfl
 ·rw [ji5 (by simp; omega), ji5 (by omega)]
theorem pt_val2 {s0 s1 : Nat} (h2 : ∀ n ∈ [s0, s1], 2 ≤ n ∧ n ≤ 9) (out : Int) (data : List Int) {m : Nat} (hm : m < PR [s0, s1]) (j : Nat) : evQ (nz [s0, s1]) out data (xR [s0, s1] m 0) (xR [s0, s1] m 1) 0 j = Rat.divInt ((slot data ((m : Int) * out) out).getD j 0) 65535 := by
 have g0 := xR_gp h2 (m := m) (i := 0) (n := s0) rfl
 have b0 := h2 s0 (by simp)
 have g1 := xR_gp h2 (m := m) (i := 1) (n := s1) rfl
 have b1 := h2 s1 (by simp)
 have e := jhy (s0 := (s0 : Int)) (s1 := (s1 : Int)) (s2 := 2) (by omega) g0 g1 gp20 (gvF (nz [s0, s1]) out data j)
 have e3 : ([(ixl [s0, s1] m).getD 0 0, (ixl [s0, s1] m).getD 1 0, 0] : List Int).take (nz [s0, s1]).length = ixl [s0, s1] m := rfl
 unfold evQ
 rw [show (nz [s0, s1]).getD 0 2 = (s0 : Int) from rfl, show (nz [s0, s1]).getD 1 2 = (s1 : Int) from rfl, show (nz [s0, s1]).getD 2 2 = 2 from rfl, e, divF]
 unfold gvF
 rw [e3, pz_at (jfv h2) hm]
theorem rf_same2 {s0 s1 w : Nat} {data : List Int} (hg : jal (nz [s0, s1]) w data = true) (h2 : ∀ n ∈ [s0, s1], 2 ≤ n ∧ n ≤ 9) : rfD (nz [s0, s1]) w data [s0, s1] = data := by
 have og := jgx hg
 have hz : (nz [s0, s1]).map Int.toNat = [s0, s1] := by simp [nz]
 rw [hz] at og
 have hl := og.1
 unfold rfD
 rw [jih] at hl ⊢
 refine jeV hl fun m hm => ?_
 have hs := jey hl hm
 refine List.ext_getElem? fun j => ?_
 rcases jip j w with hj | hj
 ·rw [List.getElem?_map, List.getElem?_range hj]
  have e : rfW (nz [s0, s1]) w data [s0, s1] m j = (slot data ((m * w : Nat) : Int) w).getD j 0 := by
   have e0 : rfW (nz [s0, s1]) w data [s0, s1] m j = nearZ (evQ (nz [s0, s1]) w data (xR [s0, s1] m 0) (xR [s0, s1] m 1) 0 j) 65535 := rfW2 (z0 := (s0 : Int)) (z1 := (s1 : Int)) rfl m j
   rw [e0, pt_val2 h2 w data hm j]
   exact (jdO (s := 65535) _ (by decide)).trans (by simp)
  rw [jiM (by omega), Option.map_some, e, jiJ, jiM (by omega)]
  rfl
 ·rw [ji5 (by simp; omega), ji5 (by omega)]
theorem pt_val3 {s0 s1 s2 : Nat} (h2 : ∀ n ∈ [s0, s1, s2], 2 ≤ n ∧ n ≤ 9) (out : Int) (data : List Int) {m : Nat} (hm : m < PR [s0, s1, s2]) (j : Nat) : evQ (nz [s0, s1, s2]) out data (xR [s0, s1, s2] m 0) (xR [s0, s1, s2] m 1) (xR [s0, s1, s2] m 2) j = Rat.divInt ((slot data ((m : Int) * out) out).getD j 0) 65535 := by
 have g0 := xR_gp h2 (m := m) (i := 0) (n := s0) rfl
 have b0 := h2 s0 (by simp)
 have g1 := xR_gp h2 (m := m) (i := 1) (n := s1) rfl
 have b1 := h2 s1 (by simp)
 have g2 := xR_gp h2 (m := m) (i := 2) (n := s2) rfl
 have b2 := h2 s2 (by simp)
 have e := jhy (s0 := (s0 : Int)) (s1 := (s1 : Int)) (s2 := (s2 : Int)) (by omega) g0 g1 g2 (gvF (nz [s0, s1, s2]) out data j)
 have e3 : ([(ixl [s0, s1, s2] m).getD 0 0, (ixl [s0, s1, s2] m).getD 1 0, (ixl [s0, s1, s2] m).getD 2 0] : List Int).take (nz [s0, s1, s2]).length = ixl [s0, s1, s2] m := rfl
 unfold evQ
 rw [show (nz [s0, s1, s2]).getD 0 2 = (s0 : Int) from rfl, show (nz [s0, s1, s2]).getD 1 2 = (s1 : Int) from rfl, show (nz [s0, s1, s2]).getD 2 2 = (s2 : Int) from rfl, e, divF]
 unfold gvF
 rw [e3, pz_at (jfv h2) hm]
theorem rf_same3 {s0 s1 s2 w : Nat} {data : List Int} (hg : jal (nz [s0, s1, s2]) w data = true) (h2 : ∀ n ∈ [s0, s1, s2], 2 ≤ n ∧ n ≤ 9) : rfD (nz [s0, s1, s2]) w data [s0, s1, s2] = data := by
 have og := jgx hg
 have hz : (nz [s0, s1, s2]).map Int.toNat = [s0, s1, s2] := by simp [nz]
 rw [hz] at og
 have hl := og.1
 unfold rfD
 rw [jih] at hl ⊢
 refine jeV hl fun m hm => ?_
 have hs := jey hl hm
 refine List.ext_getElem? fun j => ?_
 rcases jip j w with hj | hj
 ·rw [List.getElem?_map, List.getElem?_range hj]
  have e : rfW (nz [s0, s1, s2]) w data [s0, s1, s2] m j = (slot data ((m * w : Nat) : Int) w).getD j 0 := by
   have e0 : rfW (nz [s0, s1, s2]) w data [s0, s1, s2] m j = nearZ (evQ (nz [s0, s1, s2]) w data (xR [s0, s1, s2] m 0) (xR [s0, s1, s2] m 1) (xR [s0, s1, s2] m 2) j) 65535 := rfW3 (z0 := (s0 : Int)) (z1 := (s1 : Int)) (z2 := (s2 : Int)) rfl m j
   rw [e0, pt_val3 h2 w data hm j]
   exact (jdO (s := 65535) _ (by decide)).trans (by simp)
  rw [jiM (by omega), Option.map_some, e, jiJ, jiM (by omega)]
  rfl
 ·rw [ji5 (by simp; omega), ji5 (by omega)]
theorem jhR : type_of% @jif ∧ type_of% @tn0 ∧ type_of% @tn1 ∧ type_of% @tn2 ∧ type_of% @tn3 ∧ type_of% @xt4 := ⟨@jif, @tn0, @tn1, @tn2, @tn3, @xt4⟩
theorem wakes_t (Q : Nat → Tx)
  (o0 : Called Tryz.prog 18 [.int .i64 1, .int .i64 2] (.agg [.str (Q 0).1, .str (Q 0).2]))
  (o1 : Called Tryz.prog 18 [.int .i64 1, .int .i64 4] (.agg [.str (Q 1).1, .str (Q 1).2]))
  (o2 : Called Tryz.prog 18 [.int .i64 7, .int .i64 20] (.agg [.str (Q 2).1, .str (Q 2).2]))
  (o3 : Called Tryz.prog 18 [.int .i64 3, .int .i64 10] (.agg [.str (Q 3).1, .str (Q 3).2]))
  (o4 : Called Tryz.prog 18 [.int .i64 1, .int .i64 1] (.agg [.str (Q 4).1, .str (Q 4).2]))
  (o5 : Called Tryz.prog 18 [.int .i64 2, .int .i64 1] (.agg [.str (Q 5).1, .str (Q 5).2]))
  (fo : Called Tryz.prog 31 [] (.agg [.ints .i64 [2, 2], .int .i64 1, .ints .i64 [0, 13107, 26214, 65535]]))
  (ce : Called Tryz.prog 17 [.agg [.ints .i64 [2, 2], .int .i64 1, .ints .i64 [0, 13107, 26214, 65535]], .slf 2 2 (fun j => List.take 2 (List.drop (j * 2) [.str (Q 0).1, .str (Q 0).2, .str (Q 1).1, .str (Q 1).2]))] (.tup [.ints .i64 [0, 0], .ints .i64 [0, 1], .slf 2 3 (fun j => List.take 2 (List.drop (j * 2) [.str (Q 0).1, .str (Q 0).2, .str (Q 1).1, .str (Q 1).2, .str (Q 1).1, .str (Q 1).2])), .int .i64 0]))
  (st : Called Tryz.prog 32 [.agg [.ints .i64 [2, 2], .int .i64 1, .ints .i64 [0, 13107, 26214, 65535]]] (.tup [.slf 1 1 (fun j => List.take 1 (List.drop (j * 1) [.ints .i64 [52428, 39321]])), .int .i64 0]))
  (b1 : Called Tryz.prog 29 [.agg [.ints .i64 [2, 2], .int .i64 1, .ints .i64 [0, 13107, 26214, 65535]], .slf 2 2 (fun j => List.take 2 (List.drop (j * 2) [.int .i64 500000000000, .int .i64 500000000000, .int .i64 250000000000, .int .i64 250000000000]))] (.tup [.slf 2 1 (fun j => List.take 2 (List.drop (j * 2) [.int .i64 350000000000, .int .i64 350000000000])), .int .i64 0]))
  (b2 : Called Tryz.prog 29 [.agg [.ints .i64 [2, 2], .int .i64 1, .ints .i64 [0, 13107, 26214, 65535]], .slf 2 2 (fun j => List.take 2 (List.drop (j * 2) [.int .i64 250000000000, .int .i64 750000000000, .int .i64 250000000000, .int .i64 250000000000]))] (.tup [.slf 2 1 (fun j => List.take 2 (List.drop (j * 2) [.int .i64 150000000000, .int .i64 550000000000])), .int .i64 0]))
  (re : Called Tryz.prog 33 [.agg [.ints .i64 [2, 2], .int .i64 1, .ints .i64 [0, 13107, 26214, 65535]], .ints .i64 [3, 2]] (.tup [.agg [.ints .i64 [3, 2], .int .i64 1, .ints .i64 [0, 13107, 13107, 39321, 26214, 65535]], .int .i64 0]))
  (ee : Called Tryz.prog 15 [.agg [.ints .i64 [2, 2], .int .i64 1, .ints .i64 [0, 13107, 26214, 65535]], .slf 2 1 (fun j => List.take 2 (List.drop (j * 2) [.str (Q 0).1, .str (Q 0).2]))] (.tup [.nil, .int .i64 2]))
  (v0 : Called Tryz.prog 26 [.agg [.ints .i64 [2, 2], .int .i64 1, .ints .i64 [0, 13107, 26214, 65535]], .agg [.str (Q 2).1, .str (Q 2).2], .slf 2 2 (fun j => List.take 2 (List.drop (j * 2) [.str (Q 0).1, .str (Q 0).2, .str (Q 1).1, .str (Q 1).2]))] (.bool true))
  (v1 : Called Tryz.prog 26 [.agg [.ints .i64 [2, 2], .int .i64 1, .ints .i64 [0, 13107, 26214, 65535]], .agg [.str (Q 3).1, .str (Q 3).2], .slf 2 2 (fun j => List.take 2 (List.drop (j * 2) [.str (Q 1).1, .str (Q 1).2, .str (Q 0).1, .str (Q 0).2]))] (.bool true))
  (v2 : Called Tryz.prog 26 [.agg [.ints .i64 [2, 2], .int .i64 1, .ints .i64 [0, 13107, 26214, 65535]], .agg [.str (Q 4).1, .str (Q 4).2], .slf 2 2 (fun j => List.take 2 (List.drop (j * 2) [.str (Q 5).1, .str (Q 5).2, .str (Q 4).1, .str (Q 4).2]))] (.bool true)) :
  Called Tryz.prog 10 [] (.bool true) := by
 have q0 := jcp [0, 0] [0, 0] (by decide) (by decide)
 have q1 := jcp [0, 1] [0, 1] (by decide) (by decide)
 have q2 := jcp [52428, 39321] [52428, 39321] (by decide) (by decide)
 have q3 := jcp [0, 13107, 13107, 39321, 26214, 65535] [0, 13107, 13107, 39321, 26214, 65535] (by decide) (by decide)
 have f3 := eqf3 (fun k => if k = 0 then Q 0 else Q 1)
 have g1 := eqb1 (fun _ => (350000000000, 350000000000))
 have g2 := eqb1 (fun _ => (150000000000, 550000000000))
 refine V.en tbOk Tryz.func10 ?_
 (conv => whnf)
 (conv => whnf)
 (try simp only [jhR])
 repeat ((first | refine V.s1 ?_ | ((try ((with_reducible refine .ext ?_); (conv => whnf); (try simp only [jhR]))); (with_reducible refine jaa (r := ?_) ?_ ?_); rotate_left; (focus (first | exact (o0) | exact (o1) | exact (o2) | exact (o3) | exact (o4) | exact (o5) | exact (fo) | exact (ce) | exact (st) | exact (b1) | exact (b2) | exact (re) | exact (ee) | exact (v0) | exact (v1) | exact (v2) | exact (q0) | exact (q1) | exact (q2) | exact (q3) | exact (f3) | exact (g1) | exact (g2))); (conv => whnf))); (try simp only [jhR]))
 refine ⟨(V.tk [0] (V.e1 1 [0] (V.e1 2 [0] (V.e1 3 [0] (V.e1 4 [] (V.tk [5,6,7,8,9,10,11,12,13] .done)))))), [], V.pok, ?_⟩
 refine jab [(2, .ints .i64 [0, 0]), (3, .ints .i64 [0, 1]), (4, .slf 2 3 (fun j => List.take 2 (List.drop (j * 2) [.str (Q 0).1, .str (Q 0).2, .str (Q 1).1, .str (Q 1).2, .str (Q 1).1, .str (Q 1).2]))), (5, .int .i64 0)] [] ?_ ?_
 ·exact V.d3 jhR o0 o1 ce
 (conv => whnf)
 (try simp only [jhR])
 repeat ((first | refine V.s1 ?_ | ((try ((with_reducible refine .ext ?_); (conv => whnf); (try simp only [jhR]))); (with_reducible refine jaa (r := ?_) ?_ ?_); rotate_left; (focus (first | exact (o0) | exact (o1) | exact (o2) | exact (o3) | exact (o4) | exact (o5) | exact (fo) | exact (ce) | exact (st) | exact (b1) | exact (b2) | exact (re) | exact (ee) | exact (v0) | exact (v1) | exact (v2) | exact (q0) | exact (q1) | exact (q2) | exact (q3) | exact (f3) | exact (g1) | exact (g2))); (conv => whnf))); (try simp only [jhR]))
 refine ⟨(V.tk [0] (V.e1 1 [0] (V.e1 2 [0] (V.e1 3 [] (V.tk [4,5,6,7,8] .done))))), [], V.pok, ?_⟩
 refine jab [(17, .int .i64 2)] [] ?_ ?_
 ·exact V.d3 jhR o0 o1 ee
 (conv => whnf)
 (try simp only [jhR])
 repeat ((first | refine V.s1 ?_ | ((try ((with_reducible refine .ext ?_); (conv => whnf); (try simp only [jhR]))); (with_reducible refine jaa (r := ?_) ?_ ?_); rotate_left; (focus (first | exact (o0) | exact (o1) | exact (o2) | exact (o3) | exact (o4) | exact (o5) | exact (fo) | exact (ce) | exact (st) | exact (b1) | exact (b2) | exact (re) | exact (ee) | exact (v0) | exact (v1) | exact (v2) | exact (q0) | exact (q1) | exact (q2) | exact (q3) | exact (f3) | exact (g1) | exact (g2))); (conv => whnf))); (try simp only [jhR]))
 refine ⟨(V.tk [0] (V.e1 1 [0] (V.e1 2 [] (V.tk [3,4] (V.e1 5 [4] (V.e1 6 [] (V.tk [7,8,9] (V.e1 10 [9] (V.e1 11 [9] (V.e1 12 [9] (V.e1 13 [9] (V.e1 14 [] (V.tk [15,16,17] (V.e1 18 [17] (V.e1 19 [17] (V.e1 20 [17] (V.e1 21 [17] (V.e1 22 [] (V.tk [23,24,25] (V.e1 26 [25] (V.e1 27 [25] (V.e1 28 [25] (V.e1 29 [25] (V.e1 30 [] (V.tk [31,32,33] (V.e1 34 [33] (V.e1 35 [33] (V.e1 36 [33] (V.e1 37 [33] (V.e1 38 [] (V.tk [39,40,41,42,43] (V.e1 44 [43,42,41] (V.e1 45 [] (V.tk [46,47,48,49] (V.e1 50 [48] (V.e1 51 [] (V.tk [52,53,54,55] (V.e1 56 [54] (V.e1 57 [] (V.tk [58,59,60,61] (V.e1 62 [61,60] (V.e1 63 [] (V.tk [64,65] .done))))))))))))))))))))))))))))))))))))))))))), [], V.pok, ?_⟩
 refine jab [(0, .bool true)] [] ?_ ?_
 ·(conv => whnf); (try simp only [jhR])
  repeat' (first | exact V.wk | ((with_reducible refine And.intro ?_ jaB); (conv => whnf); (try simp only [jhR])) | ((with_reducible first | refine jas ?_ ?_ | refine jay ?_ ?_) <;> (conv => whnf); (try simp only [jhR])) | ((first | refine V.s1 ?_ | ((with_reducible refine jap ?_ ?_); (focus ((conv => whnf); (try simp only [jhR]); (repeat ((first | refine V.s1 ?_); (try simp only [jhR]))); exact ⟨rfl⟩)); (conv => whnf)) | ((try ((with_reducible refine .ext ?_); (conv => whnf); (try simp only [jhR]))); (with_reducible refine jaa (r := ?_) ?_ ?_); rotate_left; (focus (first | exact (o0) | exact (o1) | exact (o2) | exact (o3) | exact (o4) | exact (o5) | exact (fo) | exact (ce) | exact (st) | exact (b1) | exact (b2) | exact (re) | exact (ee) | exact (v0) | exact (v1) | exact (v2) | exact (q0) | exact (q1) | exact (q2) | exact (q3) | exact (f3) | exact (g1) | exact (g2))); (conv => whnf))); (try simp only [jhR])) | (refine And.intro ?_ ?_ <;> (conv => whnf); (try simp only [jhR])))
 refine V.r0 jhR ?_
 exact Fin.of rfl
theorem bandq2_1 {z0 z1 out : Int} (ho : out = 1) {data : List Int} (hg : jal [z0, z1] out data = true) (X : Nat → Int × Int) (hX : ∀ i, i < 2 → vb (X i).1 (X i).2 = true) :
  Called Tryz.prog 29 [gridD [z0, z1] out data, slB X 2] (.tup [slB (fun j => confB (evQ [z0, z1] out data (midB (X 0)) (midB (X 1)) 0 j) (sprQ [z0, z1] data out 2 X j) (Rat.divInt ((loL out data).getD j 0) 65535) (Rat.divInt ((hiL out data).getD j 0) 65535)) out.toNat, .int .i64 0]) := by
 have og := jat hg
 have so := jhb (out := out) og.2.2.2 og.2.1 2 (jii _)
 have rl := jgx hg
 have li := blist2a (F := 56) (fun i => (clI (X i).1, clI (X i).2)) (bands1_20 X (clI (X 0).1, clI (X 0).2) (clamp_q (hX 0 (by decide)))) (bands1_21 X (clI (X 1).1, clI (X 1).2) (clamp_q (hX 1 (by decide))))
 have fm0 := (fq_mid (X 0)).mono (show 14 ≤ 40 by decide)
 have fm1 := (fq_mid (X 1)).mono (show 14 ≤ 40 by decide)
 have om : ∀ i, i < 2 → Called Tryz.prog 58 [.int .i64 (clI (X i).1 + clI (X i).2), .int .i64 2000000000000] (frT (midB (X i))) := fun i _ => jd3 (by have := jbU (X i).1; have := jbU (X i).2; omega) (by decide)
 have oh : ∀ i, i < 2 → Called Tryz.prog 58 [.int .i64 (clI (X i).2 - clI (X i).1), .int .i64 2000000000000] (frT (halB (X i))) := fun i _ => jd3 (by have := jbU (X i).1; have := jbU (X i).2; omega) (by decide)
 have ev := evalq2 hg fm0 fm1
 have b2 : ∀ j, j < out.toNat → Called Tryz.prog 61 [frT (evQ [z0, z1] out data (midB (X 0)) (midB (X 1)) 0 j), frT (sprQ [z0, z1] data out 2 X j), frT (Rat.divInt ((loL out data).getD j 0) 65535), frT (Rat.divInt ((hiL out data).getD j 0) 65535)] (.tup [.agg [.int .i64 ((fun j => confB (evQ [z0, z1] out data (midB (X 0)) (midB (X 1)) 0 j) (sprQ [z0, z1] data out 2 X j) (Rat.divInt ((loL out data).getD j 0) 65535) (Rat.divInt ((hiL out data).getD j 0) 65535)) j).1, .int .i64 ((fun j => confB (evQ [z0, z1] out data (midB (X 0)) (midB (X 1)) 0 j) (sprQ [z0, z1] data out 2 X j) (Rat.divInt ((loL out data).getD j 0) 65535) (Rat.divInt ((hiL out data).getD j 0) 65535)) j).2], .int .i64 0]) := fun j hj => by
  have rb := jdk hg hj
  have ei := ev_in2 (x0 := midB (X 0)) (x1 := midB (X 1)) hg hj
  have sp := spr_q2 (so j) (H := fun i => halB (X i)) (fun i _ => fq_hal (X i))
  have sb := smF_bd (P := fun i => (((outS [z0, z1] data out [z0, z1].length j).getD i 0 : Int) : Rat) * halB (X i)) (n := 1) (fun i hi => spr_term (so j) (hX i (by omega))) 1 (jii _)
  have n3 : (((1 + 1 : Nat) : Int) : Rat) ≤ 3 := by decide +kernel
  refine conf_q (fq_ev2 hg fm0 fm1 j) sp.2 (fq_full rb.1) (fq_full rb.2.1) ?_ ⟨?_, ei.1⟩ ⟨ei.2, ?_⟩
  ·show 0 ≤ smF _ _ / 65535 ∧ smF _ _ / 65535 ≤ 50000
   constructor <;> grind
  ·rw [divF]
   have : (0 : Rat) ≤ (((loL out data).getD j 0 : Int) : Rat) := by exact_mod_cast rb.1.1
   grind
  ·rw [divF]
   have : (((hiL out data).getD j 0 : Int) : Rat) ≤ ((65535 : Int) : Rat) := Rat.intCast_le_intCast.2 rb.2.1.2
   rw [show ((65535 : Int) : Rat) = 65535 from rfl] at this
   grind
 have o1 : ∀ j, j < out.toNat → Called Tryz.prog 58 [.int .i64 ((loL out data).getD j 0), .int .i64 65535] (frT (Rat.divInt ((loL out data).getD j 0) 65535)) := fun j hj => jd3 (by have := jdk hg hj; omega) (by decide)
 have o2 : ∀ j, j < out.toNat → Called Tryz.prog 58 [.int .i64 ((hiL out data).getD j 0), .int .i64 65535] (frT (Rat.divInt ((hiL out data).getD j 0) 65535)) := fun j hj => jd3 (by have := jdk hg hj; omega) (by decide)
 have sp : ∀ j, Called Tryz.prog 60 [.ints .i64 (outS [z0, z1] data out [z0, z1].length j), slQ (fun i => txq (halB (X i))) 2] (.tup [frT (sprQ [z0, z1] data out 2 X j), .int .i64 0]) := fun j => (spr_q2 (so j) (H := fun i => halB (X i)) (fun i _ => fq_hal (X i))).1
 subst ho
 exact bands2_t [z0, z1] data _ _ 1 X (fun i => (clI (X i).1, clI (X i).2)) (fun i => txq (midB (X i))) (fun i => txq (halB (X i))) _ _ _ _ _ _ rfl (fun i _ => ⟨jbU _, jbU _⟩) (range_q hg (by simp)) li om oh ev (steep1_t [z0, z1] data (outS [z0, z1] data 1 [z0, z1].length) hg (by simp) rfl) (blist1c (F := 59) (fun j => confB (evQ [z0, z1] 1 data (midB (X 0)) (midB (X 1)) 0 j) (sprQ [z0, z1] data 1 2 X j) (Rat.divInt ((loL 1 data).getD j 0) 65535) (Rat.divInt ((hiL 1 data).getD j 0) 65535)) (bands2_210 (outS [z0, z1] data 1 [z0, z1].length) (fun i => txq (halB (X i))) (fun j => txq (evQ [z0, z1] 1 data (midB (X 0)) (midB (X 1)) 0 j)) _ _ _ _ _ _ _ _ ((fun j => confB (evQ [z0, z1] 1 data (midB (X 0)) (midB (X 1)) 0 j) (sprQ [z0, z1] data 1 2 X j) (Rat.divInt ((loL 1 data).getD j 0) 65535) (Rat.divInt ((hiL 1 data).getD j 0) 65535)) 0) rl.2.2.1 rl.2.2.2 (sp 0) (o1 0 (by decide)) (o2 0 (by decide)) (b2 0 (by decide))))
def wkQ : Nat → Rat
 | 0 => Rat.divInt 1 2
 | 1 => Rat.divInt 1 4
 | 2 => Rat.divInt 7 20
 | 3 => Rat.divInt 3 10
 | 4 => Rat.divInt 1 1
 | _ => Rat.divInt 2 1
theorem jdY : ∀ k, Fq 40 (wkQ k)
 | 0 => ⟨by decide +kernel, by decide +kernel⟩
 | 1 => ⟨by decide +kernel, by decide +kernel⟩
 | 2 => ⟨by decide +kernel, by decide +kernel⟩
 | 3 => ⟨by decide +kernel, by decide +kernel⟩
 | 4 => ⟨by decide +kernel, by decide +kernel⟩
 | _ + 5 => by
  show Fq 40 (Rat.divInt 2 1)
  exact ⟨by decide +kernel, by decide +kernel⟩
theorem jdV : jal [2, 2] 1 [0, 13107, 26214, 65535] = true := by decide +kernel
theorem wk_ev {x0 x1 y : Rat} (h0 : Fq 40 x0) (h1 : Fq 40 x1) (e : evQ [2, 2] 1 [0, 13107, 26214, 65535] x0 x1 0 0 = y) : Called Tryz.prog 26 [gridD [2, 2] 1 [0, 13107, 26214, 65535], frT y, slQ (fun i => txq (rqN x0 x1 0 i)) 2] (.bool true) := by
 have v : Called Tryz.prog 26 [gridD [2, 2] 1 [0, 13107, 26214, 65535], frT (evQ [2, 2] 1 [0, 13107, 26214, 65535] x0 x1 0 0), slQ (fun i => txq (rqN x0 x1 0 i)) 2] (.bool true) := value_t _ _ _ 2 _ (fun j => txq (evQ [2, 2] 1 [0, 13107, 26214, 65535] x0 x1 0 j)) (evalq2 jdV h0 h1)
 rw [e] at v
 exact v
theorem wk_cell : Called Tryz.prog 17 [gridD [2, 2] 1 [0, 13107, 26214, 65535], slQ (fun i => txq (wkQ i)) 2] (.tup [.ints .i64 [0, 0], .ints .i64 [0, 1], .slf 2 3 (fun j => List.take 2 (List.drop (j * 2) [.str (txq (wkQ 0)).1, .str (txq (wkQ 0)).2, .str (txq (wkQ 1)).1, .str (txq (wkQ 1)).2, .str (txq (wkQ 1)).1, .str (txq (wkQ 1)).2])), .int .i64 0]) := by
 have c := cellq2 jdV (jdY 0) (jdY 1)
 have e0 : spB 2 (wkQ 0) = 0 := by decide +kernel
 have e1 : spB 2 (wkQ 1) = 0 := by decide +kernel
 have e2 : ord2 (spR 2 (wkQ 0)) (spR 2 (wkQ 1)) = [0, 1] := by decide +kernel
 rw [e0, e1, e2] at c
 have w0 : wqN (rqN (spR 2 (wkQ 0)) (spR 2 (wkQ 1)) 0) [0, 1] 2 0 = wkQ 0 := by decide +kernel
 have w1 : wqN (rqN (spR 2 (wkQ 0)) (spR 2 (wkQ 1)) 0) [0, 1] 2 1 = wkQ 1 := by decide +kernel
 have w2 : wqN (rqN (spR 2 (wkQ 0)) (spR 2 (wkQ 1)) 0) [0, 1] 2 2 = wkQ 1 := by decide +kernel
 have hw : wce (fun k => txq (wqN (rqN (spR 2 (wkQ 0)) (spR 2 (wkQ 1)) 0) [0, 1] 2 k)) 3 = [.str (txq (wkQ 0)).1, .str (txq (wkQ 0)).2, .str (txq (wkQ 1)).1, .str (txq (wkQ 1)).2, .str (txq (wkQ 1)).1, .str (txq (wkQ 1)).2] := by
  simp only [wce, w0, w1, w2]
  rfl
 unfold slQ at c
 rw [hw] at c
 exact c
theorem wk_steep : Called Tryz.prog 32 [gridD [2, 2] 1 [0, 13107, 26214, 65535]] (.tup [.slf 1 1 (fun j => List.take 1 (List.drop (j * 1) [.ints .i64 [52428, 39321]])), .int .i64 0]) := by
 have c := steep1_t [2, 2] [0, 13107, 26214, 65535] _ jdV (by decide) rfl
 have e : outS [2, 2] [0, 13107, 26214, 65535] 1 ([2, 2] : List Int).length 0 = [52428, 39321] := by decide +kernel
 rw [e] at c
 exact c
def wkB (a b c d : Int) (k : Nat) : Int × Int := if k = 0 then (a, b) else (c, d)
theorem slB1 {B : Nat → Int × Int} {y z : Int} (h : B 0 = (y, z)) : slB B 1 = .slf 2 1 (fun j => List.take 2 (List.drop (j * 2) [.int .i64 y, .int .i64 z])) := by
 show D.slf 2 1 (fun j => List.take 2 (List.drop (j * 2) [.int .i64 (B 0).1, .int .i64 (B 0).2])) = _
 rw [h]
theorem wk_bands {a b c d y z : Int} (h : vb a b = true ∧ vb c d = true) (e : confB (evQ [2, 2] 1 [0, 13107, 26214, 65535] (midB (a, b)) (midB (c, d)) 0 0) (sprQ [2, 2] [0, 13107, 26214, 65535] 1 2 (wkB a b c d) 0) (Rat.divInt ((loL 1 [0, 13107, 26214, 65535]).getD 0 0) 65535) (Rat.divInt ((hiL 1 [0, 13107, 26214, 65535]).getD 0 0) 65535) = (y, z)) :
  Called Tryz.prog 29 [gridD [2, 2] 1 [0, 13107, 26214, 65535], .slf 2 2 (fun j => List.take 2 (List.drop (j * 2) [.int .i64 a, .int .i64 b, .int .i64 c, .int .i64 d]))] (.tup [.slf 2 1 (fun j => List.take 2 (List.drop (j * 2) [.int .i64 y, .int .i64 z])), .int .i64 0]) := by
 have q := bandq2_1 rfl jdV (wkB a b c d) (fun i hi => by
  have : i = 0 ∨ i = 1 := by omega
  rcases this with rfl | rfl
  ·exact h.1
  ·exact h.2)
 refine Called.cast q ?_
 rw [show (1 : Int).toNat = 1 from rfl, slB1 (y := y) (z := z)]
 exact e
theorem wk_refine : Called Tryz.prog 33 [gridD [2, 2] 1 [0, 13107, 26214, 65535], .ints .i64 [3, 2]] (.tup [.agg [.ints .i64 [3, 2], .int .i64 1, .ints .i64 [0, 13107, 13107, 39321, 26214, 65535]], .int .i64 0]) := by
 have c := refq2 jdV [3, 2] rfl (by decide) (by decide)
 have e : rfD [2, 2] 1 [0, 13107, 26214, 65535] [3, 2] = [0, 13107, 13107, 39321, 26214, 65535] := by decide +kernel
 rw [e] at c
 exact c
theorem wk_len (X : Nat → List D) : Called Tryz.prog 15 [gridD [2, 2] 1 [0, 13107, 26214, 65535], .slf 2 1 X] (.tup [.nil, .int .i64 2]) := by
 have ck := Called.cast (jb1 [2, 2] 1 [0, 13107, 26214, 65535] (by decide) (by decide)) (by rw [jdV]; first | done | rfl)
 exact eval_e _ _ _ 2 (by decide) 1 X (loc_len _ _ _ 1 X (by decide) ck)
theorem jgV : Called Tryz.prog 10 [] (.bool true) := by
 refine wakes_t (fun k => txq (wkQ k)) (lof_c (by omega) (by omega)) (lof_c (by omega) (by omega)) (lof_c (by omega) (by omega)) (lof_c (by omega) (by omega)) (lof_c (by omega) (by omega)) (lof_c (by omega) (by omega)) lfour_c wk_cell wk_steep
  (wk_bands (by decide +kernel) (by decide +kernel)) (wk_bands (by decide +kernel) (by decide +kernel)) wk_refine (wk_len _) (wk_ev (y := wkQ 2) (jdY 0) (jdY 1) (by decide +kernel)) (wk_ev (y := wkQ 3) (jdY 1) (jdY 0) (by decide +kernel)) (wk_ev (y := wkQ 4) (jdY 5) (jdY 4) (by decide +kernel))
end Go.Proofs.YtgjgpdceghjajaaGreatDoor
end
