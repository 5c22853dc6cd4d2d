/- What some functions of the program answer at values that mean given lists, texts and numbers, each proved of the program's own code: part 37. Conditions: those that each theorem names. -/
import Derived.Test.YtgjgpdceghjajaaGreatDoorSimplexKnownH33
import Derived.Test.YtgjgpdceghjajaaGreatDoorSimplexKnownH36
import Derived.Test.YtgjgpdceghjajaaGreatDoorSimplexKnownH34
import Derived.Test.YtgjgpdceghjajaaGreatDoorSimplexKnownH14
set_option linter.unusedSimpArgs false
set_option linter.unusedVariables false
set_option maxHeartbeats 8000000
set_option maxRecDepth 100000
section
namespace Go.Proofs.YtgjgpdceghjajaaGreatDoor
open Go Go.V Go.Nb Go.Gr
theorem nearU_bd {x : Rat} (h0 : 0 ≤ x) (h1 : x ≤ 1) : 0 ≤ nearZ x 65535 ∧ nearZ x 65535 ≤ 65535 := by
 have hd : (0 : Int) < x.den := by have := x.den_pos; omega
 have hn : 0 ≤ x.num := Rat.num_nonneg.2 h0
 have hn1 : x.num ≤ x.den := by
  have := Rat.le_iff (a := x) (b := 1) |>.1 h1
  simpa using this
 unfold nearZ
 have e1 : ((65535 * 2 : Nat) : Int) = 131070 := rfl
 have e2 : ((x.den * 2 : Nat) : Int) = 2 * (x.den : Int) := by push_cast; omega
 rw [e1, e2]
 refine ⟨Int.ediv_nonneg (by omega) (by omega), ?_⟩
 have : (x.num * 131070 + x.den) / (2 * (x.den : Int)) < 65536 := Int.ediv_lt_of_lt_mul (by omega) (by omega)
 omega
theorem near_q {n : Nat} {x : Rat} (h : Fq n x) (h0 : 0 < n ∧ n ≤ 600) (hb : 0 ≤ x ∧ x ≤ 1) : Called Tryz.prog 68 [frT x, .int .i64 65535] (.tup [.int .i64 (nearZ x 65535), .int .i64 0]) := by
 have o := ja5 (h.ok h0.1 h0.2)
 have b := nearU_bd hb.1 hb.2
 have c := near_f (decZ x.num) (dec x.den) 65535 o.1 (by omega) (by omega) (by rw [o.2]; omega)
 rw [o.2] at c
 exact c
def xR (ts : List Nat) (m i : Nat) : Rat := Rat.divInt ((pad4 (ixl ts m)).getD i 0) ((nz ts).getD i 0 - 1)
def rfW (zs : List Int) (out : Int) (data : List Int) (ts : List Nat) (m j : Nat) : Int := nearZ (evQ zs out data (xR ts m 0) (xR ts m 1) (xR ts m 2) j) 65535
def rfD (zs : List Int) (out : Int) (data : List Int) (ts : List Nat) : List Int := flat ts (fun m => (List.range out.toNat).map (rfW zs out data ts m)) (PR ts)
theorem jeb (l : List Int) (i : Nat) : (pad4 l).getD i 0 = l.getD i 0 := by
 unfold pad4
 rw [List.getD_eq_getElem?_getD, List.getD_eq_getElem?_getD]
 rcases jhK i l.length with h | h
 ·rw [List.getElem?_append_left h]
 ·rw [List.getElem?_append_right h, List.getElem?_eq_none h]
  cases e : (List.replicate (4 - l.length) (0 : Int))[i - l.length]? with
  | none => rfl
  | some v => have := List.mem_of_getElem? e; rw [List.mem_replicate] at this; rw [this.2]; rfl
theorem xR_off {ts : List Nat} {m i : Nat} (h : ts.length ≤ i) : xR ts m i = 0 := by
 unfold xR
 rw [jeb, List.getD_eq_getElem?_getD, List.getElem?_eq_none (by rw [jau]; exact h)]
 simp
theorem xR_at {ts : List Nat} {m i n : Nat} (h2 : ∀ n ∈ ts, 2 ≤ n ∧ n ≤ 9) (h : ts[i]? = some n) : ∃ a : Int, (pad4 (ixl ts m)).getD i 0 = a ∧ (ixl ts m).getD i 0 = a ∧ (0 ≤ a ∧ a ≤ (n : Int) - 1) ∧ (nz ts).getD i 0 = n ∧ xR ts m i = Rat.divInt a ((n : Int) - 1) := by
 have e := jfB ts m i n h
 have b := jdC (m := m) (fun n hn => by have := h2 n hn; omega) h e
 have en : (nz ts).getD i 0 = n := by simp [nz, List.getD_eq_getElem?_getD, h]
 have e1 : (ixl ts m).getD i 0 = ((m / PR (ts.drop (i + 1)) % n : Nat) : Int) := by rw [List.getD_eq_getElem?_getD, e]; rfl
 exact ⟨_, by rw [jeb, e1], e1, b, en, by unfold xR; rw [jeb, e1, en]⟩
theorem xR_fq {ts : List Nat} (h2 : ∀ n ∈ ts, 2 ≤ n ∧ n ≤ 9) (m i : Nat) : Fq 40 (xR ts m i) := by
 rcases jhK i ts.length with h | h
 ·have hn := List.getElem?_eq_getElem h
  have hb := h2 _ (List.getElem_mem h)
  obtain ⟨a, _, _, ha, _, e⟩ := xR_at (m := m) h2 hn
  rw [e]
  generalize ts[i] = n at *
  obtain ⟨d, hd⟩ : ∃ d : Nat, (n : Int) - 1 = (d : Int) := ⟨n - 1, by omega⟩
  rw [hd]
  refine jaZ (by omega) ?_ ?_
  ·exact Nat.lt_of_le_of_lt (show a.natAbs ≤ 9 by omega) (by decide)
  ·exact Nat.lt_of_le_of_lt (show d ≤ 9 by omega) (by decide)
 ·rw [xR_off h]; exact ⟨by decide, by decide⟩
theorem ev_unit2 {z0 z1 out : Int} {data : List Int} (hg : jan [z0, z1] out data = true) (x0 x1 : Rat) {j : Nat} (hj : j < out.toNat) : 0 ≤ evQ [z0, z1] out data x0 x1 0 j ∧ evQ [z0, z1] out data x0 x1 0 j ≤ 1 := by
 obtain ⟨b1, b2⟩ := ev_in2 (x0 := x0) (x1 := x1) hg hj
 obtain ⟨r1, r2, _⟩ := jd5 hg hj
 rw [divF] at b1
 generalize (loL out data).getD j 0 = a at *
 generalize (hiL out data).getD j 0 = b at *
 have a0 : (0 : Rat) ≤ (a : Rat) := Rat.intCast_le_intCast.2 r1.1
 have b0 : (b : Rat) ≤ 65535 := by
  have := Rat.intCast_le_intCast.2 r2.2
  rwa [show ((65535 : Int) : Rat) = 65535 from by decide +kernel] at this
 rw [divF] at b2
 constructor <;> grind
theorem rfW2 {z0 z1 out : Int} {data : List Int} {ts : List Nat} (ht : ts.length = 2) (m j : Nat) : rfW [z0, z1] out data ts m j = nearZ (evQ [z0, z1] out data (xR ts m 0) (xR ts m 1) 0 j) 65535 := by
 unfold rfW
 rw [xR_off (i := 2) (by omega)]
theorem refq2 {z0 z1 out : Int} {data : List Int} (hg : jan [z0, z1] out data = true) (ts : List Nat) (ht : ts.length = 2) (h2 : ∀ n ∈ ts, 2 ≤ n ∧ n ≤ 9) (hc : cnP out ts 2 ≤ 4096) : Called Tryz.prog 33 [gridD [z0, z1] out data, .ints .i64 (nz ts)] (.tup [gridD (nz ts) out (rfD [z0, z1] out data ts), .int .i64 0]) := by
 have ho := (jaI hg).1
 have hl := (jaI hg).2.2.1.1
 have fx := fun m i => xR_fq h2 m i
 have ck := Called.cast (jch [z0, z1] out data (by simp) (by omega)) (by rw [hg]; first | done | rfl)
 refine refine2_t [z0, z1] data out ts (fun m i => txq (xR ts m i)) (fun m j => txq (evQ [z0, z1] out data (xR ts m 0) (xR ts m 1) 0 j)) (rfW [z0, z1] out data ts) rfl ht h2 ho hc ck (fun m i hm hi => ?_) (fun m hm => evalq2 hg (fx m 0) (fx m 1)) (fun m j hm hj => ?_)
 ·obtain ⟨n, hn⟩ : ∃ n, ts[i]? = some n := ⟨ts[i], List.getElem?_eq_getElem (by omega)⟩
  obtain ⟨a, e1, e2, ha, e3, e4⟩ := xR_at (m := m) h2 hn
  have hb := h2 n (List.mem_of_getElem? hn)
  have c := jec (n := a) (m := (n : Int) - 1) (by omega) (by omega)
  rw [e1, e3]
  rw [← e4] at c
  exact c
 ·rw [rfW2 ht]
  exact near_q (fq_ev2 hg (fx m 0) (fx m 1) j) (by decide) (ev_unit2 hg (xR ts m 0) (xR ts m 1) hj)
theorem ev_unit3 {z0 z1 z2 out : Int} {data : List Int} (hg : jan [z0, z1, z2] out data = true) (x0 x1 x2 : Rat) {j : Nat} (hj : j < out.toNat) : 0 ≤ evQ [z0, z1, z2] out data x0 x1 x2 j ∧ evQ [z0, z1, z2] out data x0 x1 x2 j ≤ 1 := by
 obtain ⟨b1, b2⟩ := ev_in3 (x0 := x0) (x1 := x1) (x2 := x2) hg hj
 obtain ⟨r1, r2, _⟩ := jd5 hg hj
 rw [divF] at b1
 generalize (loL out data).getD j 0 = a at *
 generalize (hiL out data).getD j 0 = b at *
 have a0 : (0 : Rat) ≤ (a : Rat) := Rat.intCast_le_intCast.2 r1.1
 have b0 : (b : Rat) ≤ 65535 := by
  have := Rat.intCast_le_intCast.2 r2.2
  rwa [show ((65535 : Int) : Rat) = 65535 from by decide +kernel] at this
 rw [divF] at b2
 constructor <;> grind
theorem rfW3 {z0 z1 z2 out : Int} {data : List Int} {ts : List Nat} (ht : ts.length = 3) (m j : Nat) : rfW [z0, z1, z2] out data ts m j = nearZ (evQ [z0, z1, z2] out data (xR ts m 0) (xR ts m 1) (xR ts m 2) j) 65535 := by
 unfold rfW
 rfl
theorem refq3 {z0 z1 z2 out : Int} {data : List Int} (hg : jan [z0, z1, z2] out data = true) (ts : List Nat) (ht : ts.length = 3) (h2 : ∀ n ∈ ts, 2 ≤ n ∧ n ≤ 9) (hc : cnP out ts 3 ≤ 4096) : Called Tryz.prog 33 [gridD [z0, z1, z2] out data, .ints .i64 (nz ts)] (.tup [gridD (nz ts) out (rfD [z0, z1, z2] out data ts), .int .i64 0]) := by
 have ho := (jaI hg).1
 have hl := (jaI hg).2.2.1.1
 have fx := fun m i => xR_fq h2 m i
 have ck := Called.cast (jch [z0, z1, z2] out data (by simp) (by omega)) (by rw [hg]; first | done | rfl)
 refine refine3_t [z0, z1, z2] data out ts (fun m i => txq (xR ts m i)) (fun m j => txq (evQ [z0, z1, z2] out data (xR ts m 0) (xR ts m 1) (xR ts m 2) j)) (rfW [z0, z1, z2] out data ts) rfl ht h2 ho hc ck (fun m i hm hi => ?_) (fun m hm => evalq3 hg (fx m 0) (fx m 1) (fx m 2)) (fun m j hm hj => ?_)
 ·obtain ⟨n, hn⟩ : ∃ n, ts[i]? = some n := ⟨ts[i], List.getElem?_eq_getElem (by omega)⟩
  obtain ⟨a, e1, e2, ha, e3, e4⟩ := xR_at (m := m) h2 hn
  have hb := h2 n (List.mem_of_getElem? hn)
  have c := jec (n := a) (m := (n : Int) - 1) (by omega) (by omega)
  rw [e1, e3]
  rw [← e4] at c
  exact c
 ·rw [rfW3 ht]
  exact near_q (fq_ev3 hg (fx m 0) (fx m 1) (fx m 2) j) (by decide) (ev_unit3 hg (xR ts m 0) (xR ts m 1) (xR ts m 2) hj)
theorem bandq2_1 {z0 z1 out : Int} (ho : out = 1) {data : List Int} (hg : jan [z0, z1] out data = true) (X : Nat → Int × Int) (hX : ∀ i, i < 2 → vb (X i).1 (X i).2 = true) :
  Called Tryz.prog 29 [gridD [z0, z1] out data, slB X 2] (.tup [slB (fun j => confB (evQ [z0, z1] out data (midB (X 0)) (midB (X 1)) 0 j) (sprQ [z0, z1] data out 2 X j) (Rat.divInt ((loL out data).getD j 0) 65535) (Rat.divInt ((hiL out data).getD j 0) 65535)) out.toNat, .int .i64 0]) := by
 have og := jaI hg
 have so := jgD (out := out) og.2.2.2 og.2.1 2 (jhE _)
 have rl := rng_ok hg
 have li := blist2a (F := 56) (fun i => (clI (X i).1, clI (X i).2)) (jgh X (clI (X 0).1, clI (X 0).2) (jg6 (hX 0 (by decide)))) (bands1_21 X (clI (X 1).1, clI (X 1).2) (jg6 (hX 1 (by decide))))
 have fm0 := (fq_mid (X 0)).mono (show 14 ≤ 40 by decide)
 have fm1 := (fq_mid (X 1)).mono (show 14 ≤ 40 by decide)
 have om : ∀ i, i < 2 → Called Tryz.prog 58 [.int .i64 (clI (X i).1 + clI (X i).2), .int .i64 2000000000000] (frT (midB (X i))) := fun i _ => jec (by have := jbQ (X i).1; have := jbQ (X i).2; omega) (by decide)
 have oh : ∀ i, i < 2 → Called Tryz.prog 58 [.int .i64 (clI (X i).2 - clI (X i).1), .int .i64 2000000000000] (frT (halB (X i))) := fun i _ => jec (by have := jbQ (X i).1; have := jbQ (X i).2; omega) (by decide)
 have ev := evalq2 hg fm0 fm1
 have b2 : ∀ j, j < out.toNat → Called Tryz.prog 61 [frT (evQ [z0, z1] out data (midB (X 0)) (midB (X 1)) 0 j), frT (sprQ [z0, z1] data out 2 X j), frT (Rat.divInt ((loL out data).getD j 0) 65535), frT (Rat.divInt ((hiL out data).getD j 0) 65535)] (.tup [.agg [.int .i64 ((fun j => confB (evQ [z0, z1] out data (midB (X 0)) (midB (X 1)) 0 j) (sprQ [z0, z1] data out 2 X j) (Rat.divInt ((loL out data).getD j 0) 65535) (Rat.divInt ((hiL out data).getD j 0) 65535)) j).1, .int .i64 ((fun j => confB (evQ [z0, z1] out data (midB (X 0)) (midB (X 1)) 0 j) (sprQ [z0, z1] data out 2 X j) (Rat.divInt ((loL out data).getD j 0) 65535) (Rat.divInt ((hiL out data).getD j 0) 65535)) j).2], .int .i64 0]) := fun j hj => by
  have rb := jd5 hg hj
  have ei := ev_in2 (x0 := midB (X 0)) (x1 := midB (X 1)) hg hj
  have sp := spr_q2 (so j) (H := fun i => halB (X i)) (fun i _ => fq_hal (X i))
  have sb := smF_bd (P := fun i => (((outS [z0, z1] data out [z0, z1].length j).getD i 0 : Int) : Rat) * halB (X i)) (n := 1) (fun i hi => spr_term (so j) (hX i (by omega))) 1 (jhE _)
  have n3 : (((1 + 1 : Nat) : Int) : Rat) ≤ 3 := by decide +kernel
  refine conf_q (fq_ev2 hg fm0 fm1 j) sp.2 (fq_full rb.1) (fq_full rb.2.1) ?_ ⟨?_, ei.1⟩ ⟨ei.2, ?_⟩
  ·show 0 ≤ smF _ _ / 65535 ∧ smF _ _ / 65535 ≤ 50000
   constructor <;> grind
  ·rw [divF]
   have : (0 : Rat) ≤ (((loL out data).getD j 0 : Int) : Rat) := by exact_mod_cast rb.1.1
   grind
  ·rw [divF]
   have : (((hiL out data).getD j 0 : Int) : Rat) ≤ ((65535 : Int) : Rat) := Rat.intCast_le_intCast.2 rb.2.1.2
   rw [show ((65535 : Int) : Rat) = 65535 from rfl] at this
   grind
 have o1 : ∀ j, j < out.toNat → Called Tryz.prog 58 [.int .i64 ((loL out data).getD j 0), .int .i64 65535] (frT (Rat.divInt ((loL out data).getD j 0) 65535)) := fun j hj => jec (by have := jd5 hg hj; omega) (by decide)
 have o2 : ∀ j, j < out.toNat → Called Tryz.prog 58 [.int .i64 ((hiL out data).getD j 0), .int .i64 65535] (frT (Rat.divInt ((hiL out data).getD j 0) 65535)) := fun j hj => jec (by have := jd5 hg hj; omega) (by decide)
 have sp : ∀ j, Called Tryz.prog 60 [.ints .i64 (outS [z0, z1] data out [z0, z1].length j), slQ (fun i => txq (halB (X i))) 2] (.tup [frT (sprQ [z0, z1] data out 2 X j), .int .i64 0]) := fun j => (spr_q2 (so j) (H := fun i => halB (X i)) (fun i _ => fq_hal (X i))).1
 subst ho
 exact bands2_t [z0, z1] data _ _ 1 X (fun i => (clI (X i).1, clI (X i).2)) (fun i => txq (midB (X i))) (fun i => txq (halB (X i))) _ _ _ _ _ _ rfl (fun i _ => ⟨jbQ _, jbQ _⟩) (range_q hg (by simp)) li om oh ev (steep1_t [z0, z1] data (outS [z0, z1] data 1 [z0, z1].length) hg (by simp) rfl) (blist1c (F := 59) (fun j => confB (evQ [z0, z1] 1 data (midB (X 0)) (midB (X 1)) 0 j) (sprQ [z0, z1] data 1 2 X j) (Rat.divInt ((loL 1 data).getD j 0) 65535) (Rat.divInt ((hiL 1 data).getD j 0) 65535)) (bands2_210 (outS [z0, z1] data 1 [z0, z1].length) (fun i => txq (halB (X i))) (fun j => txq (evQ [z0, z1] 1 data (midB (X 0)) (midB (X 1)) 0 j)) _ _ _ _ _ _ _ _ ((fun j => confB (evQ [z0, z1] 1 data (midB (X 0)) (midB (X 1)) 0 j) (sprQ [z0, z1] data 1 2 X j) (Rat.divInt ((loL 1 data).getD j 0) 65535) (Rat.divInt ((hiL 1 data).getD j 0) 65535)) 0) rl.2.2.1 rl.2.2.2 (sp 0) (o1 0 (by decide)) (o2 0 (by decide)) (b2 0 (by decide))))
def wkQ : Nat → Rat
 | 0 => Rat.divInt 1 2
 | 1 => Rat.divInt 1 4
 | 2 => Rat.divInt 7 20
 | 3 => Rat.divInt 3 10
 | 4 => Rat.divInt 1 1
 | _ => Rat.divInt 2 1
theorem jdw : ∀ k, Fq 40 (wkQ k)
 | 0 => ⟨by decide +kernel, by decide +kernel⟩
 | 1 => ⟨by decide +kernel, by decide +kernel⟩
 | 2 => ⟨by decide +kernel, by decide +kernel⟩
 | 3 => ⟨by decide +kernel, by decide +kernel⟩
 | 4 => ⟨by decide +kernel, by decide +kernel⟩
 | _ + 5 => by
  show Fq 40 (Rat.divInt 2 1)
  exact ⟨by decide +kernel, by decide +kernel⟩
theorem jcv : jan [2, 2] 1 [0, 13107, 26214, 65535] = true := by decide +kernel
theorem wk_ev {x0 x1 y : Rat} (h0 : Fq 40 x0) (h1 : Fq 40 x1) (e : evQ [2, 2] 1 [0, 13107, 26214, 65535] x0 x1 0 0 = y) : Called Tryz.prog 26 [gridD [2, 2] 1 [0, 13107, 26214, 65535], frT y, slQ (fun i => txq (rqN x0 x1 0 i)) 2] (.bool true) := by
 have v : Called Tryz.prog 26 [gridD [2, 2] 1 [0, 13107, 26214, 65535], frT (evQ [2, 2] 1 [0, 13107, 26214, 65535] x0 x1 0 0), slQ (fun i => txq (rqN x0 x1 0 i)) 2] (.bool true) := value_t _ _ _ 2 _ (fun j => txq (evQ [2, 2] 1 [0, 13107, 26214, 65535] x0 x1 0 j)) (evalq2 jcv h0 h1)
 rw [e] at v
 exact v
theorem wk_cell : Called Tryz.prog 17 [gridD [2, 2] 1 [0, 13107, 26214, 65535], slQ (fun i => txq (wkQ i)) 2] (.tup [.ints .i64 [0, 0], .ints .i64 [0, 1], .slf 2 3 (fun j => List.take 2 (List.drop (j * 2) [.str (txq (wkQ 0)).1, .str (txq (wkQ 0)).2, .str (txq (wkQ 1)).1, .str (txq (wkQ 1)).2, .str (txq (wkQ 1)).1, .str (txq (wkQ 1)).2])), .int .i64 0]) := by
 have c := cellq2 jcv (jdw 0) (jdw 1)
 have e0 : spB 2 (wkQ 0) = 0 := by decide +kernel
 have e1 : spB 2 (wkQ 1) = 0 := by decide +kernel
 have e2 : ord2 (spR 2 (wkQ 0)) (spR 2 (wkQ 1)) = [0, 1] := by decide +kernel
 rw [e0, e1, e2] at c
 have w0 : wqN (rqN (spR 2 (wkQ 0)) (spR 2 (wkQ 1)) 0) [0, 1] 2 0 = wkQ 0 := by decide +kernel
 have w1 : wqN (rqN (spR 2 (wkQ 0)) (spR 2 (wkQ 1)) 0) [0, 1] 2 1 = wkQ 1 := by decide +kernel
 have w2 : wqN (rqN (spR 2 (wkQ 0)) (spR 2 (wkQ 1)) 0) [0, 1] 2 2 = wkQ 1 := by decide +kernel
 have hw : wce (fun k => txq (wqN (rqN (spR 2 (wkQ 0)) (spR 2 (wkQ 1)) 0) [0, 1] 2 k)) 3 = [.str (txq (wkQ 0)).1, .str (txq (wkQ 0)).2, .str (txq (wkQ 1)).1, .str (txq (wkQ 1)).2, .str (txq (wkQ 1)).1, .str (txq (wkQ 1)).2] := by
  simp only [wce, w0, w1, w2]
  rfl
 unfold slQ at c
 rw [hw] at c
 exact c
theorem wk_steep : Called Tryz.prog 32 [gridD [2, 2] 1 [0, 13107, 26214, 65535]] (.tup [.slf 1 1 (fun j => List.take 1 (List.drop (j * 1) [.ints .i64 [52428, 39321]])), .int .i64 0]) := by
 have c := steep1_t [2, 2] [0, 13107, 26214, 65535] _ jcv (by decide) rfl
 have e : outS [2, 2] [0, 13107, 26214, 65535] 1 ([2, 2] : List Int).length 0 = [52428, 39321] := by decide +kernel
 rw [e] at c
 exact c
def wkB (a b c d : Int) (k : Nat) : Int × Int := if k = 0 then (a, b) else (c, d)
theorem slB1 {B : Nat → Int × Int} {y z : Int} (h : B 0 = (y, z)) : slB B 1 = .slf 2 1 (fun j => List.take 2 (List.drop (j * 2) [.int .i64 y, .int .i64 z])) := by
 show D.slf 2 1 (fun j => List.take 2 (List.drop (j * 2) [.int .i64 (B 0).1, .int .i64 (B 0).2])) = _
 rw [h]
theorem jfd {a b c d y z : Int} (h : vb a b = true ∧ vb c d = true) (e : confB (evQ [2, 2] 1 [0, 13107, 26214, 65535] (midB (a, b)) (midB (c, d)) 0 0) (sprQ [2, 2] [0, 13107, 26214, 65535] 1 2 (wkB a b c d) 0) (Rat.divInt ((loL 1 [0, 13107, 26214, 65535]).getD 0 0) 65535) (Rat.divInt ((hiL 1 [0, 13107, 26214, 65535]).getD 0 0) 65535) = (y, z)) :
  Called Tryz.prog 29 [gridD [2, 2] 1 [0, 13107, 26214, 65535], .slf 2 2 (fun j => List.take 2 (List.drop (j * 2) [.int .i64 a, .int .i64 b, .int .i64 c, .int .i64 d]))] (.tup [.slf 2 1 (fun j => List.take 2 (List.drop (j * 2) [.int .i64 y, .int .i64 z])), .int .i64 0]) := by
 have q := bandq2_1 rfl jcv (wkB a b c d) (fun i hi => by
  have : i = 0 ∨ i = 1 := by omega
  rcases this with rfl | rfl
  ·exact h.1
  ·exact h.2)
 refine Called.cast q ?_
 rw [show (1 : Int).toNat = 1 from rfl, slB1 (y := y) (z := z)]
 exact e
theorem wk_refine : Called Tryz.prog 33 [gridD [2, 2] 1 [0, 13107, 26214, 65535], .ints .i64 [3, 2]] (.tup [.agg [.ints .i64 [3, 2], .int .i64 1, .ints .i64 [0, 13107, 13107, 39321, 26214, 65535]], .int .i64 0]) := by
 have c := refq2 jcv [3, 2] rfl (by decide) (by decide)
 have e : rfD [2, 2] 1 [0, 13107, 26214, 65535] [3, 2] = [0, 13107, 13107, 39321, 26214, 65535] := by decide +kernel
 rw [e] at c
 exact c
theorem wk_len (X : Nat → List D) : Called Tryz.prog 15 [gridD [2, 2] 1 [0, 13107, 26214, 65535], .slf 2 1 X] (.tup [.nil, .int .i64 2]) := by
 have ck := Called.cast (jch [2, 2] 1 [0, 13107, 26214, 65535] (by decide) (by decide)) (by rw [jcv]; first | done | rfl)
 exact eval_e _ _ _ 2 (by decide) 1 X (loc_len _ _ _ 1 X (by decide) ck)
theorem wakes_c : Called Tryz.prog 10 [] (.bool true) := by
 refine wakes_t (fun k => txq (wkQ k)) (lof_c (by omega) (by omega)) (lof_c (by omega) (by omega)) (lof_c (by omega) (by omega)) (lof_c (by omega) (by omega)) (lof_c (by omega) (by omega)) (lof_c (by omega) (by omega)) lfour_c wk_cell wk_steep
  (jfd (by decide +kernel) (by decide +kernel)) (jfd (by decide +kernel) (by decide +kernel)) wk_refine (wk_len _) (wk_ev (y := wkQ 2) (jdw 0) (jdw 1) (by decide +kernel)) (wk_ev (y := wkQ 3) (jdw 1) (jdw 0) (by decide +kernel)) (wk_ev (y := wkQ 4) (jdw 5) (jdw 4) (by decide +kernel))
theorem jhb : type_of% @jhD ∧ type_of% @List.getD_cons_succ.{0} ∧ type_of% @List.getD_cons_zero.{0} ∧ type_of% @jhC ∧ type_of% @tn0 ∧ type_of% @tn1 ∧ type_of% @tn2 ∧ type_of% @tn3 ∧ type_of% @xt4 := ⟨@jhD, @List.getD_cons_succ.{0}, @List.getD_cons_zero.{0}, @jhC, @tn0, @tn1, @tn2, @tn3, @xt4⟩
theorem loc_bad (zs data : List Int) (out : Int) (ck : Called Tryz.prog 37 [.agg [.ints .i64 zs, .int .i64 out, .ints .i64 data]] (.int .i64 100)) :
  Called Tryz.prog 44 [.agg [.ints .i64 zs, .int .i64 out, .ints .i64 data], .nil] (.tup [.agg [.nil, .int .i64 0, .nil, .nil, .nil, .nil], .int .i64 100]) := by
 refine jaa tbOk 6 ⟨Tryz.func44, rfl, rfl, jhy rfl⟩ ?_
 (conv => whnf)
 refine V.r1 jhb ck ?_
 exact Fin.of rfl
theorem cell_bad (zs data : List Int) (out : Int) (ck : Called Tryz.prog 37 [.agg [.ints .i64 zs, .int .i64 out, .ints .i64 data]] (.int .i64 100)) :
  Called Tryz.prog 17 [.agg [.ints .i64 zs, .int .i64 out, .ints .i64 data], .nil] (.tup [.nil, .nil, .nil, .int .i64 100]) := by
 have lo := loc_bad zs data out ck
 refine jaa tbOk 6 ⟨Tryz.func17, rfl, rfl, jhy rfl⟩ ?_
 (conv => whnf)
 refine V.r1 jhb lo ?_
 exact Fin.of rfl
theorem steep_bad (zs data : List Int) (out : Int) (ck : Called Tryz.prog 37 [.agg [.ints .i64 zs, .int .i64 out, .ints .i64 data]] (.int .i64 100)) :
  Called Tryz.prog 32 [.agg [.ints .i64 zs, .int .i64 out, .ints .i64 data]] (.tup [.nil, .int .i64 100]) := by
 refine jaa tbOk 6 ⟨Tryz.func32, rfl, rfl, jhy rfl⟩ ?_
 (conv => whnf)
 refine V.r1 jhb ck ?_
 exact Fin.of rfl
theorem bands_bad (zs data : List Int) (out : Int) (lo hi : List Int) (gr : Called Tryz.prog 25 [.agg [.ints .i64 zs, .int .i64 out, .ints .i64 data]] (.tup [.ints .i64 lo, .ints .i64 hi, .int .i64 100])) :
  Called Tryz.prog 29 [.agg [.ints .i64 zs, .int .i64 out, .ints .i64 data], .nil] (.tup [.nil, .int .i64 100]) := by
 refine jaa tbOk 6 ⟨Tryz.func29, rfl, rfl, jhy rfl⟩ ?_
 (conv => whnf)
 refine V.r1 jhb gr ?_
 exact Fin.of rfl
theorem bands_len (zs data : List Int) (out : Int) (lo hi : List Int) (n : Nat) (X : Nat → List D) (h : n ≠ zs.length) (gr : Called Tryz.prog 25 [.agg [.ints .i64 zs, .int .i64 out, .ints .i64 data]] (.tup [.ints .i64 lo, .ints .i64 hi, .int .i64 0])) :
  Called Tryz.prog 29 [.agg [.ints .i64 zs, .int .i64 out, .ints .i64 data], .slf 2 n X] (.tup [.nil, .int .i64 2]) := by
 refine jaa tbOk 6 ⟨Tryz.func29, rfl, rfl, jhy rfl⟩ ?_
 (conv => whnf)
 refine V.r1 jhb gr ?_
 refine Cnd.split (CondB.mk (fun _ => ?_) (fun h' => absurd h' (by simp; omega)))
 refine V.r0 jhb ?_
 exact Fin.of rfl
theorem bands_list (zs data : List Int) (out : Int) (lo hi : List Int) (X : Nat → Int × Int) (hl : zs.length = 2) (gr : Called Tryz.prog 25 [.agg [.ints .i64 zs, .int .i64 out, .ints .i64 data]] (.tup [.ints .i64 lo, .ints .i64 hi, .int .i64 0])) (li : Called Tryz.prog 55 [.int .i64 2, .fn 56 [] [.ref [.slf 2 2 (fun j => List.take 2 (List.drop (j * 2) [.int .i64 (X 0).1, .int .i64 (X 0).2, .int .i64 (X 1).1, .int .i64 (X 1).2]))]]] (.tup [.nil, .int .i64 30])) :
  Called Tryz.prog 29 [.agg [.ints .i64 zs, .int .i64 out, .ints .i64 data], .slf 2 2 (fun j => List.take 2 (List.drop (j * 2) [.int .i64 (X 0).1, .int .i64 (X 0).2, .int .i64 (X 1).1, .int .i64 (X 1).2]))] (.tup [.nil, .int .i64 30]) := by
 refine jaa tbOk 6 ⟨Tryz.func29, rfl, rfl, jhy rfl⟩ ?_
 (conv => whnf)
 refine V.r1 jhb gr ?_
 refine Cnd.split (CondB.mk (fun h => absurd h (by rw [hl]; decide)) (fun _ => ?_))
 refine V.r1 jhb li ?_
 exact Fin.of rfl
theorem list2_err {F e0 n0 : Nat} {f0 : Nat → List D} (b : Int × Int) (c0 : Called Tryz.prog F (.int .i64 0 :: [.ref [.slf e0 n0 f0]]) (.tup [.agg [.int .i64 b.1, .int .i64 b.2], .int .i64 0])) (c1 : Called Tryz.prog F (.int .i64 1 :: [.ref [.slf e0 n0 f0]]) (.tup [.agg [.int .i64 0, .int .i64 0], .int .i64 30])) :
  Called Tryz.prog 55 [.int .i64 2, .fn F [] [.ref [.slf e0 n0 f0]]] (.tup [.nil, .int .i64 30]) := by
 refine jaa tbOk 6 ⟨Tryz.func55, rfl, rfl, jhy rfl⟩ ?_
 (conv => whnf)
 refine V.r0 @jhC ?_
 refine jah (0) (fun k => k ≤ 1) (fun k => 1 - k) (fun k => [(14, .int .i64 k)]) (fun k => [(11, .box (match k with | 0 => [.int .i64 0, .int .i64 0, .int .i64 0, .int .i64 0] | _ => [.int .i64 b.1, .int .i64 b.2, .int .i64 0, .int .i64 0]))]) ?_ ?_ ?_
 ·exact V.wk
 ·exact jhz _
 intro k hk
 have hk4 : k = 0 ∨ k = 1 := by omega
 rcases hk4 with e | e
 all_goals subst e
 ·simp only [k0]
  refine V.r1 jhb c0 ?_
  exact ⟨1, by omega, by omega, V.wk⟩
 ·simp only [k1]
  refine V.r1 jhb c1 ?_
  exact Fin.of rfl
theorem bands1_err (X : Nat → Int × Int) (c : Called Tryz.prog 57 [.agg [.int .i64 (X 1).1, .int .i64 (X 1).2], .int .i64 0, .int .i64 1000000000000] (.tup [.agg [.int .i64 0, .int .i64 0], .int .i64 30])) :
  Called Tryz.prog 56 (.int .i64 1 :: [.ref [.slf 2 2 (fun j => List.take 2 (List.drop (j * 2) [.int .i64 (X 0).1, .int .i64 (X 0).2, .int .i64 (X 1).1, .int .i64 (X 1).2]))]]) (.tup [.agg [.int .i64 0, .int .i64 0], .int .i64 30]) := by
 refine jaa tbOk 6 ⟨Tryz.func56, rfl, rfl, jhy rfl⟩ ?_
 (conv => whnf)
 refine V.r1 jhb c ?_
 exact Fin.of rfl
theorem loc_frac (zs data : List Int) (out : Int) (a0 a1 b0 b1 : List UInt8) (hl : zs.length = 2) (ck : Called Tryz.prog 37 [.agg [.ints .i64 zs, .int .i64 out, .ints .i64 data]] (.int .i64 0)) (c0 : Called Tryz.prog 78 [.agg [.str a0, .str a1]] (.int .i64 0)) (c1 : Called Tryz.prog 78 [.agg [.str b0, .str b1]] (.int .i64 20)) :
  Called Tryz.prog 44 [.agg [.ints .i64 zs, .int .i64 out, .ints .i64 data], .slf 2 2 (fun j => List.take 2 (List.drop (j * 2) [.str a0, .str a1, .str b0, .str b1]))] (.tup [.agg [.nil, .int .i64 0, .nil, .nil, .nil, .nil], .int .i64 20]) := by
 refine jaa tbOk 6 ⟨Tryz.func44, rfl, rfl, jhy rfl⟩ ?_
 (conv => whnf)
 refine V.r1 jhb ck ?_
 refine Cnd.split (CondB.mk (fun h => absurd h (by rw [hl]; decide)) (fun _ => ?_))
 refine V.r0 jhb ?_
 refine jah (0) (fun k => k ≤ 1) (fun k => 1 - k) (fun k => [(25, .int .i64 k)]) (fun k => []) ?_ ?_ ?_
 ·exact V.wk
 ·exact jhz _
 intro k hk
 have hk4 : k = 0 ∨ k = 1 := by omega
 rcases hk4 with e | e
 all_goals subst e
 ·simp only [k0]
  refine V.r1 jhb c0 ?_
  exact ⟨1, by omega, by omega, V.wk⟩
 ·simp only [k1]
  refine V.r1 jhb c1 ?_
  exact Fin.of rfl
theorem refine_bad (zs data : List Int) (out : Int) (ck : Called Tryz.prog 37 [.agg [.ints .i64 zs, .int .i64 out, .ints .i64 data]] (.int .i64 100)) :
  Called Tryz.prog 33 [.agg [.ints .i64 zs, .int .i64 out, .ints .i64 data], .nil] (.tup [.agg [.nil, .int .i64 0, .nil], .int .i64 100]) := by
 refine jaa tbOk 6 ⟨Tryz.func33, rfl, rfl, jhy rfl⟩ ?_
 (conv => whnf)
 refine V.r1 jhb ck ?_
 exact Fin.of rfl
theorem jfV (zs data : List Int) (out : Int) (hl : zs.length = 2) (ck : Called Tryz.prog 37 [.agg [.ints .i64 zs, .int .i64 out, .ints .i64 data]] (.int .i64 0)) :
  Called Tryz.prog 33 [.agg [.ints .i64 zs, .int .i64 out, .ints .i64 data], .ints .i64 [1, 2]] (.tup [.agg [.nil, .int .i64 0, .nil], .int .i64 2]) := by
 refine jaa tbOk 6 ⟨Tryz.func33, rfl, rfl, jhy rfl⟩ ?_
 (conv => whnf)
 refine V.r1 jhb ck ?_
 refine Cnd.split (CondB.mk (fun h => absurd h (by rw [hl]; decide)) (fun _ => ?_))
 refine V.r0 jhb ?_
 refine jah (0) (fun k => k = 0) (fun k => 0 - k) (fun k => [(38, .int .i64 k), (7, .int .i64 out)]) (fun k => []) ?_ ?_ ?_
 ·exact V.wk
 ·rfl
 intro k hk
 subst hk
 simp only [k0]
 refine V.r0 jhb ?_
 exact Fin.of rfl
theorem jfU (zs data : List Int) (out : Int) (hl : zs.length = 2) (ho : 1 ≤ out ∧ out ≤ 4) (ck : Called Tryz.prog 37 [.agg [.ints .i64 zs, .int .i64 out, .ints .i64 data]] (.int .i64 0)) :
  Called Tryz.prog 33 [.agg [.ints .i64 zs, .int .i64 out, .ints .i64 data], .ints .i64 [2, 10]] (.tup [.agg [.nil, .int .i64 0, .nil], .int .i64 2]) := by
 refine jaa tbOk 6 ⟨Tryz.func33, rfl, rfl, jhy rfl⟩ ?_
 (conv => whnf)
 refine V.r1 jhb ck ?_
 refine Cnd.split (CondB.mk (fun h => absurd h (by rw [hl]; decide)) (fun _ => ?_))
 refine V.r0 jhb ?_
 refine jah (0) (fun k => k ≤ 1) (fun k => 1 - k) (fun k => [(38, .int .i64 k), (7, .int .i64 (match k with | 0 => out | _ => out * 2))]) (fun k => []) ?_ ?_ ?_
 ·exact V.wk
 ·exact jhz _
 intro k hk
 have hk4 : k = 0 ∨ k = 1 := by omega
 rcases hk4 with e | e
 all_goals subst e
 ·simp only [k0]
  refine V.r0 jhb ?_
  exact ⟨1, by omega, by omega, V.wk⟩
 ·simp only [k1]
  refine V.r0 jhb ?_
  exact Fin.of rfl
theorem jgw (zs data : List Int) (out : Int) (hl : zs.length = 4) (ho : out = 1) (ck : Called Tryz.prog 37 [.agg [.ints .i64 zs, .int .i64 out, .ints .i64 data]] (.int .i64 0)) :
  Called Tryz.prog 33 [.agg [.ints .i64 zs, .int .i64 out, .ints .i64 data], .ints .i64 [9, 9, 9, 9]] (.tup [.agg [.nil, .int .i64 0, .nil], .int .i64 3]) := by
 subst ho
 refine jaa tbOk 6 ⟨Tryz.func33, rfl, rfl, jhy rfl⟩ ?_
 (conv => whnf)
 refine V.r1 jhb ck ?_
 refine Cnd.split (CondB.mk (fun h => absurd h (by rw [hl]; decide)) (fun _ => ?_))
 refine V.r0 jhb ?_
 refine jah (0) (fun k => k ≤ 4) (fun k => 4 - k) (fun k => [(38, .int .i64 k), (7, .int .i64 (match k with | 0 => 1 | 1 => 9 | 2 => 81 | 3 => 729 | _ => 6561))]) (fun k => []) ?_ ?_ ?_
 ·exact V.wk
 ·exact jhz _
 intro k hk
 have hk4 : k = 0 ∨ k = 1 ∨ k = 2 ∨ k = 3 ∨ k = 4 := by omega
 rcases hk4 with e | e | e | e | e
 all_goals subst e
 ·simp only [k0]
  refine V.r0 jhb ?_
  exact ⟨1, by omega, by omega, V.wk⟩
 ·simp only [k1]
  refine V.r0 jhb ?_
  exact ⟨2, by omega, by omega, V.wk⟩
 ·simp only [k2]
  refine V.r0 jhb ?_
  exact ⟨3, by omega, by omega, V.wk⟩
 ·simp only [k3]
  refine V.r0 jhb ?_
  exact ⟨4, by omega, by omega, V.wk⟩
 ·simp only [xk4]
  refine V.r0 jhb ?_
  exact Fin.of rfl
end Go.Proofs.YtgjgpdceghjajaaGreatDoor
end
