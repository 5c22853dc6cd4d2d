/- What functions of the program answer at given values, part 18. Conditions: those that each theorem names. -/
import Derived.Test.YtgjgpdceghjajaaGreatDoorSimplexRefinedH17
import Derived.Test.YtgjgpdceghjajaaGreatDoorSimplexRefinedH16
import Derived.Test.YtgjgpdceghjajaaGreatDoorSimplexRefinedH15
import Derived.Test.YtgjgpdceghjajaaGreatDoorSimplexRefinedH13
set_option linter.unusedSimpArgs false
set_option linter.unusedVariables false
set_option maxHeartbeats 8000000
set_option maxRecDepth 100000
section
namespace Go.Proofs.YtgjgpdceghjajaaGreatDoor
open Go Go.V Go.Nb
theorem jfw (k : Nat) : ∀ (l a b : Nat), b < 10 ^ l → pad k a ++ pad l b = pad (k + l) (a * 10 ^ l + b)
 | 0, a, b, h => by
  obtain rfl : b = 0 := by simp at h; omega
  simp [pad]
 | l + 1, a, b, h => by
  have hb : b / 10 < 10 ^ l := Nat.div_lt_of_lt_mul (by rw [Nat.pow_succ, jil] at h; exact h)
  have e : a * 10 ^ (l + 1) + b = (a * 10 ^ l) * 10 + b := by rw [Nat.pow_succ, Nat.mul_assoc]
  have e1 : (a * 10 ^ (l + 1) + b) / 10 = a * 10 ^ l + b / 10 := by omega
  have e2 : (a * 10 ^ (l + 1) + b) % 10 = b % 10 := by omega
  rw [show k + (l + 1) = (k + l) + 1 by omega, pad, pad, e1, e2, ← jfw k l a _ hb, jiR]
theorem dec_head (n : Nat) (h : 0 < n) : (dec n).getD 0 0 ≠ 48 := by
 induction n using Nat.strongRecOn with
 | _ n ih =>
  by_cases h1 : n < 10
  ·rw [jbv h1]
   intro e
   have := congrArg UInt8.toNat e
   simp only [List.getD_cons_zero] at this
   rw [jcI h1] at this
   simp at this
   omega
  ·rw [jcr (by omega), jiJ, jiS (ja4 _), ← jiJ]
   exact ih _ (by omega) (by omega)
theorem four_c (n : Nat) (h : n < 10000) : Called Tryz.prog 140 [.int .i64 n] (.str (pad 4 n)) := by
 refine V.en tbOk Tryz.func140 ?_
 (conv => whnf)
 refine V.st ?_
 exact Fin.of (by
  have e : ∀ m : Nat, (48 + (m : Int)).toNat = 48 + m := fun m => by omega
  simp only [pad, List.nil_append, jiR, List.cons_append, List.map_cons, List.map_nil]
  have e1 : (48 + (n : Int) / 1000).toNat = 48 + n / 10 / 10 / 10 % 10 := by omega
  have e2 : (48 + (n : Int) / 100 % 10).toNat = 48 + n / 10 / 10 % 10 := by omega
  have e3 : (48 + (n : Int) / 10 % 10).toNat = 48 + n / 10 % 10 := by omega
  have e4 : (48 + (n : Int) % 10).toNat = 48 + n % 10 := by omega
  rw [e1, e2, e3, e4])
theorem text_c (z : Int) (hz : Sm 90000000 z) : Called Tryz.prog 106 [plD z] (.str (decZ z)) := by
 unfold Sm at hz
 have hdx := mg_dg (B := 10000) (by omega) z.natAbs
 have hvx := jaC (B := 10000) (by omega) z.natAbs
 have hnil := jb8 (B := 10000) (n := z.natAbs) (by omega)
 have hltp := jaH (B := 10000) (n := z.natAbs) (by omega)
 rw [show plD z = .agg [.bool (decide (z < 0)), .ints .i64 (mg 10000 z.natAbs)] from rfl]
 generalize mg 10000 z.natAbs = xs at *
 refine V.en tbOk Tryz.func106 ?_
 (conv => whnf)
 refine V.st ?_
 refine jac ((xs.length, 0) : Nat × Nat) (fun s => s.1 ≤ xs.length ∧ val 10000 (xs.drop s.1) = s.2) (fun s => s.1)
  (fun s => [(4, .int .i64 ((s.1 : Int) - 1)), (3, .str (pad (4 * (xs.length - s.1)) s.2))]) (fun _ => []) ?_ ?_ ?_
 ·rw [Nat.sub_self]
  exact V.wk
 ·exact ⟨jii _, by simp [val]⟩
 rintro ⟨k, v⟩ ⟨h1, h2⟩
 dsimp only at h1 h2 ⊢
 have hpl := jdM (4 * (xs.length - k)) v
 (conv => whnf)
 refine V.st ?_
 refine V.br (fun hq => ?_) (fun hq => ?_)
 ·rw [decide_eq_true_eq] at hq
  obtain ⟨j, rfl⟩ : ∃ j, k = j + 1 := ⟨k - 1, by omega⟩
  have hj : j < xs.length := by omega
  have bx := jam (by omega) hdx j
  have hd := jbM (B := 10000) hj
  generalize hx0 : xs.getD j 0 = x at *
  obtain ⟨d, rfl⟩ : ∃ d : Nat, x = d := ⟨x.toNat, by omega⟩
  have e2 : (((j + 1 : Nat) : Int) - 1) = (j : Int) := by omega
  have hf := four_c d (by omega)
  have hp4 := jdM 4 d
  have hpa := jfw (4 * (xs.length - (j + 1))) 4 v d (by omega)
  have e4 : 4 * (xs.length - (j + 1)) + 4 = 4 * (xs.length - j) := by omega
  rw [e4] at hpa
  refine V.r1 (V.a4 e2 @jih hx0 hpa) hf ?_
  exact ⟨(j, v * 10 ^ 4 + d), ⟨by dsimp only; omega, by dsimp only; rw [hd, h2]; omega⟩, by dsimp only; omega, V.wk⟩
 ·rw [decide_eq_false_iff_not] at hq
  obtain rfl : k = 0 := by omega
  rw [ji3, hvx] at h2
  have hv : v = z.natAbs := by omega
  subst hv
  have hK : z.natAbs < 10 ^ (4 * xs.length) := by rw [Nat.pow_mul]; exact hltp
  rw [Nat.sub_zero] at *
  generalize hs : pad (4 * xs.length) z.natAbs = t at *
  obtain ⟨Z, hZ, hZ1, hZ2⟩ : ∃ Z, Z ≤ t.length ∧ t.drop Z = (if z.natAbs = 0 then [] else dec z.natAbs) ∧ ∀ k, k ≤ Z → (k < t.length ∧ t.getD k 0 = 48 ↔ k < Z) := by
   by_cases h0 : z.natAbs = 0
   ·have := hnil.2 h0
    subst this
    rw [if_pos h0]
    have ht : t = [] := jiK.1 (by simpa using hpl)
    subst ht
    exact ⟨0, by simp, rfl, fun k hk => by simp⟩
   ·rw [if_neg h0]
    have hne : 0 < xs.length := by
     rcases jij xs.length with e | e
     ·exact absurd (hnil.1 (jiK.1 e)) h0
     ·exact e
    obtain ⟨p1, p2⟩ := jbn (4 * xs.length) z.natAbs (by omega) hK
    rw [hs] at p2
    have hdl := ja4 z.natAbs
    refine ⟨4 * xs.length - (dec z.natAbs).length, by omega, ?_, fun k hk => ?_⟩
    ·rw [p2, jiX (by simp), ji0 (by simp)]; rfl
    ·rw [p2]
     rcases jip k (4 * xs.length - (dec z.natAbs).length) with hlt | hge
     ·rw [jiJ, jiS (by simpa using hlt), List.getElem?_replicate, if_pos hlt]
      simp [hlt]; omega
     ·have hke : k = 4 * xs.length - (dec z.natAbs).length := by omega
      rw [jiJ, List.getElem?_append_right (by simp; omega), List.length_replicate, hke, Nat.sub_self, ← jiJ]
      have := dec_head z.natAbs (by omega)
      simp only [Nat.lt_irrefl, iff_false, not_and]
      exact fun _ => this
  refine V.r0 @jih ?_
  refine jac (0) (fun k => k ≤ Z) (fun k => Z - k) (fun k => [(5, .int .i64 k)]) (fun k => []) ?_ ?_ ?_
  ·exact V.wk
  ·exact jib _
  intro k hk
  have hz2 := hZ2 k hk
  have hkc : ((k : Int) + 1) = ((k + 1 : Nat) : Int) := by omega
  have hu : (((t.getD k 0).toNat : Int) = 48) ↔ t.getD k 0 = 48 := ⟨fun h => UInt8.toNat_inj.1 (by have e : (48 : UInt8).toNat = 48 := rfl; rw [e]; omega), fun h => by rw [h]; rfl⟩
  refine V.r0 @jih ?_
  refine V.br (fun hq2 => ?_) (fun hq2 => ?_)
  ·rw [jh9, decide_eq_true_eq, decide_eq_true_eq, hu] at hq2
   have hkZ := hz2.1 ⟨by omega, hq2.2⟩
   refine V.r0 hkc ?_
   exact ⟨k + 1, by omega, by omega, V.wk⟩
  ·have hkZ : k = Z := by
    rcases jip k Z with h | h
    ·have h3 := hz2.2 h
     rw [Bool.and_eq_false_iff, decide_eq_false_iff_not, decide_eq_false_iff_not, hu] at hq2
     rcases hq2 with h4 | h4
     ·omega
     ·exact absurd h3.2 h4
    ·omega
   subst hkZ
   refine V.r0 (V.a2 @jih hZ1) ?_
   by_cases h0 : z.natAbs = 0
   ·rw [if_pos h0] at hZ1 ⊢
    have hz0 : z = 0 := by omega
    (conv => whnf)
    refine V.st ?_
    exact Fin.of (by rw [hz0]; rfl)
   ·rw [if_neg h0] at hZ1 ⊢
    have hne := ja4 z.natAbs
    have hne2 : dec z.natAbs ≠ [] := fun e => by rw [e] at hne; simp at hne
    have hdl : (dec z.natAbs).length ≤ t.length := by rw [← hZ1, ji7]; omega
    (conv => whnf)
    refine V.st ?_
    refine Cnd.no (decide_eq_false hne2) ?_
    (conv => whnf)
    refine V.st ?_
    refine V.br (fun hneg => ?_) (fun hneg => ?_)
    ·rw [decide_eq_true_eq] at hneg
     (conv => whnf)
     refine V.st ?_
     exact Fin.of (by unfold decZ; rw [if_pos hneg]; rfl)
    ·rw [decide_eq_false_iff_not] at hneg
     (conv => whnf)
     refine V.st ?_
     exact Fin.of (by unfold decZ; rw [if_neg hneg])
theorem out_c (z : Int) (hz : Sm 90000000 z) : Called Tryz.prog 120 [plD z] (.tup [.str (if 600 < (dec z.natAbs).length then [] else decZ z), .int .i64 (if 600 < (dec z.natAbs).length then 6 else 0)]) := by
 have ht := text_c z hz
 rw [show plD z = .agg [.bool (decide (z < 0)), .ints .i64 (mg 10000 z.natAbs)] from rfl] at *
 have hl : (decZ z).length = (dec z.natAbs).length + (if z < 0 then 1 else 0) := by unfold decZ; split <;> simp
 generalize hzs : decZ z = s at *
 refine V.en tbOk Tryz.func120 ?_
 (conv => whnf)
 refine V.st ?_
 repeat ((try ((with_reducible refine .ext ?_); (conv => whnf))); (with_reducible refine jaa (r := ?_) ?_ ?_); rotate_left; (focus (first | exact (ht))); (conv => whnf); refine V.st ?_)
 refine V.br (fun hq => ?_) (fun hq => ?_)
 ·rw [decide_eq_true_eq] at hq
  rw [if_pos hq] at hl
  (conv => whnf)
  refine V.st ?_
  refine V.br (fun hq2 => ?_) (fun hq2 => ?_)
  ·rw [decide_eq_true_eq] at hq2
   rw [if_pos (by omega), if_pos (by omega)]
   (conv => whnf)
   refine V.st ?_
   exact Fin.of rfl
  ·rw [decide_eq_false_iff_not] at hq2
   rw [if_neg (by omega), if_neg (by omega)]
   (conv => whnf)
   refine V.st ?_
   exact Fin.of rfl
 ·rw [decide_eq_false_iff_not] at hq
  rw [if_neg hq] at hl
  (conv => whnf)
  refine V.st ?_
  refine V.br (fun hq2 => ?_) (fun hq2 => ?_)
  ·rw [decide_eq_true_eq] at hq2
   rw [if_pos (by omega), if_pos (by omega)]
   (conv => whnf)
   refine V.st ?_
   exact Fin.of rfl
  ·rw [decide_eq_false_iff_not] at hq2
   rw [if_neg (by omega), if_neg (by omega)]
   (conv => whnf)
   refine V.st ?_
   exact Fin.of rfl
def okD (d : List UInt8) (neg : Bool) : Bool := !(decide (d.length = 0) || decide (600 < d.length)) && d.all isDig && !(decide (d.getD 0 0 = 48) && (neg || decide (1 < d.length)))
def okW (s : List UInt8) : Bool := okD (Go.Lib.trimPrefix s [45]) (Go.Lib.hasPrefix s [45])
theorem dig_lo (c : UInt8) : (isDig c = true) ↔ ¬ (c.toNat : Int) < 48 ∧ ¬ (57 < (c.toNat : Int)) := by
 simp only [isDig, decide_eq_true_eq]; omega
theorem Fin.any' (r : D) : Fin .any r := ⟨fun _ _ _ => by simp [Den]⟩
theorem wread_g (s : List UInt8) (hs : s.length ≤ 281474976710656) : Called Tryz.prog 175 [.str s] (.tup [.agg [.any, .any], .bool (okW s)]) := by
 have hcp := je9 s [45]
 unfold okW
 have hdl : (Go.Lib.trimPrefix s [45]).length ≤ s.length := by unfold Go.Lib.trimPrefix; split <;> simp
 generalize Go.Lib.trimPrefix s [45] = d at *
 generalize Go.Lib.hasPrefix s [45] = neg at *
 refine V.en tbOk Tryz.func175 ?_
 (conv => whnf)
 refine V.st ?_
 repeat ((try ((with_reducible refine .ext ?_); (conv => whnf))); (with_reducible refine jaa (r := ?_) ?_ ?_); rotate_left; (focus (first | exact (hcp))); (conv => whnf); refine V.st ?_)
 refine V.br (fun hq => ?_) (fun hq => ?_)
 ·simp only [Bool.or_eq_true, decide_eq_true_eq] at hq
  have hf : okD d neg = false := by
   unfold okD
   rcases hq with h | h
   ·rw [decide_eq_true (show d.length = 0 by omega)]; rfl
   ·rw [decide_eq_true (show 600 < d.length by omega), Bool.or_true]; rfl
  rw [hf]
  (conv => whnf)
  refine V.st ?_
  exact Fin.tup ⟨Fin.agg ⟨Fin.any' _, Fin.any' _, trivial⟩, Fin.of rfl, trivial⟩
 ·simp only [jir, decide_eq_false_iff_not] at hq
  (conv => whnf)
  refine V.st ?_
  refine jac (0 : Nat) (fun k => k ≤ d.length ∧ ∀ i, i < k → isDig (d.getD i 0) = true) (fun k => d.length - k) (fun k => [(23, .int .i64 k)]) (fun _ => []) ?_ ?_ ?_
  ·exact V.wk
  ·exact ⟨jib _, fun i hi => by omega⟩
  intro k hk
  have hkc : ((k : Int) + 1) = ((k + 1 : Nat) : Int) := by omega
  (conv => whnf)
  refine V.st ?_
  refine V.br (fun hq2 => ?_) (fun hq2 => ?_)
  ·rw [decide_eq_true_eq] at hq2
   have hdl := dig_lo (d.getD k 0)
   generalize hc : d.getD k 0 = c at *
   refine V.r0 (V.a3 @jih hc hkc) ?_
   refine V.br (fun hq3 => ?_) (fun hq3 => ?_)
   ·rw [Bool.or_eq_true, decide_eq_true_eq, decide_eq_true_eq] at hq3
    have hf : okD d neg = false := by
     have h1 : d.all isDig = false := by
      rw [List.all_eq_false]
      refine ⟨c, ?_, fun h => by have := hdl.1 h; omega⟩
      rw [← hc, jiJ, jiM (by omega)]
      exact jiN _
     unfold okD
     rw [h1, Bool.and_false, Bool.false_and]
    rw [hf]
    (conv => whnf)
    refine V.st ?_
    exact Fin.tup ⟨Fin.agg ⟨Fin.any' _, Fin.any' _, trivial⟩, Fin.of rfl, trivial⟩
   ·rw [jir, decide_eq_false_iff_not, decide_eq_false_iff_not] at hq3
    refine V.r0 hkc ?_
    refine ⟨k + 1, ⟨by omega, fun i hi => ?_⟩, by omega, V.wk⟩
    rcases jip i k with h | h
    ·exact hk.2 i h
    ·obtain rfl : i = k := by omega
     rw [hc]; exact hdl.2 (by omega)
  ·rw [decide_eq_false_iff_not] at hq2
   obtain rfl : k = d.length := by omega
   have hall : ∀ c ∈ d, isDig c = true := fun c hc => by
    obtain ⟨i, hi, e⟩ := List.getElem_of_mem hc
    have := hk.2 i hi
    rw [jiJ, jiM hi] at this
    rw [← e]; exact this
   have hok : okD d neg = !(decide (d.getD 0 0 = 48) && (neg || decide (1 < d.length))) := by
    unfold okD
    rw [jiI.2 hall, decide_eq_false (show ¬ d.length = 0 by omega), decide_eq_false (show ¬ 600 < d.length by omega)]
    rfl
   have hu : decide ((((d.getD 0 0).toNat : Nat) : Int) = 48) = decide (d.getD 0 0 = 48) := decide_eq_decide.2 ⟨fun h => UInt8.toNat_inj.1 (by have e : (48 : UInt8).toNat = 48 := rfl; rw [e]; omega), fun h => by rw [h]; rfl⟩
   have hl : decide ((d.length : Int) > 1) = decide (1 < d.length) := decide_eq_decide.2 (by omega)
   have hg := wgather_c d hall (by omega)
   rw [hok]
   have e0 : (0 : Int).toNat = 0 := rfl
   refine V.r0 (V.a3 e0 hu hl) ?_
   refine And.intro (fun h1 h2 => by rw [h1, h2]; rfl) ?_
   refine V.r0 (V.a3 e0 hu hl) ?_
   refine V.br (fun hq4 => ?_) (fun hq4 => ?_)
   ·rw [hq4]
    (conv => whnf)
    refine V.st ?_
    exact Fin.tup ⟨Fin.agg ⟨Fin.any' _, Fin.any' _, trivial⟩, Fin.of rfl, trivial⟩
   ·rw [hq4]
    (conv => whnf)
    refine V.st ?_
    repeat ((try ((with_reducible refine .ext ?_); (conv => whnf))); (with_reducible refine jaa (r := ?_) ?_ ?_); rotate_left; (focus (first | exact (hg))); (conv => whnf); refine V.st ?_)
    exact Fin.tup ⟨Fin.agg ⟨Fin.any' _, Fin.any' _, trivial⟩, Fin.of rfl, trivial⟩
theorem jcb (s : List UInt8) (hs : s.length ≤ 281474976710656) : Called Tryz.prog 144 [.str s] (.int .i64 (if okW s then 0 else 10)) := by
 have h1 := wread_g s hs
 generalize okW s = b at *
 refine V.en tbOk Tryz.func144 ?_
 (conv => whnf)
 refine V.st ?_
 repeat ((try ((with_reducible refine .ext ?_); (conv => whnf))); (with_reducible refine jaa (r := ?_) ?_ ?_); rotate_left; (focus (first | exact (h1))); (conv => whnf); refine V.st ?_)
 refine V.br (fun hq => ?_) (fun hq => ?_)
 ·obtain rfl : b = false := by simpa using hq
  (conv => whnf)
  refine V.st ?_
  exact Fin.of rfl
 ·obtain rfl : b = true := by simpa using hq
  (conv => whnf)
  refine V.st ?_
  exact Fin.of rfl
def itD (z : Int) : D := .agg [.ints .u32 (mg 1000000000 z.natAbs), .bool (decide (z < 0))]
def wval (s : List UInt8) : Int := if Go.Lib.hasPrefix s [45] then -(rdv (Go.Lib.trimPrefix s [45]) : Nat) else (rdv (Go.Lib.trimPrefix s [45]) : Nat)
theorem okD_nz {d : List UInt8} (h : okD d true = true) : 0 < rdv d := by
 unfold okD at h
 simp only [jh9, Bool.not_eq_true', jir, decide_eq_false_iff_not, Bool.true_or, Bool.and_true, jiI] at h
 obtain ⟨⟨⟨h1, _⟩, h2⟩, h3⟩ := h
 cases d with
 | nil => simp at h1
 | cons c r =>
  have h4 := h2 c (by simp)
  simp only [isDig, decide_eq_true_eq] at h4
  rw [List.getD_cons_zero] at h3
  have h5 : c.toNat ≠ 48 := fun e => h3 (UInt8.toNat_inj.1 e)
  have h6 := jbb [c] r
  rw [jdK] at h6
  rw [show c :: r = [c] ++ r from rfl, h6]
  have : 0 < (c.toNat - 48) * 10 ^ r.length := Nat.mul_pos (by omega) (Nat.pow_pos (by omega))
  omega
theorem jcM (s : List UInt8) (h : okW s = true) : Called Tryz.prog 145 [.str s] (itD (wval s)) := by
 have hcp := je9 s [45]
 unfold wval itD
 unfold okW at h
 have hl : (Go.Lib.trimPrefix s [45]).length ≤ 600 ∧ ∀ c ∈ Go.Lib.trimPrefix s [45], isDig c = true := by
  unfold okD at h
  simp only [jh9, Bool.not_eq_true', jir, decide_eq_false_iff_not, jiI] at h
  exact ⟨by omega, h.1.2⟩
 have hg := gather_c _ hl.2 (by omega)
 generalize Go.Lib.trimPrefix s [45] = d at *
 have e : (if Go.Lib.hasPrefix s [45] = true then -((rdv d : Nat) : Int) else ((rdv d : Nat) : Int)).natAbs = rdv d ∧ decide ((if Go.Lib.hasPrefix s [45] = true then -((rdv d : Nat) : Int) else ((rdv d : Nat) : Int)) < 0) = Go.Lib.hasPrefix s [45] := by
  cases hn : Go.Lib.hasPrefix s [45] with
  | true =>
   rw [hn] at h
   have := okD_nz h
   exact ⟨by simp, by simp; omega⟩
  | false => exact ⟨by simp, by simp⟩
 rw [e.1, e.2]
 generalize Go.Lib.hasPrefix s [45] = neg at *
 refine V.en tbOk Tryz.func145 ?_
 (conv => whnf)
 refine V.st ?_
 repeat ((try ((with_reducible refine .ext ?_); (conv => whnf))); (with_reducible refine jaa (r := ?_) ?_ ?_); rotate_left; (focus (first | exact (hcp) | exact (hg))); (conv => whnf); refine V.st ?_)
 exact Fin.of rfl
theorem jdC (z : Int) : Go.Lib.hasPrefix (decZ z) [45] = decide (z < 0) ∧ Go.Lib.trimPrefix (decZ z) [45] = dec z.natAbs := by
 unfold decZ Go.Lib.trimPrefix Go.Lib.hasPrefix
 by_cases h : z < 0
 ·simp [h, List.isPrefixOf]
 ·simp only [if_neg h, decide_eq_false h]
  have h1 := jgk z.natAbs
  have h2 := ja4 z.natAbs
  cases hd : dec z.natAbs with
  | nil => rw [hd] at h2; simp at h2
  | cons c r =>
   have h3 := h1 c (by rw [hd]; simp)
   have h4 : ((45 : UInt8) == c) = false := by
    rw [beq_eq_false_iff_ne]; intro e; subst e; exact absurd h3 (by decide)
   simp [List.isPrefixOf, h4]
theorem jcj (z : Int) (h : (dec z.natAbs).length ≤ 600) : okW (decZ z) = true := by
 unfold okW okD
 rw [(jdC z).1, (jdC z).2]
 have h2 := ja4 z.natAbs
 have h3 : (dec z.natAbs).all isDig = true := jiI.2 (jgk _)
 rw [h3, decide_eq_false (show ¬ (dec z.natAbs).length = 0 by omega), decide_eq_false (show ¬ 600 < (dec z.natAbs).length by omega)]
 by_cases h0 : z.natAbs = 0
 ·have : z = 0 := by omega
  subst this
  rfl
 ·have := dec_head z.natAbs (by omega)
  rw [decide_eq_false this]; rfl
theorem jbt (z : Int) : wval (decZ z) = z := by
 unfold wval
 rw [(jdC z).1, (jdC z).2, rdv_dec]
 by_cases h : z < 0
 ·simp [h]; omega
 ·simp [h]; omega
theorem jc9 (n : Nat) : Called Tryz.prog 132 [.ints .u32 (mg 1000000000 n)] (.bool (decide (n = 0))) := by
 have hnil := jb8 (B := 1000000000) (n := n) (by omega)
 rw [← jiK] at hnil
 have e : decide (((mg 1000000000 n).length : Int) = 0) = decide (n = 0) := decide_eq_decide.2 (by rw [← hnil]; omega)
 refine V.en tbOk Tryz.func132 ?_
 (conv => whnf)
 refine V.st ?_
 exact Fin.of (by rw [e])
theorem jaW (n : Nat) (neg : Bool) : Called Tryz.prog 153 [.ints .u32 (mg 1000000000 n), .bool neg] (itD (if neg then -(n : Int) else n)) := by
 have h1 := jc9 n
 have e : (if neg = true then -(n : Int) else (n : Int)).natAbs = n := by cases neg <;> simp
 have e2 : decide ((if neg = true then -(n : Int) else (n : Int)) < 0) = (neg && !decide (n = 0)) := by
  cases neg with
  | false => simp
  | true =>
   by_cases h : n = 0
   ·simp [h]
   ·rw [decide_eq_false h, if_pos rfl, decide_eq_true (by omega)]; rfl
 unfold itD
 rw [e, e2]
 generalize decide (n = 0) = z at *
 refine V.en tbOk Tryz.func153 ?_
 (conv => whnf)
 refine V.st ?_
 repeat ((try ((with_reducible refine .ext ?_); (conv => whnf))); (with_reducible refine jaa (r := ?_) ?_ ?_); rotate_left; (focus (first | exact (h1))); (conv => whnf); refine V.st ?_)
 exact Fin.of rfl
theorem small_c (n : Nat) (h : n < 1000000000000000000) : Called Tryz.prog 178 [.ints .u32 (mg 1000000000 n)] (.int .u64 n) := by
 have hlen := jav (B := 1000000000) (n := n) (k := 2) (by omega) (by omega)
 have hdx := mg_dg (B := 1000000000) (by omega) n
 have hvx := jaC (B := 1000000000) (by omega) n
 generalize mg 1000000000 n = xs at *
 refine V.en tbOk Tryz.func178 ?_
 (conv => whnf)
 refine V.st ?_
 refine jac (xs.length : Nat) (fun k => k ≤ xs.length) (fun k => k) (fun k => [(4, .int .i64 ((k : Int) - 1)), (3, .int .u64 (val 1000000000 (xs.drop k)))]) (fun _ => []) ?_ ?_ ?_
 ·rw [List.drop_length]
  exact V.wk
 ·exact jii _
 intro k hk
 (conv => whnf)
 refine V.st ?_
 refine V.br (fun hq => ?_) (fun hq => ?_)
 ·rw [decide_eq_true_eq] at hq
  obtain ⟨j, rfl⟩ : ∃ j, k = j + 1 := ⟨k - 1, by omega⟩
  have hd := jbM (B := 1000000000) (l := xs) (k := j) (by omega)
  have bx := jam (by omega) hdx j
  have h0 := jan (jbq hdx (j + 1))
  have h1 := jb2 (jbq hdx (j + 1))
  rw [ji7] at h1
  have h2 : (1000000000 : Nat) ^ (xs.length - (j + 1)) ≤ 1000000000 ^ 1 := jiy (by omega) (by omega)
  have h3 : ((1000000000 ^ (xs.length - (j + 1)) : Nat) : Int) ≤ ((1000000000 ^ 1 : Nat) : Int) := by exact_mod_cast h2
  rw [jiC] at h3
  have e2 : (((j + 1 : Nat) : Int) - 1) = (j : Int) := by omega
  generalize hx0 : xs.getD j 0 = x at *
  have e3 : val 1000000000 (xs.drop (j + 1)) * 1000000000 + x = val 1000000000 (xs.drop j) := by omega
  refine V.r0 (V.a4 e2 @jih hx0 e3) ?_
  exact ⟨j, by omega, by omega, V.wk⟩
 ·rw [decide_eq_false_iff_not] at hq
  obtain rfl : k = 0 := by omega
  rw [ji3, hvx]
  (conv => whnf)
  refine V.st ?_
  exact Fin.of rfl
theorem jc6 (n : Nat) (hn : n < 18446744073709551616) : Called Tryz.prog 114 [.int .u64 n] (.ints .u32 (mg 1000000000 n)) := by
 have hlen := jav (B := 1000000000) (n := n) (k := 3) (by omega) (by omega)
 refine V.en tbOk Tryz.func114 ?_
 (conv => whnf)
 refine V.st ?_
 refine Lp.ghostSlot 13 3 .u32 (by decide) ?_
 (conv => whnf)
 refine jac ((n, []) : Nat × List Int) (fun s => val 1000000000 s.2 + ((1000000000 : Nat) : Int) ^ s.2.length * s.1 = n ∧ Dg 1000000000 s.2 ∧ s.1 ≤ n ∧ s.2.length + (mg 1000000000 s.1).length = (mg 1000000000 n).length ∧ (s.1 = 0 → s.2 = mg 1000000000 n)) (fun s => s.1) (fun s => [(0, .int .u64 s.1), (3, .osl 13 0 s.2.length)]) (fun s => [(13, .arr .u32 s.2)]) ?_ ?_ ?_
 ·exact V.wk
 ·exact ⟨by simp [val], fun x hx => by simp at hx, jii _, by simp, fun h => by dsimp only at h; rw [h]; rfl⟩
 rintro ⟨q, out⟩ ⟨h1, h2, h3, h4, h5⟩
 dsimp only at h1 h2 h3 h4 h5 ⊢
 (conv => whnf)
 refine V.st ?_
 refine V.br (fun hq => ?_) (fun hq => ?_)
 ·rw [decide_eq_true_eq] at hq
  have hq0 : 0 < q := by omega
  have hmg := jb7 (B := 1000000000) (by omega) hq0
  have hst := jep (B := 1000000000) (by omega) h1
  have hlt : q / 1000000000 < q := Nat.div_lt_self hq0 (by omega)
  have hdg : Dg 1000000000 (out ++ [((q % 1000000000 : Nat) : Int)]) := jah h2 (jau ⟨by omega, by have := jik q (by omega : 1000000000 > 0); omega⟩)
  have e1 : (q : Int) % 1000000000 = ((q % 1000000000 : Nat) : Int) := by omega
  have e2 : (q : Int) / 1000000000 = ((q / 1000000000 : Nat) : Int) := by omega
  have hl2 : (out ++ [((q % 1000000000 : Nat) : Int)]).length = out.length + 1 := by simp
  have hl3 : out.length + (List.take 1 (List.drop 0 [((q % 1000000000 : Nat) : Int)])).length = (out ++ [((q % 1000000000 : Nat) : Int)]).length := by simp
  rw [hmg, jiY] at h4
  have hmr := jik q (by omega : 1000000000 > 0)
  refine V.r0 (V.a3 @e1 e2 hl3) ?_
  try refine And.intro (fun _ => ⟨trivial, by omega⟩) ?_
  refine V.r0 (V.a3 @e1 e2 hl3) ?_
  refine ⟨(q / 1000000000, out ++ [((q % 1000000000 : Nat) : Int)]), ⟨hst, hdg, by dsimp only; omega, by dsimp only; omega, fun h0 => ?_⟩, hlt, V.wk⟩
  dsimp only at h0 ⊢
  rw [h0, Int.natCast_zero, Int.mul_zero, jiB] at hst
  have := mg_of (B := 1000000000) (by omega) hdg (fun x hx => by
   rw [List.getLast?_append] at hx
   simp at hx
   omega)
  rw [hst, jih] at this
  exact this
 ·rw [decide_eq_false_iff_not] at hq
  obtain rfl : q = 0 := by omega
  (conv => whnf)
  refine V.st ?_
  exact Fin.of (by rw [jja, h5 rfl])
theorem isNaNi_c (n : Int) : Called Tryz.prog 203 [.int .i64 n] (.bool false) := by
 refine V.en tbOk Tryz.func203 ?_
 (conv => whnf)
 refine V.st ?_
 exact Fin.of (by simp)
theorem isNaNu_c (n : Int) : Called Tryz.prog 204 [.int .u32 n] (.bool false) := by
 refine V.en tbOk Tryz.func204 ?_
 (conv => whnf)
 refine V.st ?_
 exact Fin.of (by simp)
theorem cmpi_c (m n : Int) : Called Tryz.prog 179 [.int .i64 m, .int .i64 n] (.int .i64 (m - n).sign) := by
 have h1 := isNaNi_c m
 have h2 := isNaNi_c n
 refine V.en tbOk Tryz.func179 ?_
 (conv => whnf)
 refine V.st ?_
 repeat ((try ((with_reducible refine .ext ?_); (conv => whnf))); (with_reducible refine jaa (r := ?_) ?_ ?_); rotate_left; (focus (first | exact (h1) | exact (h2))); (conv => whnf); refine V.st ?_)
 refine V.br (fun hq => ?_) (fun hq => ?_)
 ·rw [decide_eq_true_eq] at hq
  (conv => whnf)
  refine V.st ?_
  exact Fin.of (by rw [jiF (by omega)])
 ·rw [decide_eq_false_iff_not] at hq
  (conv => whnf)
  refine V.st ?_
  refine V.br (fun hq2 => ?_) (fun hq2 => ?_)
  ·rw [decide_eq_true_eq] at hq2
   (conv => whnf)
   refine V.st ?_
   exact Fin.of (by rw [jiG (by omega)])
  ·rw [decide_eq_false_iff_not] at hq2
   (conv => whnf)
   refine V.st ?_
   exact Fin.of (by rw [show m - n = 0 by omega]; rfl)
theorem cmpu_c (m n : Int) : Called Tryz.prog 180 [.int .u32 m, .int .u32 n] (.int .i64 (m - n).sign) := by
 have h1 := isNaNu_c m
 have h2 := isNaNu_c n
 refine V.en tbOk Tryz.func180 ?_
 (conv => whnf)
 refine V.st ?_
 repeat ((try ((with_reducible refine .ext ?_); (conv => whnf))); (with_reducible refine jaa (r := ?_) ?_ ?_); rotate_left; (focus (first | exact (h1) | exact (h2))); (conv => whnf); refine V.st ?_)
 refine V.br (fun hq => ?_) (fun hq => ?_)
 ·rw [decide_eq_true_eq] at hq
  (conv => whnf)
  refine V.st ?_
  exact Fin.of (by rw [jiF (by omega)])
 ·rw [decide_eq_false_iff_not] at hq
  (conv => whnf)
  refine V.st ?_
  refine V.br (fun hq2 => ?_) (fun hq2 => ?_)
  ·rw [decide_eq_true_eq] at hq2
   (conv => whnf)
   refine V.st ?_
   exact Fin.of (by rw [jiG (by omega)])
  ·rw [decide_eq_false_iff_not] at hq2
   (conv => whnf)
   refine V.st ?_
   exact Fin.of (by rw [show m - n = 0 by omega]; rfl)
theorem jca (a b : Nat) (ha : (mg 1000000000 a).length ≤ 100000000) (hb : (mg 1000000000 b).length ≤ 100000000) : Called Tryz.prog 148 [.ints .u32 (mg 1000000000 a), .ints .u32 (mg 1000000000 b)] (.int .i64 ((a : Int) - b).sign) := by
 have hdx := mg_dg (B := 1000000000) (by omega) a
 have hdy := mg_dg (B := 1000000000) (by omega) b
 have hsg := jfx (B := 1000000000) (by omega) a b
 generalize mg 1000000000 a = xs at *
 generalize mg 1000000000 b = ys at *
 have hsn : ((a : Int) - b).sign = (ordV xs ys).sign := by
  rcases Nat.lt_trichotomy a b with h | h | h
  ·rw [jiF (by omega), jiF (by omega)]
  ·rw [show (a : Int) - b = 0 by omega, show ordV xs ys = 0 by omega]
  ·rw [jiG (by omega), jiG (by omega)]
 rw [hsn]
 have hc1 := cmpi_c (xs.length : Int) (ys.length : Int)
 refine V.en tbOk Tryz.func148 ?_
 (conv => whnf)
 refine V.st ?_
 refine V.br (fun hq => ?_) (fun hq => ?_)
 ·rw [decide_eq_true_eq] at hq
  (conv => whnf)
  refine V.st ?_
  repeat ((try ((with_reducible refine .ext ?_); (conv => whnf))); (with_reducible refine jaa (r := ?_) ?_ ?_); rotate_left; (focus (first | exact (hc1))); (conv => whnf); refine V.st ?_)
  exact Fin.of (by unfold ordV; rw [if_neg (by omega)])
 ·rw [decide_eq_false_iff_not] at hq
  have hq' : xs.length = ys.length := by omega
  have hov : ordV xs ys = ordR xs ys xs.length := by unfold ordV; rw [if_pos hq']
  rw [hov]
  (conv => whnf)
  refine V.st ?_
  refine jac (xs.length) (fun k => k ≤ xs.length ∧ ordR xs ys k = ordR xs ys xs.length) (fun k => k) (fun k => [(5, .int .i64 ((k : Int) - 1))]) (fun k => []) ?_ ?_ ?_
  ·exact V.wk
  ·exact ⟨jii _, rfl⟩
  intro k hk
  have bx := jam (by omega) hdx (k - 1)
  have by' := jam (by omega) hdy (k - 1)
  (conv => whnf)
  refine V.st ?_
  refine V.br (fun hz => ?_) (fun hz => ?_)
  ·rw [decide_eq_true_eq] at hz
   obtain ⟨j, rfl⟩ : ∃ j, k = j + 1 := ⟨k - 1, by omega⟩
   have e2 : (((j + 1 : Nat) : Int) - 1) = (j : Int) := by omega
   have hr := hk.2
   rw [ordR] at hr
   rw [Nat.add_sub_cancel] at bx by'
   refine V.r0 (V.a2 e2 @jih) ?_
   refine ⟨(V.tk [0,1,2,3,4,5,6,7,8] .done), [], V.pok, .go (jad ?_)⟩
   have hc2 := cmpu_c (xs.getD j 0) (ys.getD j 0)
   refine V.r0 (V.a2 e2 @jih) ?_
   refine V.br (fun hn => ?_) (fun hn => ?_)
   ·rw [decide_eq_true_eq] at hn
    refine V.r0 (V.a2 e2 @jih) ?_
    refine ⟨(V.tk [0,1,2,3,4,5,6,7] (V.e1 8 [] (V.tk [9] .done))), [], V.pok, .go (jad ?_)⟩
    refine V.r1 (V.a2 e2 @jih) hc2 ?_
    exact Fin.of (by rw [← hr, if_neg hn])
   ·rw [decide_eq_false_iff_not] at hn
    rw [if_pos (by omega)] at hr
    refine V.r0 e2 ?_
    exact ⟨j, ⟨by omega, hr⟩, by omega, V.wk⟩
  ·rw [decide_eq_false_iff_not] at hz
   obtain rfl : k = 0 := by omega
   (conv => whnf)
   refine V.st ?_
   exact Fin.of (by rw [← hk.2]; rfl)
theorem jcv (a b : Nat) (ha : (mg 1000000000 a).length ≤ 100000000) (hb : (mg 1000000000 b).length ≤ 100000000) : Called Tryz.prog 151 [.ints .u32 (mg 1000000000 a), .ints .u32 (mg 1000000000 b)] (.ints .u32 (mg 1000000000 (a * b))) := by
 have hdx := mg_dg (B := 1000000000) (by omega) a
 have hdy := mg_dg (B := 1000000000) (by omega) b
 have hvx := jaC (B := 1000000000) (by omega) a
 have hvy := jaC (B := 1000000000) (by omega) b
 generalize mg 1000000000 a = xs at *
 generalize mg 1000000000 b = ys at *
 have hmn : ((xs.length : Int) + (ys.length : Int)).toNat = xs.length + ys.length := by omega
 refine V.en tbOk Tryz.func151 ?_
 refine V.r0 hmn ?_
 refine jac ((0, List.replicate (xs.length + ys.length) 0) : Nat × List Int) (fun s => s.1 ≤ xs.length ∧ s.2.length = xs.length + ys.length ∧ Dg 1000000000 s.2 ∧ (∀ k, s.1 + ys.length ≤ k → s.2.getD k 0 = 0) ∧ val 1000000000 s.2 = val 1000000000 (xs.take s.1) * val 1000000000 ys) (fun s => xs.length - s.1)
  (fun s => [(19, .int .i64 s.1), (5, .osl 16 0 (xs.length + ys.length))]) (fun s => [(16, .arr .u32 s.2)]) ?_ ?_ ?_
 ·exact V.wk
 ·exact ⟨jib _, by simp, jbT (by omega) _, fun k _ => by simp [jiJ, List.getElem?_replicate]; split <;> simp, by simp [val, jew]⟩
 rintro ⟨i, out⟩ ⟨h1, h2, h3, h4, h5⟩
 dsimp only at h1 h2 h3 h4 h5 ⊢
 have vx := jai 1000000000 xs i
 have bx := jam (by omega) hdx i
 generalize hx0 : xs.getD i 0 = x at *
 (conv => whnf)
 refine V.st ?_
 refine V.br (fun hq => ?_) (fun hq => ?_)
 ·rw [decide_eq_true_eq] at hq
  refine V.r0 (V.a2 @jih hx0) ?_
  refine jac ((0, out, 0) : Nat × List Int × Int) (fun s => s.1 ≤ ys.length ∧ s.2.1.length = xs.length + ys.length ∧ Dg 1000000000 s.2.1 ∧ (∀ k, i + ys.length ≤ k → s.2.1.getD k 0 = 0) ∧ (0 ≤ s.2.2 ∧ s.2.2 < 1000000000) ∧ val 1000000000 s.2.1 + ((1000000000 : Nat) : Int) ^ (i + s.1) * s.2.2 = val 1000000000 (xs.take i) * val 1000000000 ys + ((1000000000 : Nat) : Int) ^ i * x * val 1000000000 (ys.take s.1)) (fun s => ys.length - s.1)
   (fun s => [(26, .int .i64 s.1), (8, .int .u64 s.2.2), (5, .osl 16 0 (xs.length + ys.length))]) (fun s => [(16, .arr .u32 s.2.1)]) ?_ ?_ ?_
  ·exact V.wk
  ·exact ⟨jib _, h2, h3, h4, by simp, by simp [val, h5]⟩
  rintro ⟨j, o, c⟩ ⟨g1, g2, g3, g4, g5, g6⟩
  dsimp only at g1 g2 g3 g4 g5 g6 ⊢
  have vy := jai 1000000000 ys j
  have by' := jam (by omega) hdy j
  have bo := jam (by omega) g3 (i + j)
  generalize hy0 : ys.getD j 0 = y at *
  generalize ho0 : o.getD (i + j) 0 = q at *
  have eij : ((i : Int) + (j : Int)).toNat = i + j := by omega
  have hxy : 0 ≤ x * y ∧ x * y ≤ 999999999 * 999999999 := ⟨jie (by omega) (by omega), Int.mul_le_mul (by omega) (by omega) (by omega) (by omega)⟩
  have hkj : ((j : Int) + 1) = ((j + 1 : Nat) : Int) := by omega
  have hki : ((i : Int) + 1) = ((i + 1 : Nat) : Int) := by omega
  have ein : ((i : Int) + (ys.length : Int)).toNat = i + ys.length := by omega
  (conv => whnf)
  refine V.st ?_
  refine V.br (fun hw => ?_) (fun hw => ?_)
  ·rw [decide_eq_true_eq] at hw
   have hm : 0 ≤ (c + (q + x * y)) % 1000000000 ∧ (c + (q + x * y)) % 1000000000 < 1000000000 := ⟨jic _ (by omega), jiA _ (by omega)⟩
   have hc9 : 0 ≤ (c + (q + x * y)) / 1000000000 ∧ (c + (q + x * y)) / 1000000000 < 1000000000 := by omega
   have hst := jgz (B := 1000000000) (x := x) (y := y) (q := q) (c := c) (d := (c + (q + x * y)) % 1000000000) (c' := (c + (q + x * y)) / 1000000000) (by omega) ho0 g6 (by have := jid (c + (q + x * y)) 1000000000; omega)
   rw [← vy] at hst
   refine V.r0 (V.a7 eij @jif @jih hx0 hy0 ho0 hkj) ?_
   exact ⟨(j + 1, o.set (i + j) ((c + (q + x * y)) % 1000000000), (c + (q + x * y)) / 1000000000), ⟨by dsimp only; omega, by dsimp only; rw [ji6]; exact g2, jdA g3 hm, fun k hk => by dsimp only; rw [jcn (by omega)]; exact g4 k hk, ⟨hc9.1, hc9.2⟩, hst⟩, by dsimp only; omega, V.wk⟩
  ·rw [decide_eq_false_iff_not] at hw
   have hj : j = ys.length := by omega
   subst hj
   rw [jja] at g6
   have hst := prod_end (B := 1000000000) (by omega) (g4 _ (jii _)) g6 hx0
   refine V.r0 (V.a3 ein @jif hki) ?_
   exact ⟨(i + 1, o.set (i + ys.length) c), ⟨by dsimp only; omega, by dsimp only; rw [ji6]; exact g2, jdA g3 ⟨g5.1, g5.2⟩, fun k hk => by dsimp only at hk ⊢; rw [jcn (by omega)]; exact g4 k (by omega), hst⟩, by dsimp only; omega, V.wk⟩
 ·rw [decide_eq_false_iff_not] at hq
  rw [jiZ (by omega), hvx, hvy, ← jis] at h5
  have hc := jfm out h3 (by omega)
  rw [h5, jih, ← jja (l := out), h2] at hc
  (conv => whnf)
  refine V.st ?_
  repeat ((try ((with_reducible refine .ext ?_); (conv => whnf))); (with_reducible refine jaa (r := ?_) ?_ ?_); rotate_left; (focus (first | exact (hc))); (conv => whnf); refine V.st ?_)
  exact Fin.of rfl
theorem short_c (a d : Nat) (ha : (mg 1000000000 a).length ≤ 100000000) (hd0 : 0 < d) (hd1 : d ≤ 1000000000) : Called Tryz.prog 196 [.ints .u32 (mg 1000000000 a), .int .u32 d] (.tup [.ints .u32 (mg 1000000000 (a / d)), .int .u32 (a % d : Nat)]) := by
 have hdx := mg_dg (B := 1000000000) (by omega) a
 have hvx := jaC (B := 1000000000) (by omega) a
 generalize mg 1000000000 a = xs at *
 have hmn : ((xs.length : Int)).toNat = xs.length := by omega
 refine V.en tbOk Tryz.func196 ?_
 refine V.r0 hmn ?_
 refine jac ((xs.length, List.replicate xs.length 0, 0) : Nat × List Int × Int) (fun s => s.1 ≤ xs.length ∧ s.2.1.length = xs.length ∧ Dg 1000000000 s.2.1 ∧ (0 ≤ s.2.2 ∧ s.2.2 < d) ∧ val 1000000000 (xs.drop s.1) = val 1000000000 (s.2.1.drop s.1) * d + s.2.2) (fun s => s.1)
  (fun s => [(8, .int .i64 ((s.1 : Int) - 1)), (7, .int .u64 s.2.2), (6, .osl 11 0 xs.length)]) (fun s => [(11, .arr .u32 s.2.1)]) ?_ ?_ ?_
 ·exact V.wk
 ·exact ⟨jii _, by simp, jbT (by omega) _, ⟨by simp, by dsimp only; omega⟩, by simp [val]⟩
 rintro ⟨k, out, r⟩ ⟨h1, h2, h3, h4, h5⟩
 dsimp only at h1 h2 h3 h4 h5 ⊢
 (conv => whnf)
 refine V.st ?_
 refine V.br (fun hq => ?_) (fun hq => ?_)
 ·rw [decide_eq_true_eq] at hq
  obtain ⟨j, rfl⟩ : ∃ j, k = j + 1 := ⟨k - 1, by omega⟩
  have hj : j < xs.length := by omega
  have bx := jam (by omega) hdx j
  generalize hx0 : xs.getD j 0 = x at *
  have e2 : (((j + 1 : Nat) : Int) - 1) = (j : Int) := by omega
  have hb : 0 ≤ (r * 1000000000 + x) / (d : Int) ∧ (r * 1000000000 + x) / (d : Int) < 1000000000 ∧ 0 ≤ (r * 1000000000 + x) % (d : Int) ∧ (r * 1000000000 + x) % (d : Int) < d := jeI (B := 1000000000) (by omega : (0 : Int) < d) h4 bx
  have hst := jeH (B := 1000000000) hj (by omega) hx0 h5 (t := r * 1000000000 + x) rfl
  have hr0 : 0 ≤ r * 1000000000 + x := by omega
  refine V.r0 (V.a4 e2 @jif @jih hx0) ?_
  exact ⟨(j, out.set j ((r * 1000000000 + x) / d), (r * 1000000000 + x) % d), ⟨by dsimp only; omega, by dsimp only; rw [ji6]; exact h2, jdA h3 ⟨hb.1, hb.2.1⟩, ⟨hb.2.2.1, hb.2.2.2⟩, hst⟩, by dsimp only; omega, V.wk⟩
 ·rw [decide_eq_false_iff_not] at hq
  obtain rfl : k = 0 := by omega
  rw [ji3, ji3, hvx] at h5
  have hvq := jan h3
  obtain ⟨w, hw⟩ : ∃ w : Nat, val 1000000000 out = w := ⟨(val 1000000000 out).toNat, by omega⟩
  obtain ⟨r', rfl⟩ : ∃ r' : Nat, r = r' := ⟨r.toNat, by omega⟩
  rw [hw, ← jis] at h5
  have h6 : a = w * d + r' := by omega
  have e8 : a / d = w := by rw [h6, Nat.add_comm, Nat.add_mul_div_right _ _ hd0, Nat.div_eq_of_lt (by omega), jif]
  have e9 : a % d = r' := by rw [h6, Nat.add_comm, Nat.add_mul_mod_self_right, jim (by omega)]
  have hc := jfm out h3 (by omega)
  rw [hw, jih, ← jja (l := out), h2] at hc
  (conv => whnf)
  refine V.st ?_
  repeat ((try ((with_reducible refine .ext ?_); (conv => whnf))); (with_reducible refine jaa (r := ?_) ?_ ?_); rotate_left; (focus (first | exact (hc))); (conv => whnf); refine V.st ?_)
  exact Fin.of (by rw [e8, e9])
theorem length_c (n : Nat) (hn : (mg 1000000000 n).length ≤ 100000000) : Called Tryz.prog 167 [.ints .u32 (mg 1000000000 n)] (.int .i64 (dec n).length) := by
 have hz := jc9 n
 have hdx := mg_dg (B := 1000000000) (by omega) n
 have hvx := jaC (B := 1000000000) (by omega) n
 have hlx := jdP (B := 1000000000) (n := n) (by omega)
 have hnil := jb8 (B := 1000000000) (n := n) (by omega)
 generalize mg 1000000000 n = xs at *
 refine V.en tbOk Tryz.func167 ?_
 (conv => whnf)
 refine V.st ?_
 repeat ((try ((with_reducible refine .ext ?_); (conv => whnf))); (with_reducible refine jaa (r := ?_) ?_ ?_); rotate_left; (focus (first | exact (hz))); (conv => whnf); refine V.st ?_)
 refine V.br (fun hq => ?_) (fun hq => ?_)
 ·rw [decide_eq_true_eq] at hq
  subst hq
  (conv => whnf)
  refine V.st ?_
  exact Fin.of rfl
 ·rw [decide_eq_false_iff_not] at hq
  obtain ⟨j, hj⟩ : ∃ j, xs.length = j + 1 := ⟨xs.length - 1, by
   have : xs ≠ [] := fun e => hq (hnil.1 e)
   have := List.length_pos_iff.2 this
   omega⟩
  have bx := jam (by omega) hdx j
  have hd := jbM (B := 1000000000) (l := xs) (k := j) (by omega)
  have hnil2 : xs.drop (j + 1) = [] := List.drop_eq_nil_of_le (by omega)
  rw [hnil2] at hd
  have hsp := jbH 1000000000 xs j (by omega)
  have hlo := jb2 (jbi hdx j)
  have hlo0 := jan (jbi hdx j)
  rw [jiQ, Nat.min_eq_left (by omega)] at hlo
  have hx1 : xs.getD j 0 ≠ 0 := by
   refine hlx _ ?_
   rw [List.getLast?_eq_getElem?, hj, jiJ, show j + 1 - 1 = j by omega, jiM (by omega)]; rfl
  generalize hx0 : xs.getD j 0 = x at *
  obtain ⟨d, rfl⟩ : ∃ d : Nat, x = d := ⟨x.toNat, by omega⟩
  rw [hd, hvx] at hsp
  obtain ⟨w, hw⟩ : ∃ w : Nat, val 1000000000 (xs.take j) = w := ⟨(val 1000000000 (xs.take j)).toNat, by omega⟩
  have hnw : n = d * 10 ^ (9 * j) + w := by
   have e : ((10 ^ (9 * j) : Nat) : Int) = ((1000000000 : Nat) : Int) ^ j := by rw [Nat.pow_mul, jiC]
   simp only [val, Int.mul_zero, jiB] at hsp
   rw [hw, ← e, ← jis, jil] at hsp
   omega
  have hwl : w < 10 ^ (9 * j) := by
   rw [Nat.pow_mul]
   rw [hw, ← jiC] at hlo
   exact_mod_cast hlo
  have hdp := jhG (a := d) (by omega) (9 * j) w hwl
  rw [← hnw] at hdp
  have hlen : (dec n).length = (dec d).length + 9 * j := by rw [hdp, jiP, jdM]
  have hi := itoa_c (d : Int)
  have hdz : decZ (d : Int) = dec d := by unfold decZ; rw [if_neg (by omega), jix]
  rw [hdz] at hi
  have e1 : ((xs.length : Int) - 1) = (j : Int) := by omega
  have hdl := je8 d 9 (by omega) (by omega)
  refine V.r1 (V.a3 @e1 @jih hx0) hi ?_
  exact Fin.of (by rw [hlen]; congr 1; omega)
end Go.Proofs.YtgjgpdceghjajaaGreatDoor
end
section
namespace Go.Nb
structure Kn (B top v2 vr u2 ur head U V P : Int) : Prop where
 hB : 2 ≤ B
 hP : 1 ≤ P
 ht : 1 ≤ top
 hv : V = (top * B + v2) * P + vr
 hu : U = (head * B + u2) * P + ur
 v20 : 0 ≤ v2
 v2B : v2 < B
 u20 : 0 ≤ u2
 u2B : u2 < B
 vr0 : 0 ≤ vr
 vrP : vr < P
 ur0 : 0 ≤ ur
 urP : ur < P
 hh : 0 ≤ head
 htB : top < B
 lt : U < B * V
section
variable {B top v2 vr u2 ur head U V P : Int}
theorem Kn.vpos (K : Kn B top v2 vr u2 ur head U V P) : 0 < V := by
 have h1 : 0 ≤ top * B := jie (by have := K.ht; omega) (by have := K.hB; omega)
 have h2 : 1 * 2 ≤ top * B := Int.mul_le_mul K.ht K.hB (by omega) (by have := K.ht; omega)
 have h3 : 1 * 1 ≤ (top * B + v2) * P := Int.mul_le_mul (by have := K.v20; omega) K.hP (by omega) (by have := K.v20; omega)
 have := K.hv
 have := K.vr0
 omega
theorem Kn.ulo (K : Kn B top v2 vr u2 ur head U V P) : head * B * P ≤ U ∧ U < (head + 1) * B * P := by
 have e : (head * B + u2) * P = head * B * P + u2 * P := jiD _ _ _
 have e2 : (head + 1) * B * P = head * B * P + B * P := by rw [jiD, jiE, jiD]
 have h1 : 0 ≤ u2 * P := jie K.u20 (by have := K.hP; omega)
 have h2 : (u2 + 1) * P ≤ B * P := jin (by have := K.u2B; omega) (by have := K.hP; omega)
 rw [jiD, jiE] at h2
 have := K.hu
 have := K.ur0
 have := K.urP
 omega
theorem Kn.vlo (K : Kn B top v2 vr u2 ur head U V P) : top * B * P ≤ V ∧ V < (top + 1) * B * P := by
 have e : (top * B + v2) * P = top * B * P + v2 * P := jiD _ _ _
 have e2 : (top + 1) * B * P = top * B * P + B * P := by rw [jiD, jiE, jiD]
 have h1 : 0 ≤ v2 * P := jie K.v20 (by have := K.hP; omega)
 have h2 : (v2 + 1) * P ≤ B * P := jin (by have := K.v2B; omega) (by have := K.hP; omega)
 rw [jiD, jiE] at h2
 have := K.hv
 have := K.vr0
 have := K.vrP
 omega
theorem Kn.bp (K : Kn B top v2 vr u2 ur head U V P) : 0 < B * P := Int.mul_pos (by have := K.hB; omega) (by have := K.hP; omega)
theorem Kn.qlt (K : Kn B top v2 vr u2 ur head U V P) {Q : Int} (h : Q * V ≤ U) : Q < B :=
 Int.lt_of_mul_lt_mul_right (Int.lt_of_le_of_lt h K.lt) (Int.le_of_lt K.vpos)
theorem Kn.init (K : Kn B top v2 vr u2 ur head U V P) {Q : Int} (hQ : 0 ≤ Q) (h : Q * V ≤ U) : Q ≤ head / top := by
 have ht := K.ht
 refine (Int.le_ediv_iff_mul_le (by omega)).2 ?_
 rcases Int.lt_or_le head (Q * top) with hc | hc
 ·exfalso
  have h1 : (head + 1) * (B * P) ≤ Q * top * (B * P) := jin (by omega) (Int.le_of_lt K.bp)
  have h2 : Q * (top * B * P) ≤ Q * V := jiw K.vlo.1 hQ
  have h3 := K.ulo.2
  have e1 : (head + 1) * (B * P) = (head + 1) * B * P := (jiv _ _ _).symm
  have e2 : Q * top * (B * P) = Q * (top * B * P) := by simp only [jiv]
  omega
 ·exact hc
theorem Kn.step (K : Kn B top v2 vr u2 ur head U V P) {Q q r : Int} (hQ : 0 ≤ Q) (h : Q * V ≤ U) (hq : Q ≤ q) (hr : head = q * top + r) (hc : B ≤ q ∨ r * B + u2 < q * v2) : Q ≤ q - 1 := by
 rcases hc with hc | hc
 ·have := K.qlt h
  omega
 ·have hq0 : 0 ≤ q := by omega
  have h1 : head * B + u2 + 1 ≤ q * (top * B + v2) := by
   rw [hr, jiD, jit, jiv]
   omega
  have h2 : (head * B + u2 + 1) * P ≤ q * (top * B + v2) * P := jin h1 (by have := K.hP; omega)
  rw [jiD, jiE] at h2
  have h3 : q * ((top * B + v2) * P) ≤ q * V := jiw (by have := K.hv; have := K.vr0; omega) hq0
  rw [← jiv] at h3
  have h4 : Q * V < q * V := by
   have := K.hu
   have := K.urP
   omega
  have := Int.lt_of_mul_lt_mul_right h4 (Int.le_of_lt K.vpos)
  omega
theorem Kn.out1 (K : Kn B top v2 vr u2 ur head U V P) {q r : Int} (hq0 : 0 ≤ q) (hr : head = q * top + r) (h1 : q < B) (h2 : q * v2 ≤ r * B + u2) : (q - 1) * V ≤ U := by
 have h3 : q * (top * B + v2) ≤ head * B + u2 := by
  rw [hr, jiD, jit, jiv]
  omega
 have h4 : q * (top * B + v2) * P ≤ (head * B + u2) * P := jin h3 (by have := K.hP; omega)
 have e1 : q * V = q * (top * B + v2) * P + q * vr := by rw [K.hv, jit, jiv]
 have h5 : q * vr ≤ B * P := by
  have h6 : q * vr ≤ B * vr := jin (by omega) K.vr0
  have h7 : B * vr ≤ B * P := jiw (by have := K.vrP; omega) (by have := K.hB; omega)
  omega
 have h8 : 1 * (B * P) ≤ top * (B * P) := jin K.ht (Int.le_of_lt K.bp)
 have e2 : top * (B * P) = top * B * P := (jiv _ _ _).symm
 have h9 := K.vlo.1
 have := K.hu
 have := K.ur0
 rw [Int.sub_mul, jiE]
 omega
theorem Kn.out2 (K : Kn B top v2 vr u2 ur head U V P) {q r : Int} (hq0 : 0 ≤ q) (hr : head = q * top + r) (h1 : B ≤ r) : q < B ∧ (q - 1) * V ≤ U := by
 have hlo := K.ulo
 have vlo := K.vlo
 have hbp := K.bp
 -- the head is at most top * B + B - 1
 have h2 : head < (top + 1) * B := by
  rcases Int.lt_or_le head ((top + 1) * B) with h | h
  ·exact h
  ·exfalso
   have h3 : (top + 1) * B * (B * P) ≤ head * (B * P) := jin h (Int.le_of_lt hbp)
   have h4 : B * V < B * ((top + 1) * B * P) := Int.mul_lt_mul_of_pos_left vlo.2 (by have := K.hB; omega)
   have e1 : (top + 1) * B * (B * P) = B * ((top + 1) * B * P) := by ac_rfl
   have e2 : head * (B * P) = head * B * P := (jiv _ _ _).symm
   have := K.lt
   omega
 rw [jiD, jiE] at h2
 have hqB : q < B := by
  rcases Int.lt_or_le q B with h | h
  ·exact h
  ·exfalso
   have h3 : B * top ≤ q * top := jin h (by have := K.ht; omega)
   rw [jiu B top] at h3
   omega
 refine ⟨hqB, ?_⟩
 have h5 : q * top ≤ head - B := by omega
 have h6 : q * top * (B * P) ≤ (head - B) * (B * P) := jin h5 (Int.le_of_lt hbp)
 have h7 : q * V ≤ q * ((top + 1) * B * P) := jiw (Int.le_of_lt vlo.2) hq0
 have h8 : q * (B * P) ≤ B * (B * P) := jin (Int.le_of_lt hqB) (Int.le_of_lt hbp)
 have e1 : q * ((top + 1) * B * P) = q * top * (B * P) + q * (B * P) := by
  rw [jiD, jiE, jiD, jit]
  simp only [jiv]
 rw [Int.sub_mul] at h6
 have e2 : head * (B * P) = head * B * P := (jiv _ _ _).symm
 have := K.vpos
 rw [Int.sub_mul, jiE]
 omega
end
end Go.Nb
end
