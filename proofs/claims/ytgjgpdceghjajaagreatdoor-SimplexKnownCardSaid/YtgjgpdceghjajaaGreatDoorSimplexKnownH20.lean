/- What some functions of the program answer at values that mean given lists, texts and numbers, each proved of the program's own code: part 20. Conditions: those that each theorem names. -/
import Derived.Test.YtgjgpdceghjajaaGreatDoorSimplexKnownH19
import Derived.Test.YtgjgpdceghjajaaGreatDoorSimplexKnownH15
import Derived.Test.YtgjgpdceghjajaaGreatDoorSimplexKnownH17
import Derived.Test.YtgjgpdceghjajaaGreatDoorSimplexKnownH14
set_option linter.unusedSimpArgs false
set_option linter.unusedVariables false
set_option maxHeartbeats 8000000
set_option maxRecDepth 100000
section
namespace Go.Proofs.YtgjgpdceghjajaaGreatDoor
open Go Go.V Go.Nb
theorem jgY (a b : Nat) (h : a < b) (ha : (mg 1000000000 a).length ≤ 100000000) (hb : (mg 1000000000 b).length ≤ 100000000) : Called Tryz.prog 166 [.ints .u32 (mg 1000000000 a), .ints .u32 (mg 1000000000 b)] (.tup [.ints .u32 (mg 1000000000 (a / b)), .ints .u32 (mg 1000000000 (a % b))]) := by
 have hc := jb2 a b ha hb
 rw [jhZ (by omega)] at hc
 rw [Nat.div_eq_of_lt h, jhH h, jcb]
 refine jaa tbOk 6 ⟨Tryz.func166, rfl, rfl, jhy rfl⟩ ?_
 (conv => whnf)
 refine V.st ?_
 repeat ((try ((with_reducible refine .ext ?_); (conv => whnf))); (with_reducible refine jab (r := ?_) ?_ ?_); rotate_left; (focus (first | exact (hc))); (conv => whnf); refine V.st ?_)
 exact Fin.tup ⟨Fin.nil _, Fin.of rfl, trivial⟩
theorem divide_one (a b : Nat) (h : b ≤ a) (hb : 0 < b) (hb1 : b < 1000000000) (ha : (mg 1000000000 a).length ≤ 100000000) : Called Tryz.prog 166 [.ints .u32 (mg 1000000000 a), .ints .u32 (mg 1000000000 b)] (.tup [.ints .u32 (mg 1000000000 (a / b)), .ints .u32 (mg 1000000000 (a % b))]) := by
 have hc := jb2 a b ha (by have := jae (B := 1000000000) (by omega) h; omega)
 have hmb : mg 1000000000 b = [(b : Int)] := by
  rw [jbZ (by omega) hb, jhH hb1, Nat.div_eq_of_lt hb1]; rfl
 have hs0 : 0 ≤ ((a : Int) - b).sign := Int.sign_nonneg_iff.2 (by omega)
 generalize ((a : Int) - b).sign = sg at *
 have hsh := short_c a b ha hb (by omega)
 have hlt : a % b < b := Nat.mod_lt _ hb
 have hfs := jcT (a % b) (by omega)
 rw [hmb] at hc ⊢
 refine jaa tbOk 6 ⟨Tryz.func166, rfl, rfl, jhy rfl⟩ ?_
 (conv => whnf)
 refine V.st ?_
 repeat ((try ((with_reducible refine .ext ?_); (conv => whnf))); (with_reducible refine jab (r := ?_) ?_ ?_); rotate_left; (focus (first | exact (hc))); (conv => whnf); refine V.st ?_)
 refine Cnd.no (by rw [decide_eq_false_iff_not]; omega) ?_
 (conv => whnf)
 refine V.st ?_
 refine Cnd.yes (by simp) ?_
 (conv => whnf)
 refine V.st ?_
 repeat ((try ((with_reducible refine .ext ?_); (conv => whnf))); (with_reducible refine jab (r := ?_) ?_ ?_); rotate_left; (focus (first | exact (hsh) | exact (hfs))); (conv => whnf); refine V.st ?_)
 exact Fin.of rfl
theorem jhh : type_of% @jhD ∧ type_of% @jhC := ⟨@jhD, @jhC⟩
theorem jgX (a b : Nat) (h : b ≤ a) (hb1 : 1000000000 ≤ b) (ha : (mg 1000000000 a).length ≤ 90000000) : Called Tryz.prog 166 [.ints .u32 (mg 1000000000 a), .ints .u32 (mg 1000000000 b)] (.tup [.ints .u32 (mg 1000000000 (a / b)), .ints .u32 (mg 1000000000 (a % b))]) := by
 have hlen := jae (B := 1000000000) (by omega) h
 have hc := jb2 a b (by omega) (by omega)
 have hs0 : 0 ≤ ((a : Int) - b).sign := Int.sign_nonneg_iff.2 (by omega)
 generalize ((a : Int) - b).sign = sg at *
 obtain ⟨p, hp⟩ : ∃ p, (mg 1000000000 b).length = p + 2 := by
  have := jae (B := 1000000000) (by omega) hb1
  have e : mg 1000000000 1000000000 = [0, 1] := by rfl
  rw [e] at this
  exact ⟨(mg 1000000000 b).length - 2, by simp at this; omega⟩
 -- the scale
 have hdb := mg_dg (B := 1000000000) (by omega) b
 have hvb := jaD (B := 1000000000) (by omega) b
 have hlb := jdr (B := 1000000000) (n := b) (by omega)
 have hlt1 := jaG (B := 1000000000) (n := a) (by omega)
 have ht0 := jal (by omega) hdb (p + 1)
 have ht1 : (mg 1000000000 b).getD (p + 1) 0 ≠ 0 := by
  refine hlb _ ?_
  rw [List.getLast?_eq_getElem?, hp, List.getD_eq_getElem?_getD, show p + 2 - 1 = p + 1 by omega, List.getElem?_eq_getElem (by omega)]; rfl
 generalize hts : (mg 1000000000 b).getD (p + 1) 0 = t at *
 obtain ⟨t, rfl⟩ : ∃ t' : Nat, t = t' := ⟨t.toNat, by omega⟩
 obtain ⟨s, hs⟩ : ∃ s : Nat, 1000000000 / ((t : Int) + 1) = s := ⟨(1000000000 / ((t : Int) + 1)).toNat, by have := Int.ediv_nonneg (a := 1000000000) (b := (t : Int) + 1) (by omega) (by omega); omega⟩
 have hs1 : 1 ≤ s ∧ s < 1000000000 ∧ s * (t + 1) ≤ 1000000000 := by
  have e1 : s = 1000000000 / (t + 1) := by
   have : ((1000000000 / (t + 1) : Nat) : Int) = 1000000000 / ((t : Int) + 1) := by rw [Int.natCast_ediv]; rfl
   omega
  refine ⟨?_, ?_, ?_⟩
  ·rw [e1]; exact (Nat.le_div_iff_mul_le (by omega)).2 (by omega)
  ·rw [e1]; exact Nat.div_lt_of_lt_mul (by omega)
  ·rw [e1]; exact Nat.div_mul_le_self _ _
 have hms : mg 1000000000 s = [(s : Int)] := by
  rw [jbZ (by omega) (by omega), jhH (by omega), Nat.div_eq_of_lt (by omega)]; rfl
 have htm1 := jcj b s (by omega) (by rw [hms]; simp)
 have htm2 := jcj a s (by omega) (by rw [hms]; simp)
 rw [hms] at htm1 htm2
 -- the divisor, scaled
 have hbt : b < (t + 1) * 1000000000 ^ (p + 1) ∧ t * 1000000000 ^ (p + 1) ≤ b := by
  have h1 := jdJ (B := 1000000000) (by omega) hdb (p + 1)
  rw [jaX, hts, List.drop_eq_nil_of_le (by omega), hvb] at h1
  simp only [val, Int.mul_zero, jhV] at h1
  have e : ((1000000000 : Nat) : Int) ^ (p + 1) = ((1000000000 ^ (p + 1) : Nat) : Int) := by rw [jhW]
  rw [e] at h1
  have e1 : ((t : Int) + 1) = ((t + 1 : Nat) : Int) := by omega
  rw [e1, ← jhM, ← jhM] at h1
  omega
 have hPp : 0 < 1000000000 ^ (p + 1) := Nat.pow_pos (by omega)
 have hVlt : b * s < 1000000000 ^ (p + 2) := by
  have h1 : b * s < (t + 1) * 1000000000 ^ (p + 1) * s := Nat.mul_lt_mul_of_pos_right hbt.1 (by omega)
  have h2 : s * (t + 1) * 1000000000 ^ (p + 1) ≤ 1000000000 * 1000000000 ^ (p + 1) := Nat.mul_le_mul_right _ hs1.2.2
  have e1 : (t + 1) * 1000000000 ^ (p + 1) * s = s * (t + 1) * 1000000000 ^ (p + 1) := by ac_rfl
  rw [Nat.pow_succ 1000000000 (p + 1), jhG (1000000000 ^ (p + 1))]
  omega
 have hVge : s * 1000000000 ^ (p + 1) ≤ b * s := by
  have h1 : 1 * 1000000000 ^ (p + 1) ≤ t * 1000000000 ^ (p + 1) := Nat.mul_le_mul_right _ (by omega)
  rw [jhG b]
  exact Nat.mul_le_mul_left _ (by omega)
 have hVl : (mg 1000000000 (b * s)).length = p + 2 := by
  have h1 := jax (B := 1000000000) (n := b * s) (k := p + 2) (by omega) hVlt
  rcases jhK (mg 1000000000 (b * s)).length (p + 2) with h2 | h2
  ·have h3 := jaG (B := 1000000000) (n := b * s) (by omega)
   have h4 : 1000000000 ^ (mg 1000000000 (b * s)).length ≤ 1000000000 ^ (p + 1) := jhS (by omega) (by omega)
   have h5 : 1 * 1000000000 ^ (p + 1) ≤ s * 1000000000 ^ (p + 1) := Nat.mul_le_mul_right _ hs1.1
   omega
  ·omega
 have hdV := mg_dg (B := 1000000000) (by omega) (b * s)
 have hvV := jaD (B := 1000000000) (by omega) (b * s)
 have hlV := jdr (B := 1000000000) (n := b * s) (by omega)
 have htV : (mg 1000000000 (b * s)).getD (p + 1) 0 ≠ 0 := by
  refine hlV _ ?_
  rw [List.getLast?_eq_getElem?, hVl, List.getD_eq_getElem?_getD, show p + 2 - 1 = p + 1 by omega, List.getElem?_eq_getElem (by omega)]; rfl
 have hM : (mg 1000000000 (a * s)).length ≤ (mg 1000000000 a).length + 1 := by
  have := jb0 (B := 1000000000) (by omega) a s
  rw [hms] at this
  simpa using this
 have hdM := mg_dg (B := 1000000000) (by omega) (a * s)
 have hvM := jaD (B := 1000000000) (by omega) (a * s)
 have hMlt : a * s < s * 1000000000 ^ (mg 1000000000 a).length := by
  rw [jhG]; exact Nat.mul_lt_mul_of_pos_left hlt1 (by omega)
 generalize hmb : mg 1000000000 b = bs at *
 generalize hma : mg 1000000000 a = xs at *
 generalize hmV : mg 1000000000 (b * s) = vs at *
 generalize hmM : mg 1000000000 (a * s) = ms at *
 have e1 : ((bs.length : Int) - 1).toNat = p + 1 := by omega
 obtain ⟨N, hN⟩ : ∃ N, N = xs.length + 1 := ⟨_, rfl⟩
 obtain ⟨L, hL⟩ : ∃ L, L = xs.length - vs.length := ⟨_, rfl⟩
 obtain ⟨L1, hL1⟩ : ∃ L1, L1 = L + 1 := ⟨_, rfl⟩
 have e2 : (xs.length : Int) + 1 = (N : Int) := by omega
 have e3 : (xs.length : Int) - ((p + 2 : Nat) : Int) = (L : Int) := by omega
 have e4 : (L : Int) + 1 = (L1 : Int) := by omega
 refine jaa tbOk 6 ⟨Tryz.func166, rfl, rfl, jhy rfl⟩ ?_
 (conv => whnf)
 refine V.st ?_
 repeat ((try ((with_reducible refine .ext ?_); (conv => whnf))); (with_reducible refine jab (r := ?_) ?_ ?_); rotate_left; (focus (first | exact (hc))); (conv => whnf); refine V.st ?_)
 refine Cnd.no (by rw [decide_eq_false_iff_not]; omega) ?_
 (conv => whnf)
 refine V.st ?_
 refine Cnd.no (by rw [decide_eq_false_iff_not]; omega) ?_
 refine V.r2 (V.a8 e1 e2 e3 e4 hts hs hVl @jhD) htm1 htm2 ?_
 have hu0 : setAt (List.replicate N 0) 0 (List.take N ms) = ms ++ List.replicate (N - ms.length) 0 := by
  unfold setAt
  rw [List.take_zero, List.nil_append, List.take_of_length_le (l := ms) (by omega), jhC, List.drop_replicate]
 have hu0v : val 1000000000 (ms ++ List.replicate (N - ms.length) 0) = (a * s : Nat) := by
  rw [jbv, jdY, Int.mul_zero, jhV, hvM]
 simp only [hu0]
 refine jah ((L1, ms ++ List.replicate (N - ms.length) 0, List.replicate L1 0) : Nat × List Int × List Int) (fun x => x.1 ≤ L1 ∧ x.2.1.length = N ∧ Dg 1000000000 x.2.1 ∧ x.2.2.length = L1 ∧ Dg 1000000000 x.2.2 ∧ val 1000000000 (x.2.1.drop (x.1 + (p + 2))) = 0 ∧ val 1000000000 (x.2.1.drop x.1) < (b * s : Nat) ∧ ((a * s : Nat) : Int) = val 1000000000 (x.2.2.drop x.1) * ((1000000000 : Nat) : Int) ^ x.1 * (b * s : Nat) + val 1000000000 x.2.1) (fun x => x.1)
  (fun x => [(12, .int .i64 ((x.1 : Int) - 1)), (4, .osl 62 0 L1), (10, .osl 48 0 N)]) (fun x => [(62, .arr .u32 x.2.2), (48, .arr .u32 x.2.1)]) ?_ ?_ ?_
 ·rw [show ((L1 : Int) - 1) = (L : Int) by omega]
  exact V.wk
 ·refine ⟨jhE _, by simp; omega, jaj hdM (jbP (by omega) _), by simp, jbP (by omega) _, ?_, ?_, ?_⟩
  ·dsimp only
   rw [List.drop_of_length_le (by simp; omega)]; rfl
  ·dsimp only
   have h1 := jdJ (B := 1000000000) (by omega) (jaj hdM (jbP (by omega) (N - ms.length))) L1
   rw [hu0v] at h1
   generalize val 1000000000 ((ms ++ List.replicate (N - ms.length) 0).drop L1) = z at *
   have h2 : ((1000000000 : Nat) : Int) ^ L1 = ((1000000000 ^ L1 : Nat) : Int) := by rw [jhW]
   have h3 : 0 < 1000000000 ^ L1 := Nat.pow_pos (by omega)
   have h4 : a * s < (s * 1000000000 ^ (p + 1)) * 1000000000 ^ L1 := by
    rw [Nat.mul_assoc, ← Nat.pow_add, show p + 1 + L1 = xs.length by omega]; exact hMlt
   have h5 : (s * 1000000000 ^ (p + 1)) * 1000000000 ^ L1 ≤ (b * s) * 1000000000 ^ L1 := Nat.mul_le_mul_right _ hVge
   rw [h2] at h1
   refine Int.lt_of_mul_lt_mul_right (a := ((1000000000 ^ L1 : Nat) : Int)) ?_ (by omega)
   rw [← jhM]
   omega
  ·dsimp only
   rw [List.drop_of_length_le (by simp), hu0v]; simp [val]
 rintro ⟨k, u, q⟩ ⟨h1, h2, h3, h4, h5, h6, h7, h8⟩
 dsimp only at h1 h2 h3 h4 h5 h6 h7 h8 ⊢
 (conv => whnf)
 refine V.st ?_
 refine Cnd.split (CondB.mk (fun hq => ?_) (fun hq => ?_))
 ·rw [decide_eq_true_eq] at hq
  obtain ⟨j, rfl⟩ : ∃ j, k = j + 1 := ⟨k - 1, by omega⟩
  have f1 : (((j + 1 : Nat) : Int) - 1) = (j : Int) := by omega
  have f2 : (j : Int) + ((p + 2 : Nat) : Int) = ((j + (p + 2) : Nat) : Int) := by omega
  have f4 : ((j + (p + 2) : Nat) : Int) + 1 = ((j + (p + 3) : Nat) : Int) := by omega
  have f5 : j + (p + 3) - j = p + 3 := by omega
  have f6 : ((p + 2 : Nat) : Int) - 1 = ((p + 1 : Nat) : Int) := by omega
  have f7 : ((p + 2 : Nat) : Int) - 2 = ((p : Nat) : Int) := by omega
  -- what is looked at
  obtain ⟨W, hW⟩ : ∃ W, val 1000000000 (u.drop j) = W := ⟨_, rfl⟩
  obtain ⟨VV, hVV⟩ : ∃ VV : Int, ((b * s : Nat) : Int) = VV := ⟨_, rfl⟩
  rw [hVV] at h7 h8 hvV
  have bv1 := jal (by omega) hdV (p + 1)
  have bu := jal (by omega) h3 j
  have hWlt : W < 1000000000 * VV := by
   rw [jaX] at hW; omega
  have hkn := kn_of (B := 1000000000) (p := p) (j := j) (u := u) (v := vs) (W := W) (V := VV) (by omega) h3 hdV hVl hvV hW (by rw [show j + (p + 2) + 1 = j + 1 + (p + 2) by omega]; exact h6) (by omega) hWlt
  have hVpos := hkn.vpos
  have hW0 : 0 ≤ W := by rw [← hW]; exact jam (jbj h3 j)
  have b1 := jal (by omega) h3 (j + (p + 2))
  have b2 := jal (by omega) h3 (j + (p + 1))
  have b3 := jal (by omega) h3 (j + p)
  have b4 := jal (by omega) hdV p
  generalize hg1 : u.getD (j + (p + 2)) 0 = un at *
  generalize hg2 : u.getD (j + (p + 1)) 0 = u1 at *
  generalize hg3 : u.getD (j + p) 0 = u0 at *
  generalize hg4 : vs.getD (p + 1) 0 = vt at *
  generalize hg5 : vs.getD p 0 = v2 at *
  refine V.r0 (V.a7 jhh f1 f2 f4 f5 f6 f7) ?_
  refine .inl ?_
  (conv => whnf)
  refine ⟨0, _, _, ⟨Tryz.func197, rfl, rfl, jhy rfl⟩, ?_⟩
  (conv => whnf)
  (conv => whnf)
  (try simp only [jhh, f1, f2, f4, f5, f6, f7, hVl, hg4])
  repeat ((first | refine V.s1 ?_); (try simp only [jhh, f1, f2, f4, f5, f6, f7, hVl, hg4]))
  refine ⟨(.take 0 (.take 1 (.take 2 (.take 3 (.take 4 (.take 5 (.take 6 (.take 7 (.take 8 (.take 9 (.take 10 (.take 11 (.take 12 (.take 13 (.done))))))))))))))), [], ⟨by kernel_rfl, by kernel_rfl, by kernel_rfl, by kernel_rfl⟩, .go (jag ?_)⟩
  (conv => whnf)
  (try simp only [jhh, f1, f2, f4, f5, f6, f7, hVl, hg1, hg2])
  repeat ((first | refine V.s1 ?_); (try simp only [jhh, f1, f2, f4, f5, f6, f7, hVl, hg1, hg2]))
  refine ⟨(.take 0 (.take 1 (.take 2 (.take 3 (.take 4 (.take 5 (.take 6 (.take 7 (.done))))))))), [], ⟨by kernel_rfl, by kernel_rfl, by kernel_rfl, by kernel_rfl⟩, .go (jag ?_)⟩
  (conv => whnf)
  (try simp only [jhh, f1, f2, f4, f5, f6, f7, hVl, hg1, hg2])
  repeat ((first | refine V.s1 ?_); (try simp only [jhh, f1, f2, f4, f5, f6, f7, hVl, hg1, hg2]))
  have hkn' : Kn 1000000000 vt v2 (val 1000000000 (vs.take p)) u0 (val 1000000000 ((u.drop j).take p)) (un * 1000000000 + u1) W VV (((1000000000 : Nat) : Int) ^ p) := hkn
  have hQ0 : 0 ≤ W / VV := Int.ediv_nonneg hW0 (by omega)
  have hQm : W / VV * VV ≤ W := Int.ediv_mul_le _ (by omega)
  have hQi := hkn'.init hQ0 hQm
  have hhd : 0 ≤ un * 1000000000 + u1 ∧ un * 1000000000 + u1 < 1000000000000000000 := by omega
  generalize hHD : un * 1000000000 + u1 = HD at *
  refine jgL (β := Int × Int) 0 (fun y => 0 ≤ y.1 ∧ y.1 < 1000000000 ∧ (y.1 - 1) * VV ≤ W ∧ W / VV ≤ y.1) (fun y => [(8, .int .u64 y.1), (9, .int .u64 y.2)]) (fun _ => []) ?_ ?_
  ·refine jah ((HD / vt, HD % vt) : Int × Int) (fun y => HD = y.1 * vt + y.2 ∧ (0 ≤ y.2 ∧ y.2 < 1000000000) ∧ W / VV ≤ y.1) (fun y => y.1.toNat) (fun y => [(8, .int .u64 y.1), (9, .int .u64 y.2)]) (fun _ => []) ?_ ?_ ?_
   ·exact V.wk
   ·have hvtp : (0 : Int) < vt := by omega
    refine ⟨by dsimp only; have := jhA HD vt; rw [jhO]; omega, ⟨Int.emod_nonneg _ (by omega), ?_⟩, hQi⟩
    have := jhU HD hvtp
    dsimp only; omega
   rintro ⟨qq, r⟩ ⟨i1, i2, i3⟩
   dsimp only at i1 i2 i3 ⊢
   have hqv : qq < 1000000000 → 0 ≤ qq * v2 ∧ qq * v2 ≤ 999999999 * 999999999 := fun h => ⟨jhB (by omega) (by omega), Int.mul_le_mul (by omega) (by omega) (by omega) (by omega)⟩
   refine V.r0 (V.a8 jhh f1 f2 f4 f5 f6 f7 hVl) ?_
   refine ⟨(.take 0 (.take 1 (.take 2 (.take 3 (.take 4 (.take 5 (.take 6 (.take 7 (.take 8 (.take 9 (.take 10 (.take 11 (.take 12 (.take 13 (.take 14 (.take 15 (.take 16 (.take 17 (.take 18 (.take 19 (.take 20 (.take 21 (.done))))))))))))))))))))))), [], ⟨by kernel_rfl, by kernel_rfl, by kernel_rfl, by kernel_rfl⟩, .go (jag ?_)⟩
   (conv => whnf)
   (try simp only [jhh, f1, f2, f4, f5, f6, f7, hVl, hg5, hg3])
   repeat ((first | refine V.s1 ?_); (try simp only [jhh, f1, f2, f4, f5, f6, f7, hVl, hg5, hg3]))
   refine Or.inl (And.intro (fun h _ _ => ?_) ?_)
   ·have h9 := hqv (by simpa using h)
    exact ⟨by simp only [V.lo]; omega, by simp only [V.hi]; omega⟩
   (conv => whnf)
   (try simp only [jhh, f1, f2, f4, f5, f6, f7, hVl, hg5, hg3])
   repeat ((first | refine V.s1 ?_); (try simp only [jhh, f1, f2, f4, f5, f6, f7, hVl, hg5, hg3]))
   refine Cnd.split (CondB.mk (fun hq5 => ?_) (fun hq5 => ?_))
   ·rw [Bool.or_eq_true, decide_eq_true_eq, decide_eq_true_eq] at hq5
    have hst := hkn'.step hQ0 hQm i3 i1 (by omega)
    have hqpos : 1 ≤ qq := by omega
    have hrec : HD = (qq - 1) * vt + (r + vt) := by rw [Int.sub_mul, jhY]; omega
    refine V.r0 (V.a8 jhh f1 f2 f4 f5 f6 f7 hVl) ?_
    refine Cnd.split (CondB.mk (fun hq6 => ?_) (fun hq6 => ?_))
    ·rw [decide_eq_true_eq] at hq6
     have ho := hkn'.out2 (q := qq - 1) (r := r + vt) (by omega) hrec hq6
     refine V.r0 (V.a8 jhh f1 f2 f4 f5 f6 f7 hVl) ?_
     exact ⟨(qq - 1, r + vt), ⟨by dsimp only; omega, ho.1, ho.2, hst⟩, V.wk⟩
    ·rw [decide_eq_false_iff_not] at hq6
     refine V.r0 (V.a8 jhh f1 f2 f4 f5 f6 f7 hVl) ?_
     exact ⟨(qq - 1, r + vt), ⟨hrec, by dsimp only; omega, hst⟩, by dsimp only; omega, V.wk⟩
   ·rw [Bool.or_eq_false_iff, decide_eq_false_iff_not, decide_eq_false_iff_not] at hq5
    have ho := hkn'.out1 (q := qq) (r := r) (by omega) i1 (by omega) (by omega)
    refine V.r0 (V.a8 jhh f1 f2 f4 f5 f6 f7 hVl) ?_
    exact ⟨(qq, r), ⟨by dsimp only; omega, by dsimp only; omega, ho, i3⟩, V.wk⟩
  ·rintro ⟨qq, r⟩ ⟨i1, i2, i3, i4⟩
   dsimp only at i1 i2 i3 i4 ⊢
   refine V.r0 (V.a8 jhh f1 f2 f4 f5 f6 f7 hVl) ?_
   have hAl : (u.take j).length = j := by rw [List.length_take]; omega
   have hnl : u.take j ++ [] ++ u.drop (j + 0) = u := by rw [List.append_nil, Nat.add_zero, List.take_append_drop]
   refine jah ((0, [], 0, 0) : Nat × List Int × Int × Int) (fun y => y.1 ≤ p + 2 ∧ y.2.1.length = y.1 ∧ Dg 1000000000 y.2.1 ∧ (0 ≤ y.2.2.1 ∧ y.2.2.1 < 1000000000) ∧ (0 ≤ y.2.2.2 ∧ y.2.2.2 ≤ 1) ∧ val 1000000000 y.2.1 - (y.2.2.1 + y.2.2.2) * ((1000000000 : Nat) : Int) ^ y.1 = val 1000000000 ((u.drop j).take y.1) - qq * val 1000000000 (vs.take y.1)) (fun y => p + 2 - y.1)
    (fun y => [(77, .int .i64 y.1), (10, .int .u64 y.2.2.1), (11, .int .i64 y.2.2.2)]) (fun y => [(48, .arr .u32 (u.take j ++ y.2.1 ++ u.drop (j + y.1)))]) ?_ ?_ ?_
   ·rw [hnl]
    exact V.wk
   ·exact ⟨jhz _, rfl, fun x hx => by simp at hx, by simp, by simp, by simp [val]⟩
   rintro ⟨i, mid, c, bw⟩ ⟨g1, g2, g3, g4, g5, g6⟩
   dsimp only at g1 g2 g3 g4 g5 g6 ⊢
   have hvu := jai 1000000000 (u.drop j) i
   have hvv := jai 1000000000 vs i
   rw [getD_drop] at hvu
   have bd := jal (by omega) hdV i
   have bui := jal (by omega) h3 (j + i)
   have hcl : (u.take j ++ mid ++ u.drop (j + i)).length = N := by
    rw [List.length_append, List.length_append, hAl, g2, List.length_drop]; omega
   have hcg := mid_get (u := u) (A := u.take j) (mid := mid) (k := j + i) (by omega)
   refine V.r0 (V.a8 jhh f1 f2 f4 f5 f6 f7 hVl) ?_
   refine Cnd.split (CondB.mk (fun hw => ?_) (fun hw => ?_))
   ·rw [decide_eq_true_eq] at hw
    have hms2 := fun r => jfx (u := u) (A := u.take j) (mid := mid) (k := j + i) (r := r) (by omega) (by omega)
    generalize hd0 : vs.getD i 0 = d at *
    generalize hui : u.getD (j + i) 0 = ui at *
    have hqd : 0 ≤ qq * d ∧ qq * d ≤ 999999999 * 999999999 := ⟨jhB (by omega) (by omega), Int.mul_le_mul (by omega) (by omega) (by omega) (by omega)⟩
    have hki : ((i : Int) + 1) = ((i + 1 : Nat) : Int) := by omega
    have hai : j + i + 1 = j + (i + 1) := by omega
    generalize hqd0 : qq * d = qd at *
    (conv => whnf)
    (try simp only [jhh, f1, f2, f4, f5, f6, f7, hVl, hd0, hcg, hki, hqd0])
    repeat ((first | refine V.s1 ?_); (try simp only [jhh, f1, f2, f4, f5, f6, f7, hVl, hd0, hcg, hki, hqd0]))
    refine Cnd.split (CondB.mk (fun hneg => ?_) (fun hneg => ?_))
    ·rw [decide_eq_true_eq] at hneg
     have hst := red_step (B := 1000000000) (q := qq) (d := d) (u := ui) (r := ui - bw - (c + qd) % 1000000000 + 1000000000) (c' := (c + qd) / 1000000000) (b' := 1) g2 g6 (by rw [hqd0]; have := jhA (c + qd) 1000000000; omega)
     rw [← hvu, ← hvv] at hst
     (conv => whnf)
     (try simp only [jhh, f1, f2, f4, f5, f6, f7, hVl, hd0, hcg, hki, hms2, hai])
     repeat ((first | refine V.s1 ?_); (try simp only [jhh, f1, f2, f4, f5, f6, f7, hVl, hd0, hcg, hki, hms2, hai]))
     exact ⟨(i + 1, mid ++ [ui - bw - (c + qd) % 1000000000 + 1000000000], (c + qd) / 1000000000, 1), ⟨by dsimp only; omega, by simp [g2], jaj g3 (jas (by omega)), by dsimp only; omega, by simp, hst⟩, by dsimp only; omega, V.wk⟩
    ·rw [decide_eq_false_iff_not] at hneg
     have hst := red_step (B := 1000000000) (q := qq) (d := d) (u := ui) (r := ui - bw - (c + qd) % 1000000000) (c' := (c + qd) / 1000000000) (b' := 0) g2 g6 (by rw [hqd0]; have := jhA (c + qd) 1000000000; omega)
     rw [← hvu, ← hvv] at hst
     (conv => whnf)
     (try simp only [jhh, f1, f2, f4, f5, f6, f7, hVl, hd0, hcg, hki, hms2, hai])
     repeat ((first | refine V.s1 ?_); (try simp only [jhh, f1, f2, f4, f5, f6, f7, hVl, hd0, hcg, hki, hms2, hai]))
     exact ⟨(i + 1, mid ++ [ui - bw - (c + qd) % 1000000000], (c + qd) / 1000000000, 0), ⟨by dsimp only; omega, by simp [g2], jaj g3 (jas (by omega)), by dsimp only; omega, by simp, hst⟩, by dsimp only; omega, V.wk⟩
   ·rw [decide_eq_false_iff_not] at hw
    obtain rfl : i = p + 2 := by omega
    rw [hg1] at hcg
    (conv => whnf)
    (try simp only [jhh, f1, f2, f4, f5, f6, f7, hVl, hcg])
    repeat ((first | refine V.s1 ?_); (try simp only [jhh, f1, f2, f4, f5, f6, f7, hVl, hcg]))
    have h6' : val 1000000000 (u.drop (j + (p + 2) + 1)) = 0 := by rw [show j + (p + 2) + 1 = j + 1 + (p + 2) by omega]; exact h6
    have hWs : W = val 1000000000 ((u.drop j).take (p + 2)) + un * ((1000000000 : Nat) : Int) ^ (p + 2) := by
     have k1 := jbB 1000000000 (u.drop j) (p + 2) (by rw [List.length_drop]; omega)
     rw [hW, List.drop_drop, jaX 1000000000 u (j + (p + 2)), h6', hg1, Int.mul_zero, jhV, jhO] at k1
     exact k1
    have hvsV : val 1000000000 (vs.take (p + 2)) = VV := by rw [← hVl, List.take_length, hvV]
    rw [hvsV] at g6
    have hPn : (0 : Int) < ((1000000000 : Nat) : Int) ^ (p + 2) := jdM (by omega) _
    have hVP : VV ≤ ((1000000000 : Nat) : Int) ^ (p + 2) := by
     have k1 : ((b * s : Nat) : Int) < ((1000000000 ^ (p + 2) : Nat) : Int) := by exact_mod_cast hVlt
     rw [jhW] at k1
     omega
    have hm0 := jam g3
    have hm1 := jbV g3
    rw [g2] at hm1
    have hsetz := jfx (u := u) (A := u.take j) (mid := mid) (k := j + (p + 2)) (r := 0) (by omega) (by omega)
    refine Cnd.split (CondB.mk (fun hc2 => ?_) (fun hc2 => ?_))
    ·rw [decide_eq_true_eq] at hc2
     have hq1 : 1 ≤ qq := by
      rcases Int.lt_or_le qq 1 with k0 | k0
      ·obtain rfl : qq = 0 := by omega
       exfalso
       rw [Int.zero_mul, Int.sub_zero] at g6
       have k3 : 0 ≤ val 1000000000 ((u.drop j).take (p + 2)) := jam (jbc (jbj h3 j) _)
       rcases Int.lt_or_le 0 (c + bw) with k4 | k4
       ·have k5 : 1 * ((1000000000 : Nat) : Int) ^ (p + 2) ≤ (c + bw) * ((1000000000 : Nat) : Int) ^ (p + 2) := jhI (by omega) (by omega)
        omega
       ·omega
      ·exact k0
     have hml : (u.take j ++ mid ++ u.drop (j + (p + 2))).length = N := by
      rw [List.length_append, List.length_append, hAl, g2, List.length_drop]; omega
     obtain ⟨w, hw1⟩ : ∃ w, w = u.take j ++ mid ++ u.drop (j + (p + 2)) := ⟨_, rfl⟩
     have hwd : w.drop (j + (p + 2)) = u.drop (j + (p + 2)) := by rw [hw1]; exact mid_drop (by omega)
     have hwg : ∀ i, i < p + 2 → w.getD (j + i) 0 = mid.getD i 0 := fun i hi => by
      rw [hw1, List.append_assoc, List.getD_eq_getElem?_getD, List.getElem?_append_right (by omega), hAl, Nat.add_sub_cancel_left, List.getElem?_append_left (by omega), List.getD_eq_getElem?_getD]
     have hnl2 : u.take j ++ [] ++ w.drop (j + 0) = w := by
      have : u.take j = w.take j := by rw [hw1, List.append_assoc, List.take_append_of_le_length (by omega), List.take_take, Nat.min_self]
      rw [this, List.append_nil, Nat.add_zero, List.take_append_drop]
     rw [← hw1] at hml
     simp only [← hw1]
     refine V.r0 (V.a8 jhh f1 f2 f4 f5 f6 f7 hVl) ?_
     refine jah ((0, [], 0) : Nat × List Int × Int) (fun y => y.1 ≤ p + 2 ∧ y.2.1.length = y.1 ∧ Dg 1000000000 y.2.1 ∧ (0 ≤ y.2.2 ∧ y.2.2 ≤ 1) ∧ val 1000000000 y.2.1 + y.2.2 * ((1000000000 : Nat) : Int) ^ y.1 = val 1000000000 (mid.take y.1) + val 1000000000 (vs.take y.1)) (fun y => p + 2 - y.1)
      (fun y => [(125, .int .i64 y.1), (15, .int .u32 y.2.2)]) (fun y => [(48, .arr .u32 (u.take j ++ y.2.1 ++ w.drop (j + y.1)))]) ?_ ?_ ?_
     ·rw [hnl2]
      exact V.wk
     ·exact ⟨jhz _, rfl, fun x hx => by simp at hx, by simp, by simp [val]⟩
     rintro ⟨i, m2, ov⟩ ⟨k1, k2, k3, k4, k5⟩
     dsimp only at k1 k2 k3 k4 k5 ⊢
     have hvm := jai 1000000000 mid i
     have hvv2 := jai 1000000000 vs i
     have bd := jal (by omega) hdV i
     have bmi := jal (by omega) g3 i
     have hcg2 := mid_get (u := w) (A := u.take j) (mid := m2) (k := j + i) (by omega)
     have hcl2 : (u.take j ++ m2 ++ w.drop (j + i)).length = N := by
      rw [List.length_append, List.length_append, hAl, k2, List.length_drop]; omega
     refine V.r0 (V.a8 jhh f1 f2 f4 f5 f6 f7 hVl) ?_
     refine Cnd.split (CondB.mk (fun hw2 => ?_) (fun hw2 => ?_))
     ·rw [decide_eq_true_eq] at hw2
      have hms3 := fun r => jfx (u := w) (A := u.take j) (mid := m2) (k := j + i) (r := r) (by omega) (by omega)
      rw [hwg i (by omega)] at hcg2
      generalize hd0 : vs.getD i 0 = d at *
      generalize hmi : mid.getD i 0 = mi at *
      have hki : ((i : Int) + 1) = ((i + 1 : Nat) : Int) := by omega
      have hai : j + i + 1 = j + (i + 1) := by omega
      (conv => whnf)
      (try simp only [jhh, f1, f2, f4, f5, f6, f7, hVl, hd0, hcg2, hki])
      repeat ((first | refine V.s1 ?_); (try simp only [jhh, f1, f2, f4, f5, f6, f7, hVl, hd0, hcg2, hki]))
      refine Cnd.split (CondB.mk (fun hge => ?_) (fun hge => ?_))
      ·rw [decide_eq_true_eq] at hge
       have hst := jaw (B := 1000000000) (x := mi) (y := d) (d := mi + d + ov - 1000000000) (c' := 1) k2 k5 (by omega)
       rw [← hvm, ← hvv2] at hst
       (conv => whnf)
       (try simp only [jhh, f1, f2, f4, f5, f6, f7, hVl, hki, hms3, hai])
       repeat ((first | refine V.s1 ?_); (try simp only [jhh, f1, f2, f4, f5, f6, f7, hVl, hki, hms3, hai]))
       exact ⟨(i + 1, m2 ++ [mi + d + ov - 1000000000], 1), ⟨by dsimp only; omega, by simp [k2], jaj k3 (jas (by omega)), by simp, hst⟩, by dsimp only; omega, V.wk⟩
      ·rw [decide_eq_false_iff_not] at hge
       have hst := jaw (B := 1000000000) (x := mi) (y := d) (d := mi + d + ov) (c' := 0) k2 k5 (by omega)
       rw [← hvm, ← hvv2] at hst
       (conv => whnf)
       (try simp only [jhh, f1, f2, f4, f5, f6, f7, hVl, hki, hms3, hai])
       repeat ((first | refine V.s1 ?_); (try simp only [jhh, f1, f2, f4, f5, f6, f7, hVl, hki, hms3, hai]))
       exact ⟨(i + 1, m2 ++ [mi + d + ov], 0), ⟨by dsimp only; omega, by simp [k2], jaj k3 (jas (by omega)), by simp, hst⟩, by dsimp only; omega, V.wk⟩
     ·rw [decide_eq_false_iff_not] at hw2
      obtain rfl : i = p + 2 := by omega
      rw [hvsV, ← g2, List.take_length, g2] at k5
      have hn0 := jam k3
      have hn1 := jbV k3
      rw [k2] at hn1
      have hrb := red_b hPn hVpos hVP hWs g6 hm1 i3 (by omega) k5 hn0 hn1
      have hinv := div_inv (B := 1000000000) (p := p) (j := j) (u := u) (q := q) (mid := m2) (Qd := qq - 1) (M := ((a * s : Nat) : Int)) (by omega) (by omega) (by omega) k2 h3 k3 h6' hW hVpos hrb.2 hrb.1 h8
      have hsetz2 := jfx (u := u) (A := u.take j) (mid := m2) (k := j + (p + 2)) (r := 0) (by omega) (by omega)
      (conv => whnf)
      (try simp only [jhh, f1, f2, f4, f5, f6, f7, hVl, hwd, hsetz2])
      repeat ((first | refine V.s1 ?_); (try simp only [jhh, f1, f2, f4, f5, f6, f7, hVl, hwd, hsetz2]))
      exact ⟨(j, u.take j ++ (m2 ++ [0]) ++ u.drop (j + (p + 2) + 1), q.set j (qq - 1)), ⟨by dsimp only; omega, by dsimp only; rw [hinv.1]; exact h2, hinv.2.1, by dsimp only; rw [List.length_set]; exact h4, jdh h5 (by omega), hinv.2.2.1, by dsimp only; rw [hVV]; exact hinv.2.2.2.1, by dsimp only; rw [hVV]; exact hinv.2.2.2.2⟩, by dsimp only; omega, V.wk⟩
    ·rw [decide_eq_false_iff_not] at hc2
     have hra := red_a hPn hVpos hVP hWs g6 hm0 i4 (by omega)
     have hinv := div_inv (B := 1000000000) (p := p) (j := j) (u := u) (q := q) (mid := mid) (Qd := qq) (M := ((a * s : Nat) : Int)) (by omega) (by omega) (by omega) g2 h3 g3 h6' hW hVpos hra.2 hra.1 h8
     (conv => whnf)
     (try simp only [jhh, f1, f2, f4, f5, f6, f7, hVl, hsetz])
     repeat ((first | refine V.s1 ?_); (try simp only [jhh, f1, f2, f4, f5, f6, f7, hVl, hsetz]))
     exact ⟨(j, u.take j ++ (mid ++ [0]) ++ u.drop (j + (p + 2) + 1), q.set j qq), ⟨by dsimp only; omega, by dsimp only; rw [hinv.1]; exact h2, hinv.2.1, by dsimp only; rw [List.length_set]; exact h4, jdh h5 ⟨i1, i2⟩, hinv.2.2.1, by dsimp only; rw [hVV]; exact hinv.2.2.2.1, by dsimp only; rw [hVV]; exact hinv.2.2.2.2⟩, by dsimp only; omega, V.wk⟩
 ·rw [decide_eq_false_iff_not] at hq
  obtain rfl : k = 0 := by omega
  rw [List.drop_zero, Int.pow_zero, Int.mul_one] at h8
  rw [List.drop_zero] at h7
  rw [jhC] at h6
  have hvq := jam h5
  have hvu := jam h3
  obtain ⟨w, hw⟩ : ∃ w : Nat, val 1000000000 q = w := ⟨(val 1000000000 q).toNat, by omega⟩
  obtain ⟨z, hz⟩ : ∃ z : Nat, val 1000000000 u = z := ⟨(val 1000000000 u).toNat, by omega⟩
  rw [hw, hz, ← jhM, ← Int.natCast_add] at h8
  rw [hz] at h7
  have h8' : a * s = w * (b * s) + z := by exact_mod_cast h8
  have h7' : z < b * s := by exact_mod_cast h7
  have hbs : 0 < b * s := by omega
  have hdiv : a / b = w := by
   have k1 : a * s / (b * s) = a / b := Nat.mul_div_mul_right a b (by omega)
   rw [← k1, h8', Nat.add_comm, Nat.add_mul_div_right _ _ hbs, Nat.div_eq_of_lt h7', jhC]
  have hmod : z = a % b * s := by
   have k1 : a * s % (b * s) = a % b * s := Nat.mul_mod_mul_right s a b
   rw [← k1, h8', Nat.add_comm, Nat.add_mul_mod_self_right, jhH h7']
  have hzs : z / s = a % b := by rw [hmod, Nat.mul_div_cancel _ (by omega)]
  have hut : val 1000000000 (u.take (p + 2)) = z := by
   rw [jbB 1000000000 u (p + 2) (by omega), h6, Int.mul_zero, jhV] at hz
   exact hz
  have hzl := jax (B := 1000000000) (n := z) (k := p + 2) (by omega) (by omega)
  have hc1 := jeQ (u.take (p + 2)) (jbc h3 _) (by rw [List.length_take]; omega)
  rw [hut, jhD] at hc1
  have hc2 := short_c z s (by omega) (by omega) (by omega)
  rw [hzs] at hc2
  have hc3 := jeQ q h5 (by omega)
  rw [hw, jhD, ← List.take_length (l := q), h4] at hc3
  rw [hdiv]
  refine V.r3 (V.a2 hVl @jhD) hc1 hc2 hc3 ?_
  exact Fin.of rfl
theorem ja3 (a b : Nat) (hb0 : 0 < b) (ha : (mg 1000000000 a).length ≤ 90000000) (hb : (mg 1000000000 b).length ≤ 90000000) : Called Tryz.prog 166 [.ints .u32 (mg 1000000000 a), .ints .u32 (mg 1000000000 b)] (.tup [.ints .u32 (mg 1000000000 (a / b)), .ints .u32 (mg 1000000000 (a % b))]) := by
 rcases jhK a b with h | h
 ·exact jgY a b h (by omega) (by omega)
 ·rcases jhK b 1000000000 with h1 | h1
  ·exact divide_one a b h hb0 h1 (by omega)
  ·exact jgX a b h h1 ha
end Go.Proofs.YtgjgpdceghjajaaGreatDoor
end
section
namespace Go.Proofs.YtgjgpdceghjajaaGreatDoor
open Go Go.V Go.Nb Go.RowKit Go.Proofs
set_option maxHeartbeats 4000000
set_option maxRecDepth 1000000
theorem zero_k (n : Nat) (w : World) (hg : GlW w) (v : Value) (hv : Den Env.dummy (pubOf w) (.ints .u32 (mg 1000000000 n)) v) : Calls Tryz.prog 132 #[v] w fun e w' => e = .returned (.bool (decide (n = 0))) ∧ RowKit.Below w.heap.size w w' := by
 refine (jeH (jcW n) w hg (vs := [v]) ?_).mono ?_
 ·simp only [DenL]; exact ⟨_, _, rfl, hv, rfl⟩
 ·rintro e w' ⟨v, h', rfl, hv, hb⟩
  simp only [Den] at hv
  rw [hv]
  exact ⟨rfl, hb⟩
def cv : Nat → Int
 | 0 => -1
 | k + 1 => k
theorem cv_eq (m : Nat) : cv m = (m : Int) - 1 := by cases m <;> simp [cv]
theorem digits_w (n : Nat) (hn : 0 < n) (hl : (mg 1000000000 n).length ≤ 100000000) (w : World) (hg : GlW w) (hlt : GlLt w.heap.size) (v : Value) (hv : Den Env.dummy (pubOf w) (.ints .u32 (mg 1000000000 n)) v) :
  Calls Tryz.prog 155 #[v] w fun e w' => e = .returned (.string ⟨(dec n).toArray⟩) ∧ RowKit.Below w.heap.size w w' := by
 have hz := zero_k n w hg v hv
 have hdx := mg_dg (B := 1000000000) (by omega) n
 have hvx := jaD (B := 1000000000) (by omega) n
 have hlx := jdr (B := 1000000000) (n := n) (by omega)
 have hnil := jcr (B := 1000000000) (n := n) (by omega)
 generalize mg 1000000000 n = xs at *
 simp only [Den, jaK] at hv
 obtain ⟨a, cap, rfl, hcap, _, _, ha⟩ := hv
 obtain ⟨j, hj⟩ : ∃ j, xs.length = j + 1 := ⟨xs.length - 1, by
  have : xs ≠ [] := fun e => by have := hnil.1 e; omega
  have := List.length_pos_iff.2 this
  omega⟩
 obtain ⟨ad, rfl⟩ : ∃ ad, a = some ad := by
  cases a with
  | none => obtain ⟨h1, _⟩ := ha; rw [h1] at hj; simp at hj
  | some ad => exact ⟨ad, rfl⟩
 obtain ⟨blk, off, spot⟩ := ad
 simp only at ha
 obtain ⟨rfl, hcell⟩ := ha
 have hne : decide (n = 0) = false := decide_eq_false (by omega)
 rw [hne] at hz
 have hc0 : ∀ i, i < xs.length → w.cell? ⟨blk, off + i, none⟩ = some (.int .u32 (xs.getD i 0)) := fun i hi => by
  have := hcell i (xs.getD i 0) (by rw [List.getD_eq_getElem?_getD, List.getElem?_eq_getElem hi]; rfl)
  exact this
 have hblk : blk < w.heap.size := by
  have := hc0 0 (by omega)
  rcases jhK blk w.heap.size with h | h
  ·exact h
  ·simp [World.cell?, Array.getElem?_eq_none h] at this
 clear hcell
 rw [hj] at hz ⊢
 go_enter Tryz.func155, Tryz.ntmps155
 go_wp2_with (go_at_call 132; refine hz.mono ?_)
 rintro e w1 ⟨rfl, hb1⟩
 have hs1 := hb1.size
 have hc1 : (w1.alloc (.cells #[.pointer none, .slice none 0 0] 259)).cell? ⟨blk, off + j, none⟩ = some (.int .u32 (xs.getD j 0)) := by
  have h1 := hb1.alloc (o := .cells #[.pointer none, .slice none 0 0] 259) (by omega)
  rw [h1.cell (by exact hblk)]
  exact hc0 j (by omega)
 have hI0 := Lib.IsBuilderF.of (Lib.fresh_isBuilder 259 5 w1)
 have hgl1 : GlW (w1.alloc (.cells #[.pointer none, .slice none 0 0] 259)) := jf7 hg (hb1.alloc (by omega) _) hlt
 have hlt1 : GlLt w1.heap.size := ⟨fun g vs h => by have := hlt.1 g vs h; omega, fun g h => by have := hlt.2 g h; omega⟩
 have bx := jal (by omega) hdx j
 have hx1 : xs.getD j 0 ≠ 0 := by
  refine hlx _ ?_
  rw [List.getLast?_eq_getElem?, hj, List.getD_eq_getElem?_getD, show j + 1 - 1 = j by omega, List.getElem?_eq_getElem (by omega)]; rfl
 have hvj : val 1000000000 (xs.drop j) = xs.getD j 0 := by rw [jaX, show xs.drop (j + 1) = [] from List.drop_eq_nil_of_le (by omega)]; simp [val]
 obtain ⟨g, hgx⟩ : ∃ g : Nat, xs.getD j 0 = g := ⟨(xs.getD j 0).toNat, by omega⟩
 rw [hgx] at bx hx1 hvj hc1
 have hput := put_k w1.heap.size w1.heap.size [] g 0 (w1.alloc (.cells #[.pointer none, .slice none 0 0] 259)) hgl1 hlt1 (by simp) hI0 (by omega) (by omega) (by simp)
 have e0 : List.replicate ((0 : Int).toNat - (dec g).length) (48 : UInt8) = [] := by simp
 rw [e0, List.append_nil, List.nil_append] at hput
 clear hz hI0
 go_wp2_with (go_at_call 186; refine hput.mono ?_)
 rintro e w2 ⟨rfl, hI2, hb2⟩
 have hbw2 : RowKit.Below w.heap.size w w2 := (hb1.alloc (by omega) _).trans (hb2.mono hs1)
 have hs2 : w1.heap.size + 1 ≤ w2.heap.size := by have := hb2.size; simpa using this
 have hd0 : dec g = dec (val 1000000000 (xs.drop j)).toNat := by rw [hvj, jhD]
 rw [hd0] at hI2
 clear hput hd0
 go_wp2
 go_loopw [6] (fun i wr => ∃ m : Nat, m ≤ j ∧ i = .int .i64 (cv m) ∧ Lib.IsBuilderF 259 5 w1.heap.size w1.heap.size (Lib.byteCells (dec (val 1000000000 (xs.drop m)).toNat)) wr ∧ RowKit.Below w1.heap.size w2 wr) (fun i _ => (intOf i + 1).toNat)
 case atStart => exact ⟨j, jhE _, by rw [cv_eq], hI2, Below.refl _ _⟩
 case round =>
  obtain ⟨m, hm, rfl, hI, hbr⟩ := hrel
  have hsr := hbr.size
  have hbw : RowKit.Below w.heap.size w wr := hbw2.trans (hbr.mono hs1)
  rcases m with _ | m
  ·rw [List.drop_zero, hvx, jhD] at hI
   simp only [cv]
   go_wp2_with (go_at_call 189; refine (Tryz.Builder_String_any_k w1.heap.size w1.heap.size (dec n) _ hI (by omega)).mono ?_)
   intros
   rename_i e W1 h2
   obtain ⟨rfl, _, b2, _⟩ := h2
   go_wp2
   go_ret
   exact ⟨rfl, hbw.trans (b2.mono hs1)⟩
  ·simp only [cv]
   have bm := jal (by omega) hdx m
   have hcm : wr.cell? ⟨blk, off + m, none⟩ = some (.int .u32 (xs.getD m 0)) := by
    rw [hbw.cell (by exact hblk)]; exact hc0 m (by omega)
   obtain ⟨y, hy⟩ : ∃ y : Nat, xs.getD m 0 = y := ⟨(xs.getD m 0).toNat, by omega⟩
   have hvm := jbI (B := 1000000000) (l := xs) (k := m) (by omega)
   have hv0 := jam (jbj hdx (m + 1))
   have hvp : 0 < val 1000000000 (xs.drop (m + 1)) := by
    have h1 := jbB 1000000000 (xs.drop (m + 1)) (j - (m + 1)) (by rw [List.length_drop]; omega)
    rw [List.drop_drop, show m + 1 + (j - (m + 1)) = j by omega, hvj] at h1
    have h2 := jam (jbc (jbj hdx (m + 1)) (j - (m + 1)))
    have h3 : (0 : Int) < ((1000000000 : Nat) : Int) ^ (j - (m + 1)) * g := Int.mul_pos (jdM (by omega) _) (by omega)
    omega
   rw [hy] at bm hcm hvm
   obtain ⟨u, hu⟩ : ∃ u : Nat, val 1000000000 (xs.drop (m + 1)) = u := ⟨(val 1000000000 (xs.drop (m + 1))).toNat, by omega⟩
   rw [hu, jhD] at hI
   have hdp := jg3 (a := u) (by omega) 9 y (by omega)
   have hpd := jbg 9 y (by omega) (by omega)
   have hnew : (val 1000000000 (xs.drop m)).toNat = u * 10 ^ 9 + y := by rw [hvm, hu]; omega
   rw [hpd.2, ← hnew, ← List.append_assoc] at hdp
   have hdlen : (dec u).length ≤ 1000000000000 := by
    have h1 : u < 10 ^ (9 * (j + 1)) := by
     have h2 := jbV (jbj hdx (m + 1))
     rw [hu, List.length_drop, hj] at h2
     have h3 : (1000000000 : Nat) ^ (j + 1 - (m + 1)) ≤ 1000000000 ^ (j + 1) := jhS (by omega) (by omega)
     rw [← jhW] at h2
     rw [Nat.pow_mul]
     have h4 : u < 1000000000 ^ (j + 1 - (m + 1)) := by exact_mod_cast h2
     exact jhJ h4 h3
    have := (jbg (9 * (j + 1)) u (by omega) h1).1
    omega
   have hput := put_k w1.heap.size w1.heap.size (dec u) y 9 wr (jf7 hg hbw hlt) hlt1 (by omega) hI (by omega) (by omega) hdlen
   rw [show (9 : Int).toNat = 9 from rfl, ← hdp] at hput
   clear hdp hpd hnew hdlen hu hvm hvp hv0
   go_wp2_with (go_at_call 186; refine hput.mono ?_)
   intros
   rename_i e W1 h2
   obtain ⟨rfl, hI3, b2⟩ := h2
   go_wp2
   go_roundw
   case rel => exact ⟨m, by omega, by (have h := cv_eq m; show Value.int .i64 ((m : Int) - 1) = Value.int .i64 (cv m); rw [h]), hI3, hbr.trans b2⟩
   case measure => simp [intOf]
theorem jgZ : Called Tryz.prog 155 [.ints .u32 (mg 1000000000 0)] (.str (dec 0)) := by
 have hz := jcW 0
 refine jaa tbOk 6 ⟨Tryz.func155, rfl, rfl, jhy rfl⟩ ?_
 (conv => whnf)
 refine V.st ?_
 repeat ((try ((with_reducible refine .ext ?_); (conv => whnf))); (with_reducible refine jab (r := ?_) ?_ ?_); rotate_left; (focus (first | exact (hz))); (conv => whnf); refine V.st ?_)
 exact Fin.of rfl
theorem digits_c (n : Nat) (hl : (mg 1000000000 n).length ≤ 100000000) : Called Tryz.prog 155 [.ints .u32 (mg 1000000000 n)] (.str (dec n)) := by
 rcases jhF n with h0 | h0
 ·subst h0; exact jgZ
 refine jaS Tryz.func155 rfl rfl rfl fun w hp vs ha hd => ?_
 simp only [DenL] at hd
 obtain ⟨v, _, rfl, hv, rfl⟩ := hd
 have hle : hp.Le (pubOf w) := fun b o v h => ha.cells b o v h
 refine (digits_w n h0 hl w ha.blk (glLt ha.blk) v (Den.mono hle hv)).mono fun e w' ⟨he, hw⟩ => ⟨⟨_, he, fun hp => ?_⟩, hw⟩
 ·simp only [Den]
  refine ⟨trivial, ?_⟩
  have h2 := jaG (B := 1000000000) (n := n) (by omega)
  generalize (mg 1000000000 n).length = l at *
  have h1 : n < 10 ^ (9 * (l + 1)) := by
   rw [Nat.pow_mul]
   exact jhJ h2 (jhS (by omega) (by omega))
  have := (jbg (9 * (l + 1)) n (by omega) h1).1
  omega
end Go.Proofs.YtgjgpdceghjajaaGreatDoor
end
