/- What functions of the program answer at given values, part 16. Conditions: those that each theorem names. -/
import Derived.Test.YtgjgpdceghjajaaGreatDoorSimplexRefinedH15
import Derived.Test.YtgjgpdceghjajaaGreatDoorSimplexRefinedH13
set_option linter.unusedSimpArgs false
set_option linter.unusedVariables false
set_option maxHeartbeats 8000000
set_option maxRecDepth 100000
section
namespace Go.Proofs.YtgjgpdceghjajaaGreatDoor
open Go Go.V Go.Nb
theorem wtrim_c (xs : List Int) (hd : Dg 1000000000 xs) (hl : xs.length ≤ 281474976710656) : Called Tryz.prog 213 [.ints .u32 xs] (.ints .u32 (mg 1000000000 (val 1000000000 xs).toNat)) := by
 refine V.en tbOk Tryz.func213 ?_
 (conv => whnf)
 refine V.st ?_
 refine jac (xs.length) (fun k => k ≤ xs.length ∧ val 1000000000 (xs.take k) = val 1000000000 xs) (fun k => k) (fun k => [(0, .ints .u32 (xs.take k))]) (fun k => []) ?_ ?_ ?_
 ·rw [jja]
  exact V.wk
 ·exact ⟨jii _, by rw [jja]⟩
 intro k hk
 have hlt : (xs.take k).length = k := by rw [jiQ]; omega
 refine V.r0 hlt ?_
 refine V.br (fun hq => ?_) (fun hq => ?_)
 ·rw [jh9, decide_eq_true_eq, decide_eq_true_eq] at hq
  have hk0 : 0 < k := by omega
  obtain ⟨j, rfl⟩ : ∃ j, k = j + 1 := ⟨k - 1, by omega⟩
  obtain ⟨x, hx, ex⟩ := getxn (xs := xs) (k := j) (by omega)
  have e1 : ((((j + 1 : Nat) : Int) - 1).toNat) = j := by omega
  have e2 : (((j + 1 : Nat) : Int) - 1) = (j : Int) := by omega
  have e3 : (xs.take (j + 1)).getD j 0 = x := by
   rw [jiJ, ji8 (by omega), hx]; rfl
  have e4 : (xs.take (j + 1)).take j = xs.take j := by rw [List.take_take, Nat.min_eq_left (by omega)]
  rw [e1, e3] at hq
  rw [hq.2] at hx
  refine V.r0 (V.a4 e2 hlt @jih e4) ?_
  exact ⟨j, ⟨by omega, by rw [← hk.2, jcc hx]⟩, by omega, V.wk⟩
 ·have h3 : k = 0 ∨ ∃ x, xs[k - 1]? = some x ∧ x ≠ 0 := by
   rcases jij k with e | e
   ·exact .inl e
   ·refine .inr ?_
    obtain ⟨x, hx, ex⟩ := getxn (xs := xs) (k := (k - 1)) (by omega)
    refine ⟨x, hx, fun e0 => ?_⟩
    have e1 : (((k : Nat) : Int) - 1).toNat = k - 1 := by omega
    have e3 : (xs.take k).getD (k - 1) 0 = x := by
     rw [jiJ, ji8 (by omega), hx]; rfl
    rw [e1, e3, e0] at hq
    simp at hq
    omega
  (conv => whnf)
  refine V.st ?_
  exact Fin.of (by rw [jgY (by omega) hd hk.2 hk.1 h3])
theorem rdv_snoc (s : List UInt8) (c : UInt8) : rdv (s ++ [c]) = rdv s * 10 + (c.toNat - 48) := by
 rw [jbb, jdK]; simp
theorem jcU {s : List UInt8} {a i : Nat} (ha : a ≤ i) (hi : i < s.length) : (s.take (i + 1)).drop a = (s.take i).drop a ++ [s.getD i 0] := by
 rw [ji9, jiM hi, jiX (by rw [jiQ]; omega)]
 simp [jiJ, hi]
theorem jfo {s : List UInt8} {a e : Nat} (ha : a ≤ e) (he : e ≤ s.length) : s.take e = s.take a ++ (s.take e).drop a := by
 conv => lhs; rw [← List.take_append_drop a (s.take e)]
 rw [List.take_take, Nat.min_eq_left ha]
theorem gather_c (s : List UInt8) (hd : ∀ c ∈ s, isDig c = true) (hl : s.length ≤ 100000000) : Called Tryz.prog 177 [.str s] (.ints .u32 (mg 1000000000 (rdv s))) := by
 refine V.en tbOk Tryz.func177 ?_
 (conv => whnf)
 refine V.st ?_
 refine Lp.ghostSlot 32 3 .u32 (by decide) ?_
 (conv => whnf)
 refine jac ((s.length, []) : Nat × List Int) (fun t => t.1 ≤ s.length ∧ t.2.length * 9 + t.1 = s.length ∧ Dg 1000000000 t.2 ∧ val 1000000000 t.2 + ((1000000000 : Nat) : Int) ^ t.2.length * (rdv (s.take t.1) : Nat) = (rdv s : Nat)) (fun t => t.1)
  (fun t => [(4, .int .i64 t.1), (3, .osl 32 0 t.2.length)]) (fun t => [(32, .arr .u32 t.2)]) ?_ ?_ ?_
 ·exact V.wk
 ·exact ⟨jii _, by simp, fun x hx => by simp at hx, by simp [val]⟩
 rintro ⟨e, m⟩ ⟨h1, h2, h3, h4⟩
 dsimp only at h1 h2 h3 h4 ⊢
 have hmax : max ((e : Int) - 9) 0 = ((e - 9 : Nat) : Int) := by omega
 refine V.r0 hmax ?_
 have hdig : ∀ i, i < s.length → 48 ≤ (s.getD i 0).toNat ∧ (s.getD i 0).toNat ≤ 57 := fun i hi => by
  have := hd (s.getD i 0) (by rw [jiJ, jiM hi]; exact jiN _)
  simpa [isDig] using this
 have hsub : ∀ i, ∀ c ∈ (s.take i).drop (e - 9), isDig c = true := fun i c hc => hd c (jiV (jiU hc))
 have hlt : ∀ i k, i ≤ s.length → i - (e - 9) ≤ k → rdv ((s.take i).drop (e - 9)) < 10 ^ k := fun i k hi hk => by
  have h5 := jfs (hsub i)
  rw [ji7, jiQ, Nat.min_eq_left hi] at h5
  exact jio h5 (jiy (by omega) hk)
 refine jac (e - 9 : Nat) (fun i => e - 9 ≤ i ∧ i ≤ e) (fun i => e - i) (fun i => [(7, .int .i64 i), (6, .int .u32 (rdv ((s.take i).drop (e - 9)) : Nat))]) (fun _ => []) ?_ ?_ ?_
 ·rw [show (s.take (e - 9)).drop (e - 9) = [] from ji0 (by rw [jiQ]; omega), show ((rdv [] : Nat) : Int) = 0 from rfl]
  exact V.wk
 ·exact ⟨jii _, by omega⟩
 intro i hi
 (conv => whnf)
 refine V.st ?_
 refine V.br (fun hq => ?_) (fun hq => ?_)
 ·rw [decide_eq_true_eq] at hq
  have hdi := hdig i (by omega)
  have hv := rdv_snoc ((s.take i).drop (e - 9)) (s.getD i 0)
  rw [← jcU hi.1 (by omega)] at hv
  have hb := hlt i 8 (by omega) (by omega)
  generalize hc : s.getD i 0 = c at *
  have hv2 : ((rdv ((s.take i).drop (e - 9)) : Nat) : Int) * 10 + ((c.toNat : Int) - 48) = ((rdv ((s.take (i + 1)).drop (e - 9)) : Nat) : Int) := by omega
  have hkc : ((i : Int) + 1) = ((i + 1 : Nat) : Int) := by omega
  refine V.r0 (V.a4 @jih hc hv2 hkc) ?_
  exact ⟨i + 1, by omega, by omega, V.wk⟩
 ·rw [decide_eq_false_iff_not] at hq
  obtain rfl : i = e := by omega
  have hb := hlt i 9 h1 (by omega)
  have hsp := jfo (s := s) (a := i - 9) (e := i) (by omega) h1
  have hra := jbb (s.take (i - 9)) ((s.take i).drop (i - 9))
  rw [← hsp, ji7, jiQ, Nat.min_eq_left h1] at hra
  generalize hv : rdv ((s.take i).drop (i - 9)) = v at *
  have hl2 : (m ++ [(v : Int)]).length = m.length + 1 := by simp
  have hl3 : m.length + (List.take 1 (List.drop 0 [(v : Int)])).length = (m ++ [(v : Int)]).length := by simp
  have hdg : Dg 1000000000 (m ++ [(v : Int)]) := jah h3 (jau (by omega))
  have hvs := jaQ 1000000000 m (v : Int)
  refine V.r0 hl3 ?_
  try refine And.intro (fun _ => ⟨trivial, by omega⟩) ?_
  refine V.r0 hl3 ?_
  refine V.br (fun hq2 => ?_) (fun hq2 => ?_)
  ·rw [decide_eq_true_eq] at hq2
   have e0 : i - 9 = 0 := by omega
   rw [e0] at hra
   have hz : rdv (s.take i) = v := by rw [hra]; simp [rdv]
   have hval : val 1000000000 (m ++ [(v : Int)]) = (rdv s : Nat) := by rw [hvs, ← hz]; exact h4
   have hc := jfm (m ++ [(v : Int)]) hdg (by omega)
   rw [hval, jih, ← jja (l := m ++ [(v : Int)])] at hc
   (conv => whnf)
   refine V.st ?_
   repeat ((try ((with_reducible refine .ext ?_); (conv => whnf))); (with_reducible refine jaa (r := ?_) ?_ ?_); rotate_left; (focus (first | exact (hc))); (conv => whnf); refine V.st ?_)
   exact Fin.of rfl
  ·rw [decide_eq_false_iff_not] at hq2
   have h9 : 10 ≤ i := by omega
   have ek : ((i : Int) - 9) = ((i - 9 : Nat) : Int) := by omega
   refine V.r0 ek ?_
   refine ⟨(i - 9, m ++ [(v : Int)]), ⟨by dsimp only; omega, by dsimp only; omega, hdg, ?_⟩, by dsimp only; omega, V.wk⟩
   dsimp only
   rw [hvs, hl2, Int.pow_succ, ← h4, hra, show i - (i - 9) = 9 by omega, Int.natCast_add, jis]
   generalize ((1000000000 : Nat) : Int) ^ m.length = P
   generalize (rdv (s.take (i - 9)) : Nat) = w
   have e1 : ((10 ^ 9 : Nat) : Int) = 1000000000 := by decide
   rw [e1, jit, jiv]
   rw [jiu (w : Int)]
   generalize (1000000000 : Int) * (w : Int) = Q
   omega
theorem wgather_c (s : List UInt8) (hd : ∀ c ∈ s, isDig c = true) (hl : s.length ≤ 100000000) : Called Tryz.prog 201 [.str s] (.ints .u32 (mg 1000000000 (rdv s))) := by
 refine V.en tbOk Tryz.func201 ?_
 (conv => whnf)
 refine V.st ?_
 refine Lp.ghostSlot 32 3 .u32 (by decide) ?_
 (conv => whnf)
 refine jac ((s.length, []) : Nat × List Int) (fun t => t.1 ≤ s.length ∧ t.2.length * 9 + t.1 = s.length ∧ Dg 1000000000 t.2 ∧ val 1000000000 t.2 + ((1000000000 : Nat) : Int) ^ t.2.length * (rdv (s.take t.1) : Nat) = (rdv s : Nat)) (fun t => t.1)
  (fun t => [(4, .int .i64 t.1), (3, .osl 32 0 t.2.length)]) (fun t => [(32, .arr .u32 t.2)]) ?_ ?_ ?_
 ·exact V.wk
 ·exact ⟨jii _, by simp, fun x hx => by simp at hx, by simp [val]⟩
 rintro ⟨e, m⟩ ⟨h1, h2, h3, h4⟩
 dsimp only at h1 h2 h3 h4 ⊢
 have hmax : max ((e : Int) - 9) 0 = ((e - 9 : Nat) : Int) := by omega
 refine V.r0 hmax ?_
 have hdig : ∀ i, i < s.length → 48 ≤ (s.getD i 0).toNat ∧ (s.getD i 0).toNat ≤ 57 := fun i hi => by
  have := hd (s.getD i 0) (by rw [jiJ, jiM hi]; exact jiN _)
  simpa [isDig] using this
 have hsub : ∀ i, ∀ c ∈ (s.take i).drop (e - 9), isDig c = true := fun i c hc => hd c (jiV (jiU hc))
 have hlt : ∀ i k, i ≤ s.length → i - (e - 9) ≤ k → rdv ((s.take i).drop (e - 9)) < 10 ^ k := fun i k hi hk => by
  have h5 := jfs (hsub i)
  rw [ji7, jiQ, Nat.min_eq_left hi] at h5
  exact jio h5 (jiy (by omega) hk)
 refine jac (e - 9 : Nat) (fun i => e - 9 ≤ i ∧ i ≤ e) (fun i => e - i) (fun i => [(7, .int .i64 i), (6, .int .u32 (rdv ((s.take i).drop (e - 9)) : Nat))]) (fun _ => []) ?_ ?_ ?_
 ·rw [show (s.take (e - 9)).drop (e - 9) = [] from ji0 (by rw [jiQ]; omega), show ((rdv [] : Nat) : Int) = 0 from rfl]
  exact V.wk
 ·exact ⟨jii _, by omega⟩
 intro i hi
 (conv => whnf)
 refine V.st ?_
 refine V.br (fun hq => ?_) (fun hq => ?_)
 ·rw [decide_eq_true_eq] at hq
  have hdi := hdig i (by omega)
  have hv := rdv_snoc ((s.take i).drop (e - 9)) (s.getD i 0)
  rw [← jcU hi.1 (by omega)] at hv
  have hb := hlt i 8 (by omega) (by omega)
  generalize hc : s.getD i 0 = c at *
  have hv2 : ((rdv ((s.take i).drop (e - 9)) : Nat) : Int) * 10 + ((c.toNat : Int) - 48) = ((rdv ((s.take (i + 1)).drop (e - 9)) : Nat) : Int) := by omega
  have hkc : ((i : Int) + 1) = ((i + 1 : Nat) : Int) := by omega
  refine V.r0 (V.a4 @jih hc hv2 hkc) ?_
  exact ⟨i + 1, by omega, by omega, V.wk⟩
 ·rw [decide_eq_false_iff_not] at hq
  obtain rfl : i = e := by omega
  have hb := hlt i 9 h1 (by omega)
  have hsp := jfo (s := s) (a := i - 9) (e := i) (by omega) h1
  have hra := jbb (s.take (i - 9)) ((s.take i).drop (i - 9))
  rw [← hsp, ji7, jiQ, Nat.min_eq_left h1] at hra
  generalize hv : rdv ((s.take i).drop (i - 9)) = v at *
  have hl2 : (m ++ [(v : Int)]).length = m.length + 1 := by simp
  have hl3 : m.length + (List.take 1 (List.drop 0 [(v : Int)])).length = (m ++ [(v : Int)]).length := by simp
  have hdg : Dg 1000000000 (m ++ [(v : Int)]) := jah h3 (jau (by omega))
  have hvs := jaQ 1000000000 m (v : Int)
  refine V.r0 hl3 ?_
  try refine And.intro (fun _ => ⟨trivial, by omega⟩) ?_
  refine V.r0 hl3 ?_
  refine V.br (fun hq2 => ?_) (fun hq2 => ?_)
  ·rw [decide_eq_true_eq] at hq2
   have e0 : i - 9 = 0 := by omega
   rw [e0] at hra
   have hz : rdv (s.take i) = v := by rw [hra]; simp [rdv]
   have hval : val 1000000000 (m ++ [(v : Int)]) = (rdv s : Nat) := by rw [hvs, ← hz]; exact h4
   have hc := wtrim_c (m ++ [(v : Int)]) hdg (by omega)
   rw [hval, jih, ← jja (l := m ++ [(v : Int)])] at hc
   (conv => whnf)
   refine V.st ?_
   repeat ((try ((with_reducible refine .ext ?_); (conv => whnf))); (with_reducible refine jaa (r := ?_) ?_ ?_); rotate_left; (focus (first | exact (hc))); (conv => whnf); refine V.st ?_)
   exact Fin.of rfl
  ·rw [decide_eq_false_iff_not] at hq2
   have h9 : 10 ≤ i := by omega
   have ek : ((i : Int) - 9) = ((i - 9 : Nat) : Int) := by omega
   refine V.r0 ek ?_
   refine ⟨(i - 9, m ++ [(v : Int)]), ⟨by dsimp only; omega, by dsimp only; omega, hdg, ?_⟩, by dsimp only; omega, V.wk⟩
   dsimp only
   rw [hvs, hl2, Int.pow_succ, ← h4, hra, show i - (i - 9) = 9 by omega, Int.natCast_add, jis]
   generalize ((1000000000 : Nat) : Int) ^ m.length = P
   generalize (rdv (s.take (i - 9)) : Nat) = w
   have e1 : ((10 ^ 9 : Nat) : Int) = 1000000000 := by decide
   rw [e1, jit, jiv]
   rw [jiu (w : Int)]
   generalize (1000000000 : Int) * (w : Int) = Q
   omega
theorem turn_c (z : Int) (hz : (mg 10000 z.natAbs).length ≤ 281474976710656) : Called Tryz.prog 121 [plD z] (plD (-z)) := by
 have hv := jaC (B := 10000) (by omega) z.natAbs
 have hm := jeL (!decide (z < 0)) (mg 10000 z.natAbs) (mg_dg (by omega) _) hz
 have e : (if (!decide (z < 0)) = true then -(val 10000 (mg 10000 z.natAbs)) else val 10000 (mg 10000 z.natAbs)) = -z := by
  rw [hv]
  by_cases h : z < 0
  ·simp [h]; omega
  ·simp [h]; omega
 rw [e] at hm
 refine V.en tbOk Tryz.func121 ?_
 (conv => whnf)
 refine V.st ?_
 repeat ((try ((with_reducible refine .ext ?_); (conv => whnf))); (with_reducible refine jaa (r := ?_) ?_ ?_); rotate_left; (focus (first | exact (hm))); (conv => whnf); refine V.st ?_)
 exact Fin.of rfl
theorem jep {B : Nat} {out : List Int} {q : Nat} {m : Int} (hB : 2 ≤ B) (h : val B out + (B : Int) ^ out.length * q = m) : val B (out ++ [((q % B : Nat) : Int)]) + (B : Int) ^ (out ++ [((q % B : Nat) : Int)]).length * ((q / B : Nat) : Int) = m := by
 rw [jaQ, jiP, List.length_singleton, Int.pow_succ, jiv, Int.add_assoc, ← jit, ← jis, ← Int.natCast_add, Nat.mod_add_div]
 exact h
theorem jeP (n : Nat) (hn : n < 10000 ^ 5) : Called Tryz.prog 75 [.int .i64 n] (plD n) := by
 have hlen := jav (B := 10000) (by omega) hn
 refine V.en tbOk Tryz.func75 ?_
 (conv => whnf)
 refine V.st ?_
 refine Lp.ghostSlot 19 3 .i64 (by decide) ?_
 (conv => whnf)
 refine jac ((n, []) : Nat × List Int) (fun s => val 10000 s.2 + ((10000 : Nat) : Int) ^ s.2.length * s.1 = n ∧ Dg 10000 s.2 ∧ s.1 ≤ n ∧ s.2.length + (mg 10000 s.1).length = (mg 10000 n).length) (fun s => s.1) (fun s => [(0, .int .i64 s.1), (3, .osl 19 0 s.2.length)]) (fun s => [(19, .arr .i64 s.2)]) ?_ ?_ ?_
 ·exact V.wk
 ·exact ⟨by simp [val], fun x hx => by simp at hx, jii _, by simp⟩
 rintro ⟨q, out⟩ ⟨h1, h2, h3, h4⟩
 dsimp only at h1 h2 h3 h4 ⊢
 (conv => whnf)
 refine V.st ?_
 refine V.br (fun hq => ?_) (fun hq => ?_)
 ·rw [decide_eq_true_eq] at hq
  have hq0 : 0 < q := by omega
  have hmg := jb7 (B := 10000) (by omega) hq0
  have hst := jep (B := 10000) (by omega) h1
  have hlt : q / 10000 < q := Nat.div_lt_self hq0 (by omega)
  have hdg : Dg 10000 (out ++ [((q % 10000 : Nat) : Int)]) := jah h2 (jau ⟨by omega, by have := jik q (by omega : 10000 > 0); omega⟩)
  have e1 : (q : Int) % 10000 = ((q % 10000 : Nat) : Int) := by omega
  have e2 : (q : Int) / 10000 = ((q / 10000 : Nat) : Int) := by omega
  have hl2 : (out ++ [((q % 10000 : Nat) : Int)]).length = out.length + 1 := by simp
  have hl3 : out.length + (List.take 1 (List.drop 0 [((q % 10000 : Nat) : Int)])).length = (out ++ [((q % 10000 : Nat) : Int)]).length := by simp
  rw [hmg, jiY] at h4
  refine V.r0 (V.a2 @e1 e2) ?_
  refine V.br (fun hneg => ?_) (fun hneg => ?_)
  ·exfalso
   rw [decide_eq_true_eq] at hneg
   omega
  refine V.r0 (V.a3 @e1 e2 hl3) ?_
  try refine And.intro (fun _ => ⟨trivial, by omega⟩) ?_
  refine V.r0 (V.a3 @e1 e2 hl3) ?_
  exact ⟨(q / 10000, out ++ [((q % 10000 : Nat) : Int)]), ⟨hst, hdg, by dsimp only; omega, by dsimp only; omega⟩, hlt, V.wk⟩
 ·have hq0 : q = 0 := by simp at hq; exact hq
  subst hq0
  have hv : val 10000 out = (n : Int) := by simpa using h1
  have hm := jeL false out h2 (by omega)
  rw [hv] at hm
  have e0 : decide ((n : Int) < 0) = false := by simp
  refine V.r1 (V.a2 e0 @jja) hm ?_
  exact Fin.of rfl
theorem jhr (n : Nat) (hn0 : 0 < n) (hn : n < 10000 ^ 5) : Called Tryz.prog 75 [.int .i64 (-(n : Int))] (plD (-(n : Int))) := by
 have hlen := jav (B := 10000) (by omega) hn
 have e00 : decide (-(n : Int) < 0) = true := by simp; omega
 refine V.en tbOk Tryz.func75 ?_
 refine V.r0 e00 ?_
 refine Lp.ghostSlot 19 3 .i64 (by decide) ?_
 (conv => whnf)
 refine jac ((n, []) : Nat × List Int) (fun s => val 10000 s.2 + ((10000 : Nat) : Int) ^ s.2.length * s.1 = n ∧ Dg 10000 s.2 ∧ s.1 ≤ n ∧ s.2.length + (mg 10000 s.1).length = (mg 10000 n).length) (fun s => s.1) (fun s => [(0, .int .i64 (-(s.1 : Int))), (3, .osl 19 0 s.2.length)]) (fun s => [(19, .arr .i64 s.2)]) ?_ ?_ ?_
 ·exact V.wk
 ·exact ⟨by simp [val], fun x hx => by simp at hx, jii _, by simp⟩
 rintro ⟨q, out⟩ ⟨h1, h2, h3, h4⟩
 dsimp only at h1 h2 h3 h4 ⊢
 (conv => whnf)
 refine V.st ?_
 refine V.br (fun hq => ?_) (fun hq => ?_)
 ·rw [decide_eq_true_eq] at hq
  have hq0 : 0 < q := by omega
  have hmg := jb7 (B := 10000) (by omega) hq0
  have hst := jep (B := 10000) (by omega) h1
  have hlt : q / 10000 < q := Nat.div_lt_self hq0 (by omega)
  have hdg : Dg 10000 (out ++ [((q % 10000 : Nat) : Int)]) := jah h2 (jau ⟨by omega, by have := jik q (by omega : 10000 > 0); omega⟩)
  have e1 : (-(q : Int)).tmod 10000 = -((q % 10000 : Nat) : Int) := by rw [Int.neg_tmod, Int.tmod_eq_emod_of_nonneg (by omega)]; simp
  have e2 : (-(q : Int)).tdiv 10000 = -((q / 10000 : Nat) : Int) := by rw [Int.neg_tdiv, Int.tdiv_eq_ediv_of_nonneg (by omega)]; simp
  have hl2 : (out ++ [((q % 10000 : Nat) : Int)]).length = out.length + 1 := by simp
  have hl3 : out.length + (List.take 1 (List.drop 0 [((q % 10000 : Nat) : Int)])).length = (out ++ [((q % 10000 : Nat) : Int)]).length := by simp
  have hme : 0 ≤ ((q % 10000 : Nat) : Int) ∧ ((q % 10000 : Nat) : Int) < 10000 := by have := jik q (by omega : 10000 > 0); omega
  have hqe : 0 ≤ ((q / 10000 : Nat) : Int) ∧ ((q / 10000 : Nat) : Int) ≤ q := by have := jiz q 10000; omega
  rw [hmg, jiY] at h4
  refine V.r0 @e1 ?_
  refine V.br (fun hneg => ?_) (fun hneg => ?_)
  ·rw [decide_eq_true_eq] at hneg
   have e3 : 0 - -((q % 10000 : Nat) : Int) = ((q % 10000 : Nat) : Int) := by omega
   refine V.r0 (V.a4 @e1 e2 e3 hl3) ?_
   try refine And.intro (fun _ => ⟨trivial, by omega⟩) ?_
   refine V.r0 (V.a4 @e1 e2 e3 hl3) ?_
   exact ⟨(q / 10000, out ++ [((q % 10000 : Nat) : Int)]), ⟨hst, hdg, by dsimp only; omega, by dsimp only; omega⟩, hlt, V.wk⟩
  ·rw [decide_eq_false_iff_not] at hneg
   have e3 : -((q % 10000 : Nat) : Int) = ((q % 10000 : Nat) : Int) := by omega
   refine V.r0 (V.a4 @e1 e2 e3 hl3) ?_
   try refine And.intro (fun _ => ⟨trivial, by omega⟩) ?_
   refine V.r0 (V.a4 @e1 e2 e3 hl3) ?_
   exact ⟨(q / 10000, out ++ [((q % 10000 : Nat) : Int)]), ⟨hst, hdg, by dsimp only; omega, by dsimp only; omega⟩, hlt, V.wk⟩
 ·have hq0 : q = 0 := by simp at hq; omega
  subst hq0
  have hv : val 10000 out = (n : Int) := by simpa using h1
  have hm := jeL true out h2 (by omega)
  rw [hv] at hm
  refine V.r1 @jja hm ?_
  exact Fin.of rfl
theorem jeQ (z : Int) (h : InR .i64 z) : Called Tryz.prog 75 [.int .i64 z] (plD z) := by
 simp only [V.InR, V.lo, V.hi] at h
 rcases Int.le_total 0 z with h0 | h0
 ·obtain ⟨n, rfl⟩ : ∃ n : Nat, z = n := ⟨z.toNat, by omega⟩
  exact jeP n (by omega)
 ·rcases Int.lt_or_le z 0 with h1 | h1
  ·obtain ⟨n, rfl⟩ : ∃ n : Nat, z = -(n : Int) := ⟨z.natAbs, by omega⟩
   exact jhr n (by omega) (by omega)
  ·obtain rfl : z = 0 := by omega
   exact jeP 0 (by omega)
end Go.Proofs.YtgjgpdceghjajaaGreatDoor
end
section
namespace Go.Nb
open Go
theorem jeh {B : Nat} (hB : 2 ≤ B) (k : Nat) : (0 : Int) < (B : Int) ^ k := Int.pow_pos (by omega)
theorem jds {B : Nat} (hB : 2 ≤ B) {l : List Int} (hd : Dg B l) (h : (B : Int) ^ (l.length - 1) ≤ val B l) : l = mg B (val B l).toNat := by
 refine mg_of hB hd fun x hx e => ?_
 subst e
 rcases List.eq_nil_or_concat l with rfl | ⟨r, y, rfl⟩
 ·simp at hx
 ·simp only [List.concat_eq_append] at *
  rw [List.getLast?_append] at hx
  simp at hx
  subst hx
  have h1 := jb2 (B := B) (l := r) fun y hy => hd y (by simp [hy])
  rw [jaQ, jiP, List.length_singleton, Nat.add_sub_cancel] at h
  simp at h
  omega
theorem jax {B : Nat} {out : List Int} {c u v x y d c' : Int} {k : Nat} (hk : out.length = k) (h : val B out + c * (B : Int) ^ k = u + v) (hs : d + c' * B = c + x + y) :
  val B (out ++ [d]) + c' * (B : Int) ^ (k + 1) = (u + (B : Int) ^ k * x) + (v + (B : Int) ^ k * y) := by
 rw [jaQ, hk, Int.pow_succ]
 generalize (B : Int) ^ k = P at *
 have e1 : P * d + c' * (P * B) = P * (d + c' * B) := by rw [jit]; congr 1; ac_rfl
 have e2 : P * (c + x + y) = c * P + P * x + P * y := by rw [jit, jit, jiu P c]
 rw [hs, e2] at e1
 omega
theorem jbN {B : Nat} {out : List Int} {b u v x y d b' : Int} {k : Nat} (hk : out.length = k) (h : val B out - b * (B : Int) ^ k = u - v) (hs : d - b' * B = x - y - b) :
  val B (out ++ [d]) - b' * (B : Int) ^ (k + 1) = (u + (B : Int) ^ k * x) - (v + (B : Int) ^ k * y) := by
 rw [jaQ, hk, Int.pow_succ]
 generalize (B : Int) ^ k = P at *
 have e1 : P * d - b' * (P * B) = P * (d - b' * B) := by rw [Int.mul_sub]; congr 1; ac_rfl
 have e2 : P * (x - y - b) = P * x - P * y - b * P := by rw [Int.mul_sub, Int.mul_sub, jiu P b]
 rw [hs, e2] at e1
 omega
end Go.Nb
end
section
namespace Go.Proofs.YtgjgpdceghjajaaGreatDoor
open Go Go.V Go.Nb
theorem jai (B : Nat) (xs : List Int) (k : Nat) : val B (xs.take (k + 1)) = val B (xs.take k) + (B : Int) ^ k * xs.getD k 0 := by
 rcases jip k xs.length with h | h
 ·have h1 : xs[k]? = some (xs.getD k 0) := by rw [jiJ, jiM h]; rfl
  exact jda h1
 ·rw [jiZ (by omega), jiZ h, jiJ, ji5 h]
  simp
theorem jam {B : Nat} (hB : 1 ≤ B) {xs : List Int} (hd : Dg B xs) (k : Nat) : 0 ≤ xs.getD k 0 ∧ xs.getD k 0 < B := by
 rcases jip k xs.length with h | h
 ·have h1 : xs[k]? = some (xs.getD k 0) := by rw [jiJ, jiM h]; rfl
  exact hd _ (jiO h1)
 ·rw [jiJ, ji5 h]
  simp; omega
theorem jb0 {xs : List Int} {k : Nat} (h : xs.length ≤ k) : xs.getD k 0 = 0 := by
 rw [jiJ, ji5 h]; rfl
theorem jfT {k m n : Nat} {out : List Int} {c x y : Int} (h1 : out.length = k) (h2 : Dg 10000 out) (h3 : 0 ≤ c ∧ c ≤ 1) {P : Prop} (h5 : k ≤ max m n ∨ (k = max m n + 1 ∧ c = 0 ∧ P)) (hq : k < m ∨ k < n ∨ 0 < c) (gx : m ≤ k → x = 0) (gy : n ≤ k → y = 0) :
  k + 1 ≤ max m n ∨ (k + 1 = max m n + 1 ∧ (c + x + y) / 10000 = 0 ∧ ((10000 : Nat) : Int) ^ (max m n) ≤ val 10000 (out ++ [(c + x + y) % 10000])) := by
 rcases jip k (max m n) with hm | hm
 ·exact .inl (by omega)
 ·have hk : k = max m n := by omega
  have e1 := gx (by omega)
  have e2 := gy (by omega)
  have e3 : c = 1 := by omega
  subst e1 e2 e3
  refine .inr ⟨by omega, by decide, ?_⟩
  rw [jaQ, h1, ← hk]
  have := jan h2
  have e : (1 + 0 + 0 : Int) % 10000 = 1 := by decide
  rw [e]; omega
theorem sum_c (a b : Nat) (ha : (mg 10000 a).length ≤ 100000000) (hb : (mg 10000 b).length ≤ 100000000) : Called Tryz.prog 157 [.ints .i64 (mg 10000 a), .ints .i64 (mg 10000 b)] (.ints .i64 (mg 10000 (a + b))) := by
 have hdx := mg_dg (B := 10000) (by omega) a
 have hdy := mg_dg (B := 10000) (by omega) b
 have hvx := jaC (B := 10000) (by omega) a
 have hvy := jaC (B := 10000) (by omega) b
 have hpx := fun h => jcz (B := 10000) (n := a) (by omega) h
 have hpy := fun h => jcz (B := 10000) (n := b) (by omega) h
 have hex := jb8 (B := 10000) (n := a) (by omega)
 have hey := jb8 (B := 10000) (n := b) (by omega)
 generalize mg 10000 a = xs at *
 generalize mg 10000 b = ys at *
 refine V.en tbOk Tryz.func157 ?_
 (conv => whnf)
 refine V.st ?_
 refine Lp.ghostSlot 48 5 .i64 (by decide) ?_
 (conv => whnf)
 refine jac ((0, [], 0) : Nat × List Int × Int) (fun s => s.2.1.length = s.1 ∧ Dg 10000 s.2.1 ∧ (0 ≤ s.2.2 ∧ s.2.2 ≤ 1) ∧ val 10000 s.2.1 + s.2.2 * ((10000 : Nat) : Int) ^ s.1 = val 10000 (xs.take s.1) + val 10000 (ys.take s.1) ∧ (s.1 ≤ max xs.length ys.length ∨ (s.1 = max xs.length ys.length + 1 ∧ s.2.2 = 0 ∧ ((10000 : Nat) : Int) ^ (max xs.length ys.length) ≤ val 10000 s.2.1))) (fun s => max xs.length ys.length + 2 - s.1)
  (fun s => [(7, .int .i64 s.1), (6, .int .i64 s.2.2), (5, .osl 48 0 s.2.1.length)]) (fun s => [(48, .arr .i64 s.2.1)]) ?_ ?_ ?_
 ·exact V.wk
 ·exact ⟨rfl, fun x hx => by simp at hx, by simp, by simp [val], .inl (by simp)⟩
 rintro ⟨k, out, c⟩ ⟨h1, h2, h3, h4, h5⟩
 dsimp only at h1 h2 h3 h4 h5 ⊢
 have vx := jai 10000 xs k
 have vy := jai 10000 ys k
 have bx := jam (by omega) hdx k
 have by' := jam (by omega) hdy k
 have gx := jb0 (xs := xs) (k := k)
 have gy := jb0 (xs := ys) (k := k)
 generalize hx0 : xs.getD k 0 = x at *
 generalize hy0 : ys.getD k 0 = y at *
 (conv => whnf)
 refine V.st ?_
 refine V.br (fun hq => ?_) (fun hq => ?_)
 ·simp only [Bool.or_eq_true, decide_eq_true_eq] at hq
  (conv => whnf)
  refine V.st ?_
  refine V.br (fun hx => ?_) (fun hx => ?_)
  ·rw [decide_eq_true_eq] at hx
   refine V.r0 (V.a2 @jih hx0) ?_
   refine V.br (fun hy => ?_) (fun hy => ?_)
   ·rw [decide_eq_true_eq] at hy
    refine V.r0 (V.a2 @jih hy0) ?_
    have hE : c + x + y = c + x + y := by omega
    rw [hE]
    have hd0 : 0 ≤ (c + x + y) % 10000 ∧ (c + x + y) % 10000 < 10000 := ⟨jic _ (by omega), jiA _ (by omega)⟩
    have hst := jax (B := 10000) (x := x) (y := y) (d := (c + x + y) % 10000) (c' := (c + x + y) / 10000) h1 h4 (by have := jid (c + x + y) 10000; omega)
    rw [← vx, ← vy] at hst
    have hdg : Dg 10000 (out ++ [(c + x + y) % 10000]) := jah h2 (jau hd0)
    have hl2 : (out ++ [(c + x + y) % 10000]).length = k + 1 := by simp [h1]
    have hl3 : out.length + (List.take 1 (List.drop 0 [(c + x + y) % 10000])).length = (out ++ [(c + x + y) % 10000]).length := by simp
    have hkc : ((k : Int) + 1) = ((k + 1 : Nat) : Int) := by omega
    refine V.r0 (V.a2 hl3 hkc) ?_
    try refine And.intro (fun _ => ⟨trivial, by omega⟩) ?_
    refine V.r0 (V.a2 hl3 hkc) ?_
    exact ⟨(k + 1, out ++ [(c + x + y) % 10000], (c + x + y) / 10000), ⟨hl2, hdg, by dsimp only; omega, hst, jfT h1 h2 h3 h5 (by omega) gx gy⟩, by dsimp only; omega, V.wk⟩
   ·rw [decide_eq_false_iff_not] at hy
    have := gy (by omega)
    (conv => whnf)
    refine V.st ?_
    have hE : c + x = c + x + y := by omega
    rw [hE]
    have hd0 : 0 ≤ (c + x + y) % 10000 ∧ (c + x + y) % 10000 < 10000 := ⟨jic _ (by omega), jiA _ (by omega)⟩
    have hst := jax (B := 10000) (x := x) (y := y) (d := (c + x + y) % 10000) (c' := (c + x + y) / 10000) h1 h4 (by have := jid (c + x + y) 10000; omega)
    rw [← vx, ← vy] at hst
    have hdg : Dg 10000 (out ++ [(c + x + y) % 10000]) := jah h2 (jau hd0)
    have hl2 : (out ++ [(c + x + y) % 10000]).length = k + 1 := by simp [h1]
    have hl3 : out.length + (List.take 1 (List.drop 0 [(c + x + y) % 10000])).length = (out ++ [(c + x + y) % 10000]).length := by simp
    have hkc : ((k : Int) + 1) = ((k + 1 : Nat) : Int) := by omega
    refine V.r0 (V.a2 hl3 hkc) ?_
    try refine And.intro (fun _ => ⟨trivial, by omega⟩) ?_
    refine V.r0 (V.a2 hl3 hkc) ?_
    exact ⟨(k + 1, out ++ [(c + x + y) % 10000], (c + x + y) / 10000), ⟨hl2, hdg, by dsimp only; omega, hst, jfT h1 h2 h3 h5 (by omega) gx gy⟩, by dsimp only; omega, V.wk⟩
  ·rw [decide_eq_false_iff_not] at hx
   have := gx (by omega)
   (conv => whnf)
   refine V.st ?_
   refine V.br (fun hy => ?_) (fun hy => ?_)
   ·rw [decide_eq_true_eq] at hy
    refine V.r0 (V.a2 @jih hy0) ?_
    have hE : c + y = c + x + y := by omega
    rw [hE]
    have hd0 : 0 ≤ (c + x + y) % 10000 ∧ (c + x + y) % 10000 < 10000 := ⟨jic _ (by omega), jiA _ (by omega)⟩
    have hst := jax (B := 10000) (x := x) (y := y) (d := (c + x + y) % 10000) (c' := (c + x + y) / 10000) h1 h4 (by have := jid (c + x + y) 10000; omega)
    rw [← vx, ← vy] at hst
    have hdg : Dg 10000 (out ++ [(c + x + y) % 10000]) := jah h2 (jau hd0)
    have hl2 : (out ++ [(c + x + y) % 10000]).length = k + 1 := by simp [h1]
    have hl3 : out.length + (List.take 1 (List.drop 0 [(c + x + y) % 10000])).length = (out ++ [(c + x + y) % 10000]).length := by simp
    have hkc : ((k : Int) + 1) = ((k + 1 : Nat) : Int) := by omega
    refine V.r0 (V.a2 hl3 hkc) ?_
    try refine And.intro (fun _ => ⟨trivial, by omega⟩) ?_
    refine V.r0 (V.a2 hl3 hkc) ?_
    exact ⟨(k + 1, out ++ [(c + x + y) % 10000], (c + x + y) / 10000), ⟨hl2, hdg, by dsimp only; omega, hst, jfT h1 h2 h3 h5 (by omega) gx gy⟩, by dsimp only; omega, V.wk⟩
   ·rw [decide_eq_false_iff_not] at hy
    have := gy (by omega)
    (conv => whnf)
    refine V.st ?_
    have hE : c = c + x + y := by omega
    rw [hE]
    have hd0 : 0 ≤ (c + x + y) % 10000 ∧ (c + x + y) % 10000 < 10000 := ⟨jic _ (by omega), jiA _ (by omega)⟩
    have hst := jax (B := 10000) (x := x) (y := y) (d := (c + x + y) % 10000) (c' := (c + x + y) / 10000) h1 h4 (by have := jid (c + x + y) 10000; omega)
    rw [← vx, ← vy] at hst
    have hdg : Dg 10000 (out ++ [(c + x + y) % 10000]) := jah h2 (jau hd0)
    have hl2 : (out ++ [(c + x + y) % 10000]).length = k + 1 := by simp [h1]
    have hl3 : out.length + (List.take 1 (List.drop 0 [(c + x + y) % 10000])).length = (out ++ [(c + x + y) % 10000]).length := by simp
    have hkc : ((k : Int) + 1) = ((k + 1 : Nat) : Int) := by omega
    refine V.r0 (V.a2 hl3 hkc) ?_
    try refine And.intro (fun _ => ⟨trivial, by omega⟩) ?_
    refine V.r0 (V.a2 hl3 hkc) ?_
    exact ⟨(k + 1, out ++ [(c + x + y) % 10000], (c + x + y) / 10000), ⟨hl2, hdg, by dsimp only; omega, hst, jfT h1 h2 h3 h5 (by omega) gx gy⟩, by dsimp only; omega, V.wk⟩
 ·simp only [jir, decide_eq_false_iff_not] at hq
  have hc : c = 0 := by omega
  have hkm : max xs.length ys.length ≤ k := by omega
  subst hc
  rw [jiZ (by omega), jiZ (by omega), hvx, hvy, Int.zero_mul, jiB] at h4
  have hge : ((10000 : Nat) : Int) ^ (out.length - 1) ≤ val 10000 out ∨ (out = [] ∧ a + b = 0) := by
   rcases h5 with h5 | h5
   ·rcases jij (a + b) with h0 | h0
    ·right
     have e1 := hex.mpr (by omega)
     have e2 := hey.mpr (by omega)
     subst e1 e2
     have : k = 0 := by simpa using h5
     exact ⟨jiK.mp (by omega), h0⟩
    ·left
     rw [h4, h1]
     have hk : k = max xs.length ys.length := by omega
     rcases jip xs.length ys.length with hl | hl
     ·have hb0 : 0 < b := Nat.pos_of_ne_zero fun h => by
       rw [← hey] at h; rw [h] at hl; simp at hl
      have h9 := hpy hb0
      have hk' : k = ys.length := by omega
      rw [← hk'] at h9
      have h8 : (((10000 ^ (k - 1) : Nat)) : Int) ≤ (b : Int) := by exact_mod_cast h9
      rw [jiC] at h8
      omega
     ·have ha0 : 0 < a := Nat.pos_of_ne_zero fun h => by
       have h' := h
       rw [← hex] at h'
       rw [h'] at hl
       have : ys = [] := jiK.mp (by simpa using hl)
       have := hey.mp this
       omega
      have h9 := hpx ha0
      have hk' : k = xs.length := by omega
      rw [← hk'] at h9
      have h8 : (((10000 ^ (k - 1) : Nat)) : Int) ≤ (a : Int) := by exact_mod_cast h9
      rw [jiC] at h8
      omega
   ·left
    rw [h1, h5.1]
    exact h5.2.2
  have hout : out = mg 10000 (a + b) := by
   rcases hge with hge | hge
   ·have := jds (by omega) h2 hge
    rw [this, h4]; congr 1
   ·rw [hge.1, hge.2]; rfl
  (conv => whnf)
  refine V.st ?_
  exact Fin.of (by rw [jja, hout])
theorem jcJ (a b : Nat) (hba : b ≤ a) (ha : (mg 10000 a).length ≤ 100000000) : Called Tryz.prog 159 [.ints .i64 (mg 10000 a), .ints .i64 (mg 10000 b)] (.ints .i64 (mg 10000 (a - b))) := by
 have hdx := mg_dg (B := 10000) (by omega) a
 have hdy := mg_dg (B := 10000) (by omega) b
 have hvx := jaC (B := 10000) (by omega) a
 have hvy := jaC (B := 10000) (by omega) b
 have hlen := jaf (B := 10000) (by omega) hba
 generalize mg 10000 a = xs at *
 generalize mg 10000 b = ys at *
 refine V.en tbOk Tryz.func159 ?_
 (conv => whnf)
 refine V.st ?_
 refine Lp.ghostSlot 38 5 .i64 (by decide) ?_
 (conv => whnf)
 refine jac ((0, [], 0) : Nat × List Int × Int) (fun s => s.2.1.length = s.1 ∧ Dg 10000 s.2.1 ∧ (0 ≤ s.2.2 ∧ s.2.2 ≤ 1) ∧ val 10000 s.2.1 - s.2.2 * ((10000 : Nat) : Int) ^ s.1 = val 10000 (xs.take s.1) - val 10000 (ys.take s.1) ∧ s.1 ≤ xs.length) (fun s => xs.length + 2 - s.1)
  (fun s => [(7, .int .i64 s.1), (6, .int .i64 s.2.2), (5, .osl 38 0 s.2.1.length)]) (fun s => [(38, .arr .i64 s.2.1)]) ?_ ?_ ?_
 ·exact V.wk
 ·exact ⟨rfl, fun x hx => by simp at hx, by simp, by simp [val], by simp⟩
 rintro ⟨k, out, bw⟩ ⟨h1, h2, h3, h4, h5⟩
 dsimp only at h1 h2 h3 h4 h5 ⊢
 have vx := jai 10000 xs k
 have vy := jai 10000 ys k
 have bx := jam (by omega) hdx k
 have by' := jam (by omega) hdy k
 have gy := jb0 (xs := ys) (k := k)
 generalize hx0 : xs.getD k 0 = x at *
 generalize hy0 : ys.getD k 0 = y at *
 (conv => whnf)
 refine V.st ?_
 refine V.br (fun hq => ?_) (fun hq => ?_)
 ·rw [decide_eq_true_eq] at hq
  refine V.r0 (V.a2 @jih hx0) ?_
  refine V.br (fun hy => ?_) (fun hy => ?_)
  ·rw [decide_eq_true_eq] at hy
   refine V.r0 (V.a2 @jih hy0) ?_
   refine V.br (fun hz => ?_) (fun hz => ?_)
   ·rw [decide_eq_true_eq] at hz
    have hE : x - bw - y = x - y - bw := by omega
    rw [hE]
    have hst := jbN (B := 10000) (x := x) (y := y) (d := (x - y - bw + 10000)) (b' := 1) h1 h4 (by omega)
    rw [← vx, ← vy] at hst
    have hdg : Dg 10000 (out ++ [(x - y - bw + 10000)]) := jah h2 (jau (by omega))
    have hl2 : (out ++ [(x - y - bw + 10000)]).length = k + 1 := by simp [h1]
    have hl3 : out.length + (List.take 1 (List.drop 0 [(x - y - bw + 10000)])).length = (out ++ [(x - y - bw + 10000)]).length := by simp
    have hkc : ((k : Int) + 1) = ((k + 1 : Nat) : Int) := by omega
    refine V.r0 (V.a2 hl3 hkc) ?_
    try refine And.intro (fun _ => ⟨trivial, by omega⟩) ?_
    refine V.r0 (V.a2 hl3 hkc) ?_
    exact ⟨(k + 1, out ++ [(x - y - bw + 10000)], 1), ⟨hl2, hdg, by dsimp only; omega, hst, by dsimp only; omega⟩, by dsimp only; omega, V.wk⟩
   ·rw [decide_eq_false_iff_not] at hz
    have hE : x - bw - y = x - y - bw := by omega
    rw [hE]
    have hst := jbN (B := 10000) (x := x) (y := y) (d := (x - y - bw)) (b' := 0) h1 h4 (by omega)
    rw [← vx, ← vy] at hst
    have hdg : Dg 10000 (out ++ [(x - y - bw)]) := jah h2 (jau (by omega))
    have hl2 : (out ++ [(x - y - bw)]).length = k + 1 := by simp [h1]
    have hl3 : out.length + (List.take 1 (List.drop 0 [(x - y - bw)])).length = (out ++ [(x - y - bw)]).length := by simp
    have hkc : ((k : Int) + 1) = ((k + 1 : Nat) : Int) := by omega
    refine V.r0 (V.a2 hl3 hkc) ?_
    try refine And.intro (fun _ => ⟨trivial, by omega⟩) ?_
    refine V.r0 (V.a2 hl3 hkc) ?_
    exact ⟨(k + 1, out ++ [(x - y - bw)], 0), ⟨hl2, hdg, by dsimp only; omega, hst, by dsimp only; omega⟩, by dsimp only; omega, V.wk⟩
  ·rw [decide_eq_false_iff_not] at hy
   have := gy (by omega)
   (conv => whnf)
   refine V.st ?_
   refine V.br (fun hz => ?_) (fun hz => ?_)
   ·rw [decide_eq_true_eq] at hz
    have hE : x - bw = x - y - bw := by omega
    rw [hE]
    have hst := jbN (B := 10000) (x := x) (y := y) (d := (x - y - bw + 10000)) (b' := 1) h1 h4 (by omega)
    rw [← vx, ← vy] at hst
    have hdg : Dg 10000 (out ++ [(x - y - bw + 10000)]) := jah h2 (jau (by omega))
    have hl2 : (out ++ [(x - y - bw + 10000)]).length = k + 1 := by simp [h1]
    have hl3 : out.length + (List.take 1 (List.drop 0 [(x - y - bw + 10000)])).length = (out ++ [(x - y - bw + 10000)]).length := by simp
    have hkc : ((k : Int) + 1) = ((k + 1 : Nat) : Int) := by omega
    refine V.r0 (V.a2 hl3 hkc) ?_
    try refine And.intro (fun _ => ⟨trivial, by omega⟩) ?_
    refine V.r0 (V.a2 hl3 hkc) ?_
    exact ⟨(k + 1, out ++ [(x - y - bw + 10000)], 1), ⟨hl2, hdg, by dsimp only; omega, hst, by dsimp only; omega⟩, by dsimp only; omega, V.wk⟩
   ·rw [decide_eq_false_iff_not] at hz
    have hE : x - bw = x - y - bw := by omega
    rw [hE]
    have hst := jbN (B := 10000) (x := x) (y := y) (d := (x - y - bw)) (b' := 0) h1 h4 (by omega)
    rw [← vx, ← vy] at hst
    have hdg : Dg 10000 (out ++ [(x - y - bw)]) := jah h2 (jau (by omega))
    have hl2 : (out ++ [(x - y - bw)]).length = k + 1 := by simp [h1]
    have hl3 : out.length + (List.take 1 (List.drop 0 [(x - y - bw)])).length = (out ++ [(x - y - bw)]).length := by simp
    have hkc : ((k : Int) + 1) = ((k + 1 : Nat) : Int) := by omega
    refine V.r0 (V.a2 hl3 hkc) ?_
    try refine And.intro (fun _ => ⟨trivial, by omega⟩) ?_
    refine V.r0 (V.a2 hl3 hkc) ?_
    exact ⟨(k + 1, out ++ [(x - y - bw)], 0), ⟨hl2, hdg, by dsimp only; omega, hst, by dsimp only; omega⟩, by dsimp only; omega, V.wk⟩
 ·rw [decide_eq_false_iff_not] at hq
  have hk : k = xs.length := by omega
  rw [jiZ (by omega), jiZ (by omega), hvx, hvy] at h4
  have hlt := jb2 h2
  have hnn := jan h2
  rw [h1] at hlt
  have hbw : bw = 0 := by
   rcases (by omega : bw = 0 ∨ bw = 1) with e | e
   ·exact e
   ·subst e; omega
  subst hbw
  rw [Int.zero_mul, Int.sub_zero] at h4
  have hc := cut_c out h2 (by omega)
  rw [h4] at hc
  have e1 : ((a : Int) - (b : Int)).toNat = a - b := by omega
  rw [e1] at hc
  have hc2 : Called Tryz.prog 156 [.ints .i64 (List.take out.length out)] (.ints .i64 (mg 10000 (a - b))) := by rw [jja]; exact hc
  (conv => whnf)
  refine V.st ?_
  repeat ((try ((with_reducible refine .ext ?_); (conv => whnf))); (with_reducible refine jaa (r := ?_) ?_ ?_); rotate_left; (focus (first | exact (hc2))); (conv => whnf); refine V.st ?_)
  exact Fin.of rfl
def ordR (xs ys : List Int) : Nat → Int
 | 0 => 0
 | k + 1 => if xs.getD k 0 = ys.getD k 0 then ordR xs ys k else xs.getD k 0 - ys.getD k 0
def ordV (xs ys : List Int) : Int := if xs.length = ys.length then ordR xs ys xs.length else (xs.length : Int) - ys.length
theorem jcd {B : Nat} (hB : 2 ≤ B) {xs : List Int} (hd : Dg B xs) (k : Nat) : val B (xs.take k) < (B : Int) ^ k := by
 have h := jb2 (jbi hd k)
 have h2 : B ^ (xs.take k).length ≤ B ^ k := jiy (by omega) (by rw [jiQ]; omega)
 have h3 : (((B ^ (xs.take k).length : Nat)) : Int) ≤ ((B ^ k : Nat) : Int) := by exact_mod_cast h2
 rw [jiC, jiC] at h3
 omega
theorem jgB {B : Nat} (hB : 2 ≤ B) {xs ys : List Int} (hx : Dg B xs) (hy : Dg B ys) : ∀ k, (ordR xs ys k < 0 ↔ val B (xs.take k) < val B (ys.take k)) ∧ (ordR xs ys k = 0 ↔ val B (xs.take k) = val B (ys.take k))
 | 0 => by simp [ordR]
 | k + 1 => by
  obtain ⟨i1, i2⟩ := jgB hB hx hy k
  rw [jai, jai, ordR]
  have l1 := jcd hB hx k
  have l2 := jcd hB hy k
  have n1 := jan (jbi hx k)
  have n2 := jan (jbi hy k)
  generalize xs.getD k 0 = x
  generalize ys.getD k 0 = y
  generalize val B (xs.take k) = u at *
  generalize val B (ys.take k) = v at *
  generalize (B : Int) ^ k = P at *
  by_cases e : x = y
  ·subst e; rw [if_pos rfl]; omega
  ·rw [if_neg e]
   rcases Int.lt_or_gt_of_ne e with h | h
   ·have : P * (x + 1) ≤ P * y := jiw (by omega) (by omega)
    rw [jit, Int.mul_one] at this
    omega
   ·have : P * (y + 1) ≤ P * x := jiw (by omega) (by omega)
    rw [jit, Int.mul_one] at this
    omega
theorem jfx {B : Nat} (hB : 2 ≤ B) (a b : Nat) : (ordV (mg B a) (mg B b) < 0 ↔ a < b) ∧ (ordV (mg B a) (mg B b) = 0 ↔ a = b) := by
 unfold ordV
 have m1 := fun h : a ≤ b => jaf (B := B) hB h
 have m2 := fun h : b ≤ a => jaf (B := B) hB h
 by_cases e : (mg B a).length = (mg B b).length
 ·rw [if_pos e]
  have h := jgB hB (mg_dg (B := B) hB a) (mg_dg (B := B) hB b) (mg B a).length
  rw [jiZ (jii _), jiZ (by omega), jaC hB, jaC hB] at h
  omega
 ·rw [if_neg e]
  rcases Nat.lt_trichotomy a b with h | h | h
  ·have := m1 (by omega); omega
  ·subst h; exact absurd rfl e
  ·have := m2 (by omega); omega
theorem jgA (a b : Nat) : (ordV (mg 10000 a) (mg 10000 b) < 0 ↔ a < b) ∧ (ordV (mg 10000 a) (mg 10000 b) = 0 ↔ a = b) := jfx (by omega) a b
theorem jgW (B : Nat) (d : Int) : ∀ (l : List Int) (k : Nat), k < l.length → val B (l.set k d) = val B l + (B : Int) ^ k * (d - l.getD k 0)
 | [], k, h => by simp at h
 | x :: l, 0, _ => by simp [val]; omega
 | x :: l, k + 1, h => by
  have ih := jgW B d l k (by simpa using h)
  simp only [List.set_cons_succ, val, List.getD_cons_succ]
  rw [ih, Int.pow_succ, jit]
  generalize (B : Int) ^ k = P
  have : (B : Int) * (P * (d - l.getD k 0)) = P * B * (d - l.getD k 0) := by ac_rfl
  omega
theorem jdA {B : Nat} {l : List Int} {k : Nat} {d : Int} (h : Dg B l) (hd : 0 ≤ d ∧ d < B) : Dg B (l.set k d) := fun x hx => by
 rcases List.mem_or_eq_of_mem_set hx with h1 | h1
 ·exact h x h1
 ·subst h1; exact hd
theorem jgz {B : Nat} {o : List Int} {i j : Nat} {c q x y U Y d c' : Int} (hlt : i + j < o.length) (hq : o.getD (i + j) 0 = q) (h : val B o + (B : Int) ^ (i + j) * c = U + (B : Int) ^ i * x * Y) (hs : d + c' * B = c + q + x * y) :
  val B (o.set (i + j) d) + (B : Int) ^ (i + (j + 1)) * c' = U + (B : Int) ^ i * x * (Y + (B : Int) ^ j * y) := by
 rw [jgW B d o (i + j) hlt, hq, ← Nat.add_assoc, Int.pow_succ]
 have e0 : (B : Int) ^ i * x * (Y + (B : Int) ^ j * y) = (B : Int) ^ i * x * Y + (B : Int) ^ (i + j) * (x * y) := by
  rw [jit, Int.pow_add]; congr 1; ac_rfl
 rw [e0]
 generalize (B : Int) ^ (i + j) = P at *
 have e1 : P * (d + c' * B) = P * d + P * B * c' := by rw [jit]; congr 1; ac_rfl
 rw [hs] at e1
 have e2 : P * (c + q + x * y) = P * c + P * q + P * (x * y) := by rw [jit, jit]
 rw [Int.mul_sub]
 omega
theorem prod_end {B : Nat} {o xs : List Int} {i n : Nat} {c x YS : Int} (hlt : i + n < o.length) (hq : o.getD (i + n) 0 = 0) (h : val B o + (B : Int) ^ (i + n) * c = val B (xs.take i) * YS + (B : Int) ^ i * x * YS) (hx : xs.getD i 0 = x) :
  val B (o.set (i + n) c) = val B (xs.take (i + 1)) * YS := by
 rw [jgW B c o (i + n) hlt, hq, jai, hx, jiD, Int.sub_zero]
 exact h
theorem jcn {l : List Int} {i k : Nat} {d : Int} (h : i ≠ k) : (l.set i d).getD k 0 = l.getD k 0 := by
 simp [jiJ, List.getElem?_set, h]
theorem jeS {l : List Int} {i : Nat} {d : Int} (h : i < l.length) : (l.set i d).getD i 0 = d := by
 simp [jiJ, List.getElem?_set, h]
theorem jbM {B : Nat} {l : List Int} {k : Nat} (h : k < l.length) : val B (l.drop k) = l.getD k 0 + B * val B (l.drop (k + 1)) := by
 rw [ji2 h, val]
 congr 1
 simp [jiJ, h]
theorem je1 {l : List Int} {i k : Nat} {d : Int} (h : i < k) : (l.set i d).drop k = l.drop k := by
 rw [List.drop_set_of_lt h]
theorem jeH {B : Nat} {xs out : List Int} {k : Nat} {d r x t : Int} (hk : k < xs.length) (hl : k < out.length) (hx : xs.getD k 0 = x) (h : val B (xs.drop (k + 1)) = val B (out.drop (k + 1)) * d + r) (ht : t = r * B + x) :
  val B (xs.drop k) = val B ((out.set k (t / d)).drop k) * d + t % d := by
 have e0 := jbM (B := B) (l := out.set k (t / d)) (k := k) (by rw [ji6]; exact hl)
 rw [jeS hl, je1 (l := out) (i := k) (k := k + 1) (by omega)] at e0
 rw [jbM hk, e0, hx, h]
 have := jid t d
 have e1 : (t / d + (B : Int) * val B (out.drop (k + 1))) * d = d * (t / d) + B * (val B (out.drop (k + 1)) * d) := by rw [jiD]; congr 1 <;> ac_rfl
 rw [e1, jit]
 have e2 : (B : Int) * r = r * B := jiu _ _
 omega
theorem jeI {B : Nat} {d r x : Int} (hd : 0 < d) (hr : 0 ≤ r ∧ r < d) (hx : 0 ≤ x ∧ x < B) : 0 ≤ (r * B + x) / d ∧ (r * B + x) / d < B ∧ 0 ≤ (r * B + x) % d ∧ (r * B + x) % d < d := by
 have h0 : 0 ≤ r * (B : Int) := jie hr.1 (by omega)
 refine ⟨Int.ediv_nonneg (by omega) (by omega), ?_, jic _ (by omega), jiA _ hd⟩
 refine Int.ediv_lt_of_lt_mul hd ?_
 have h1 : (r + 1) * (B : Int) ≤ d * B := jin (by omega) (by omega)
 rw [jiD, jiE] at h1
 rw [jiu d (B : Int)] at h1
 omega
theorem order_c (xs ys : List Int) (ha : xs.length ≤ 100000000) (hb : ys.length ≤ 100000000) (hdx : Dg 10000 xs) (hdy : Dg 10000 ys) : Called Tryz.prog 158 [.ints .i64 xs, .ints .i64 ys] (.int .i64 (ordV xs ys)) := by
 refine V.en tbOk Tryz.func158 ?_
 (conv => whnf)
 refine V.st ?_
 refine V.br (fun hq => ?_) (fun hq => ?_)
 ·rw [decide_eq_true_eq] at hq
  (conv => whnf)
  refine V.st ?_
  exact Fin.of (by unfold ordV; rw [if_neg (by omega)])
 ·rw [decide_eq_false_iff_not] at hq
  have hq' : xs.length = ys.length := by omega
  (conv => whnf)
  refine V.st ?_
  refine jac (xs.length) (fun k => k ≤ xs.length ∧ ordR xs ys k = ordR xs ys xs.length) (fun k => k) (fun k => [(5, .int .i64 ((k : Int) - 1))]) (fun k => []) ?_ ?_ ?_
  ·exact V.wk
  ·exact ⟨jii _, rfl⟩
  intro k hk
  have bx := jam (by omega) hdx (k - 1)
  have by' := jam (by omega) hdy (k - 1)
  (conv => whnf)
  refine V.st ?_
  refine V.br (fun hz => ?_) (fun hz => ?_)
  ·rw [decide_eq_true_eq] at hz
   (conv => whnf)
   refine V.st ?_
   refine ⟨(V.tk [0,1,2,3,4,5,6,7,8] .done), [], V.pok, .go (jad ?_)⟩
   (conv => whnf)
   refine V.st ?_
   have hk0 : 0 < k := by omega
   obtain ⟨j, rfl⟩ : ∃ j, k = j + 1 := ⟨k - 1, by omega⟩
   have e1 : ((((j + 1 : Nat) : Int) - 1).toNat) = j := by omega
   have e2 : (((j + 1 : Nat) : Int) - 1) = (j : Int) := by omega
   have hr := hk.2
   rw [ordR] at hr
   refine V.br (fun hn => ?_) (fun hn => ?_)
   ·rw [decide_eq_true_eq, e1] at hn
    (conv => whnf)
    refine V.st ?_
    refine ⟨(V.tk [0,1,2,3,4,5,6,7,8,9] .done), [], V.pok, .go (jad ?_)⟩
    (conv => whnf)
    refine V.st ?_
    rw [Nat.add_sub_cancel] at bx by'
    rw [e1]
    generalize xs.getD j 0 = x at *
    generalize ys.getD j 0 = y at *
    refine And.intro (fun _ _ _ => ?_) ?_
    ·refine ⟨?_, ?_⟩ <;> simp only [V.lo, V.hi] <;> omega
    (conv => whnf)
    refine V.st ?_
    exact Fin.of (by unfold ordV; rw [if_pos hq', ← hr, if_neg hn])
   ·rw [decide_eq_false_iff_not, e1] at hn
    rw [if_pos (by omega)] at hr
    refine V.r0 e2 ?_
    exact ⟨j, ⟨by omega, hr⟩, by omega, V.wk⟩
  ·rw [decide_eq_false_iff_not] at hz
   have hk0 : k = 0 := by omega
   subst hk0
   (conv => whnf)
   refine V.st ?_
   exact Fin.of (by unfold ordV; rw [if_pos hq', ← hk.2]; rfl)
end Go.Proofs.YtgjgpdceghjajaaGreatDoor
end
