/- What functions of the program answer at given values, part 24. Conditions: those that each theorem names. -/
import Derived.Test.YtgjgpdceghjajaaGreatDoorSimplexRefinedH18
import Derived.Test.YtgjgpdceghjajaaGreatDoorSimplexRefinedH20
import Derived.Test.YtgjgpdceghjajaaGreatDoorSimplexRefinedH17
import Derived.Test.YtgjgpdceghjajaaGreatDoorSimplexRefinedH21
import Derived.Test.YtgjgpdceghjajaaGreatDoorSimplexRefinedH23
import Derived.Test.YtgjgpdceghjajaaGreatDoorSimplexRefinedH13
set_option linter.unusedSimpArgs false
set_option linter.unusedVariables false
set_option maxHeartbeats 8000000
set_option maxRecDepth 100000
section
namespace Go.Proofs.YtgjgpdceghjajaaGreatDoor
open Go Go.V Go.Nb
structure Sg (s d : List UInt8) (j : Nat) (neg : Bool) : Prop where
 hj : j = if neg then 1 else 0
 hl : s.length = d.length + j
 hg : ∀ i, s.getD (i + j) 0 = d.getD i 0
 h0 : (0 < s.length ∧ s.getD 0 0 = 45) ↔ neg = true
theorem sg_of (s : List UInt8) : ∃ d j neg, Sg s d j neg ∧ okW s = okD d neg ∧ wval s = if neg then -(rdv d : Int) else rdv d := by
 cases s with
 | nil => exact ⟨[], 0, false, ⟨rfl, rfl, fun i => rfl, by simp⟩, rfl, rfl⟩
 | cons c r =>
  by_cases hc : c = 45
  ·subst hc
   have h1 : Go.Lib.hasPrefix (45 :: r) [45] = true := by simp [Go.Lib.hasPrefix]
   have h2 : Go.Lib.trimPrefix (45 :: r) [45] = r := by unfold Go.Lib.trimPrefix; rw [h1]; rfl
   refine ⟨r, 1, true, ⟨rfl, by simp, fun i => by simp, by simp⟩, ?_, ?_⟩
   ·unfold okW; rw [h1, h2]
   ·unfold wval; rw [h1, h2]
  ·have h1 : Go.Lib.hasPrefix (c :: r) [45] = false := by
    show List.isPrefixOf [45] (c :: r) = false
    simp only [List.isPrefixOf, Bool.and_true, beq_eq_false_iff_ne]
    exact Ne.symm hc
   have h2 : Go.Lib.trimPrefix (c :: r) [45] = c :: r := by unfold Go.Lib.trimPrefix; rw [h1]; rfl
   refine ⟨c :: r, 0, false, ⟨rfl, by simp, fun i => by simp, by simp [hc]⟩, ?_, ?_⟩
   ·unfold okW; rw [h1, h2]
   ·unfold wval; rw [h1, h2]
theorem u8_eq (c : UInt8) (n : Nat) (hn : n < 256) : decide (((c.toNat : Nat) : Int) = n) = decide (c = UInt8.ofNat n) := decide_eq_decide.2 ⟨fun h => UInt8.toNat_inj.1 (by rw [UInt8.toNat_ofNat_of_lt' (by simpa using hn)]; omega), fun h => by rw [h, UInt8.toNat_ofNat_of_lt' (by simpa using hn)]⟩
theorem right01_g (s d : List UInt8) (j : Nat) (neg : Bool) (S : Sg s d j neg) (hs : s.length ≤ 281474976710656) : Called Tryz.prog 105 [.str s] (.bool (okD d neg)) := by
 obtain ⟨hj, hl, hg, h0⟩ := S
 have hJ : j ≤ 1 := by rw [hj]; split <;> omega
 have e0 : (0 : Int).toNat = 0 := rfl
 have q45 : decide (((s.getD 0 0).toNat : Int) = 45) = decide (s.getD 0 0 = 45) := u8_eq _ 45 (by omega)
 have qn : (decide ((s.length : Int) > 0) && decide (s.getD 0 0 = 45)) = neg := by
  rw [Bool.eq_iff_iff, ← h0, jh9, decide_eq_true_eq, decide_eq_true_eq]
  exact and_congr_left' (by omega)
 refine V.en tbOk Tryz.func105 ?_
 refine V.r0 (V.a3 e0 q45 qn) ?_
 refine ja7 [(3, .int .i64 j)] [] (CondB.mk (fun hq => ?_) (fun hq => ?_)) ?_
 ·subst hq
  rw [if_pos rfl] at hj
  subst hj
  (conv => whnf)
  refine V.st ?_
  exact V.wk
 ·subst hq
  rw [if_neg (by simp)] at hj
  subst hj
  (conv => whnf)
  refine V.st ?_
  exact V.wk
 have hsl : (s.length : Int) - j = d.length := by omega
 clear q45 qn h0
 refine V.r0 hsl ?_
 refine V.br (fun hq => ?_) (fun hq => ?_)
 ·simp only [Bool.or_eq_true, decide_eq_true_eq] at hq
  have hf : okD d neg = false := by
   unfold okD
   rcases hq with h | h
   ·rw [decide_eq_true (show d.length = 0 by omega)]; rfl
   ·rw [decide_eq_true (show 600 < d.length by omega), Bool.or_true]; rfl
  rw [hf]
  (conv => whnf)
  refine V.st ?_
  exact Fin.of rfl
 ·simp only [jir, decide_eq_false_iff_not] at hq
  (conv => whnf)
  refine V.st ?_
  refine jac (0 : Nat) (fun k => k ≤ d.length ∧ ∀ i, i < k → isDig (d.getD i 0) = true) (fun k => d.length - k) (fun k => [(5, .int .i64 ((k + j : Nat) : Int))]) (fun _ => []) ?_ ?_ ?_
  ·rw [jif]
   exact V.wk
  ·exact ⟨jib _, fun i hi => by omega⟩
  intro k hk
  have hkc : (((k + j : Nat) : Int) + 1) = ((k + 1 + j : Nat) : Int) := by omega
  have hkt : ((k + j : Nat) : Int).toNat = k + j := by omega
  (conv => whnf)
  refine V.st ?_
  refine V.br (fun hq2 => ?_) (fun hq2 => ?_)
  ·rw [decide_eq_true_eq] at hq2
   have hdl := dig_lo (d.getD k 0)
   have hgk := hg k
   generalize hc : d.getD k 0 = c at *
   refine V.r0 (V.a3 hkt hgk hkc) ?_
   refine V.br (fun hq3 => ?_) (fun hq3 => ?_)
   ·rw [Bool.or_eq_true, decide_eq_true_eq, decide_eq_true_eq] at hq3
    have hf : okD d neg = false := by
     have h1 : d.all isDig = false := by
      rw [List.all_eq_false]
      refine ⟨c, ?_, fun h => by have := hdl.1 h; omega⟩
      rw [← hc, jiJ, jiM (by omega)]
      exact jiN _
     unfold okD
     rw [h1, Bool.and_false, Bool.false_and]
    rw [hf]
    (conv => whnf)
    refine V.st ?_
    exact Fin.of rfl
   ·rw [jir, decide_eq_false_iff_not, decide_eq_false_iff_not] at hq3
    refine V.r0 hkc ?_
    refine ⟨k + 1, ⟨by omega, fun i hi => ?_⟩, by omega, V.wk⟩
    rcases jip i k with h | h
    ·exact hk.2 i h
    ·obtain rfl : i = k := by omega
     rw [hc]; exact hdl.2 (by omega)
  ·rw [decide_eq_false_iff_not] at hq2
   obtain rfl : k = d.length := by omega
   have hall : ∀ c ∈ d, isDig c = true := fun c hc => by
    obtain ⟨i, hi, e⟩ := List.getElem_of_mem hc
    have := hk.2 i hi
    rw [jiJ, jiM hi] at this
    rw [← e]; exact this
   have hok : okD d neg = !(decide (d.getD 0 0 = 48) && (neg || decide (1 < d.length))) := by
    unfold okD
    rw [jiI.2 hall, decide_eq_false (show ¬ d.length = 0 by omega), decide_eq_false (show ¬ 600 < d.length by omega)]
    rfl
   have hu : decide ((((d.getD 0 0).toNat : Nat) : Int) = 48) = decide (d.getD 0 0 = 48) := u8_eq _ 48 (by omega)
   have hg0 := hg 0
   rw [jif] at hg0
   have hll : decide ((s.length : Int) = 1) = !(neg || decide (1 < d.length)) := by
    by_cases hn : neg = true
    ·subst hn
     rw [if_pos rfl] at hj
     rw [decide_eq_false (by omega)]
     rfl
    ·rw [if_neg hn] at hj
     rw [Bool.eq_false_iff.2 hn, Bool.false_or]
     by_cases h1 : 1 < d.length
     ·rw [decide_eq_true h1, decide_eq_false (by omega)]; rfl
     ·rw [decide_eq_false h1, decide_eq_true (by omega)]; rfl
   have hu2 : decide ((((d.getD 0 0).toNat : Nat) : Int) ≠ 48) = !decide (d.getD 0 0 = 48) := by rw [← hu, decide_not]
   have hne : (!decide (d.getD 0 0 = 48) || !(neg || decide (1 < d.length))) = okD d neg := by rw [hok, Bool.not_and]
   refine V.r0 (V.a5 @jih hg0 hu2 hll hne) ?_
   exact Fin.of rfl
theorem rdv_chunk (d : List UInt8) (hd : ∀ c ∈ d, isDig c = true) (m : Nat) (hm : m ≤ d.length) : rdv (d.take m) / 10000 = rdv (d.take (m - 4)) ∧ rdv (d.take m) % 10000 = rdv ((d.take m).drop (m - 4)) := by
 have e : d.take m = d.take (m - 4) ++ (d.take m).drop (m - 4) := by
  conv => lhs; rw [← List.take_append_drop (m - 4) (d.take m), List.take_take, Nat.min_eq_left (by omega)]
 have hb := jfs (s := (d.take m).drop (m - 4)) (fun c hc => hd c (jiV (jiU hc)))
 have hl : ((d.take m).drop (m - 4)).length = m - (m - 4) := by rw [ji7, jiQ]; omega
 rw [hl] at hb
 have ev : rdv (d.take m) = rdv (d.take (m - 4)) * 10 ^ (m - (m - 4)) + rdv ((d.take m).drop (m - 4)) := by
  conv => lhs; rw [e]
  rw [jbb, hl]
 rw [ev]
 generalize rdv ((d.take m).drop (m - 4)) = y at *
 rcases (by omega : m < 4 ∨ 4 ≤ m) with h | h
 ·have h0 : m - 4 = 0 := by omega
  have h10 : 10 ^ (m - (m - 4)) ≤ 10000 := by
   rw [h0]
   rcases (by omega : m = 0 ∨ m = 1 ∨ m = 2 ∨ m = 3) with e | e | e | e <;> subst e <;> decide
  rw [h0, List.take_zero, show rdv [] = 0 from rfl, Nat.zero_mul]
  omega
 ·rw [show m - (m - 4) = 4 by omega, show (10 : Nat) ^ 4 = 10000 from rfl] at *
  omega
theorem rdv_next (d : List UInt8) (lo k : Nat) (h1 : lo ≤ k) (h2 : k < d.length) : rdv ((d.take (k + 1)).drop lo) = rdv ((d.take k).drop lo) * 10 + ((d.getD k 0).toNat - 48) := by
 have e : (d.take (k + 1)).drop lo = (d.take k).drop lo ++ [d.getD k 0] := by
  rw [ji9, jiM h2, jiX (by rw [jiQ]; omega), jiJ, jiM h2]
  rfl
 rw [e, jbb, jdK]
 rfl
theorem in01_g (s d : List UInt8) (j : Nat) (neg : Bool) (S : Sg s d j neg) (hd : ∀ c ∈ d, isDig c = true) (hdl : d.length ≤ 600) (hs0 : 0 < s.length) :
  Called Tryz.prog 73 [.str s] (plD (if neg then -(rdv d : Int) else rdv d)) := by
 obtain ⟨hj, hl, hg, h0⟩ := S
 have hJ : j ≤ 1 := by rw [hj]; split <;> omega
 have e0 : (0 : Int).toNat = 0 := rfl
 have q45 : decide (((s.getD 0 0).toNat : Int) = 45) = neg := by
  rw [show (45 : Int) = ((45 : Nat) : Int) from rfl, u8_eq _ 45 (by omega), Bool.eq_iff_iff, ← h0, decide_eq_true_eq]
  exact ⟨fun h => ⟨hs0, h⟩, fun h => h.2⟩
 refine V.en tbOk Tryz.func73 ?_
 refine V.r0 (V.a2 e0 q45) ?_
 refine ja7 [(3, .int .i64 j)] [] (CondB.mk (fun hq => ?_) (fun hq => ?_)) ?_
 ·subst hq
  rw [if_pos rfl] at hj
  subst hj
  (conv => whnf)
  refine V.st ?_
  exact V.wk
 ·subst hq
  rw [if_neg (by simp)] at hj
  subst hj
  (conv => whnf)
  refine V.st ?_
  exact V.wk
 (conv => whnf)
 refine V.st ?_
 refine Lp.ghostSlot 38 4 .i64 (by decide) ?_
 (conv => whnf)
 refine jac (((s.length : Int), d.length, []) : Int × Nat × List Int) (fun st => st.2.1 ≤ d.length ∧ (st.1 = (st.2.1 + j : Nat) ∨ (st.2.1 = 0 ∧ st.1 < j ∧ (j : Int) - 4 ≤ st.1)) ∧ val 10000 st.2.2 + ((10000 : Nat) : Int) ^ st.2.2.length * ((rdv (d.take st.2.1) : Nat) : Int) = ((rdv d : Nat) : Int) ∧ Dg 10000 st.2.2 ∧ st.2.2.length + (st.2.1 + 3) / 4 ≤ 151) (fun st => st.2.1) (fun st => [(5, .int .i64 st.1), (4, .osl 38 0 st.2.2.length)]) (fun st => [(38, .arr .i64 st.2.2)]) ?_ ?_ ?_
 ·exact V.wk
 ·exact ⟨jii _, .inl (by dsimp only; omega), by simp [val], fun x hx => by simp at hx, by dsimp only [List.length_nil]; omega⟩
 rintro ⟨e, m, out⟩ ⟨h1, h2, h3, h4, h5⟩
 dsimp only at h1 h2 h3 h4 h5 ⊢
 (conv => whnf)
 refine V.st ?_
 refine V.br (fun hq => ?_) (fun hq => ?_)
 ·rw [decide_eq_true_eq] at hq
  have he : e = ((m + j : Nat) : Int) := by omega
  have hm0 : 0 < m := by omega
  subst he
  obtain ⟨lo, hlo⟩ : ∃ lo, lo = m - 4 := ⟨_, rfl⟩
  have hmx : max (((m + j : Nat) : Int) - 4) (j : Int) = ((lo + j : Nat) : Int) := by omega
  have hch := rdv_chunk d hd m h1
  rw [← hlo] at hch
  have hst := jep (B := 10000) (by omega) h3
  rw [hch.1, hch.2] at hst
  have hbd : ∀ i, lo + i ≤ m → rdv ((d.take (lo + i)).drop lo) < 10000 := fun i hi => by
   have hl1 : ((d.take (lo + i)).drop lo).length ≤ 4 := by rw [ji7, jiQ]; omega
   have := jfs (s := (d.take (lo + i)).drop lo) (fun c hc => hd c (jiV (jiU hc)))
   have h2 : (10 : Nat) ^ ((d.take (lo + i)).drop lo).length ≤ 10 ^ 4 := jiy (by omega) hl1
   omega
  have hnx : ∀ i, lo + i < m → rdv ((d.take (lo + (i + 1))).drop lo) = rdv ((d.take (lo + i)).drop lo) * 10 + ((d.getD (lo + i) 0).toNat - 48) := fun i hi => by
   rw [← Nat.add_assoc]
   exact rdv_next d lo (lo + i) (by omega) (by omega)
  have hx0 : rdv ((d.take (lo + 0)).drop lo) = 0 := by
   have hnil : (d.take lo).drop lo = [] := List.drop_eq_nil_of_le (by rw [jiQ]; omega)
   rw [Nat.add_zero, hnil]; rfl
  refine V.r0 hmx ?_
  refine jac (0 : Nat) (fun i => lo + i ≤ m) (fun i => m - (lo + i)) (fun i => [(7, .int .i64 ((lo + i + j : Nat) : Int)), (6, .int .i64 ((rdv ((d.take (lo + i)).drop lo) : Nat) : Int))]) (fun _ => []) ?_ ?_ ?_
  ·rw [hx0]
   exact V.wk
  ·show lo + 0 ≤ m
   omega
  intro i hi
  have hi2 := hbd i hi
  (conv => whnf)
  refine V.st ?_
  refine V.br (fun hq2 => ?_) (fun hq2 => ?_)
  ·rw [decide_eq_true_eq] at hq2
   have hn2 := hnx i (by omega)
   have hgi := hg (lo + i)
   have hdc : isDig (d.getD (lo + i) 0) = true := hd _ (by rw [jiJ, jiM (by omega)]; exact jiN _)
   have hdl2 := (dig_lo _).1 hdc
   have hi3 := hbd (i + 1) (by omega)
   generalize d.getD (lo + i) 0 = c at *
   have hkt : ((lo + i + j : Nat) : Int).toNat = lo + i + j := by omega
   have hkc : (((lo + i + j : Nat) : Int) + 1) = ((lo + (i + 1) + j : Nat) : Int) := by omega
   have hsum : ((rdv ((d.take (lo + i)).drop lo) : Nat) : Int) * 10 + ((c.toNat : Int) - 48) = ((rdv ((d.take (lo + (i + 1))).drop lo) : Nat) : Int) := by
    rw [hn2]; omega
   refine V.r0 (V.a4 hkt hgi hkc hsum) ?_
   exact ⟨i + 1, by omega, by omega, V.wk⟩
  ·rw [decide_eq_false_iff_not] at hq2
   have hmi : lo + i = m := by omega
   rw [hmi]
   have hl2 : (out ++ [((rdv ((d.take m).drop lo) : Nat) : Int)]).length = out.length + 1 := by simp
   have hl3 : out.length + (List.take 1 (List.drop 0 [((rdv ((d.take m).drop lo) : Nat) : Int)])).length = (out ++ [((rdv ((d.take m).drop lo) : Nat) : Int)]).length := by simp
   have hdg : Dg 10000 (out ++ [((rdv ((d.take m).drop lo) : Nat) : Int)]) := jah h4 (jau ⟨by omega, by have := hbd i hi; rw [hmi] at this; omega⟩)
   refine V.r0 hl3 ?_
   try refine And.intro (fun _ => ⟨trivial, by omega⟩) ?_
   refine V.r0 hl3 ?_
   exact ⟨(((m + j : Nat) : Int) - 4, lo, out ++ [((rdv ((d.take m).drop lo) : Nat) : Int)]), ⟨by dsimp only; omega, by dsimp only; omega, hst, hdg, by dsimp only; omega⟩, by dsimp only; omega, V.wk⟩
 ·rw [decide_eq_false_iff_not] at hq
  have hm0 : m = 0 := by omega
  subst hm0
  have hv : val 10000 out = ((rdv d : Nat) : Int) := by
   rw [List.take_zero, show rdv [] = 0 from rfl] at h3
   simpa using h3
  have hmd := jeL neg out h4 (by omega)
  rw [hv] at hmd
  have e1 : decide ((j : Int) = 1) = neg := by
   cases neg with
   | true => rw [if_pos rfl] at hj; rw [hj]; rfl
   | false => rw [if_neg (by simp)] at hj; rw [hj]; rfl
  refine V.r1 (V.a2 @e1 @jja) hmd ?_
  exact Fin.of rfl
theorem jdb (x y : Int) (hx : Sm 40000000 x) (hy : Sm 40000000 y) : Called Tryz.prog 109 [plD x, plD y] (plD (x * y)) := by
 unfold Sm at hx hy
 have hl := jbE (B := 10000) (by omega) x.natAbs y.natAbs
 have hp := jeE (mg 10000 x.natAbs) (mg 10000 y.natAbs) (by omega) (by omega) (mg_dg (by omega) _) (fun j => by
  have := jam (B := 10000) (by omega) (mg_dg (B := 10000) (by omega) y.natAbs) j
  omega)
 rw [jaC (by omega), jaC (by omega), ← jis, jih] at hp
 have hm := jdQ (!(decide (x < 0) == decide (y < 0))) (x.natAbs * y.natAbs) (by omega)
 have e : (if (!(decide (x < 0) == decide (y < 0))) = true then -((x.natAbs * y.natAbs : Nat) : Int) else ((x.natAbs * y.natAbs : Nat) : Int)) = x * y := by
  rw [jis]
  by_cases h : x < 0
  ·have e1 : (x.natAbs : Int) = -x := by omega
   by_cases h2 : y < 0
   ·have e2 : (y.natAbs : Int) = -y := by omega
    rw [e1, e2]; simp [h, h2, Int.neg_mul_neg]
   ·have e2 : (y.natAbs : Int) = y := by omega
    rw [e1, e2]; simp [h, h2, Int.neg_mul]
  ·have e1 : (x.natAbs : Int) = x := by omega
   by_cases h2 : y < 0
   ·have e2 : (y.natAbs : Int) = -y := by omega
    rw [e1, e2]; simp [h, h2, Int.mul_neg]
   ·have e2 : (y.natAbs : Int) = y := by omega
    rw [e1, e2]; simp [h, h2]
 rw [e] at hm
 rw [show plD x = .agg [.bool (decide (x < 0)), .ints .i64 (mg 10000 x.natAbs)] from rfl, show plD y = .agg [.bool (decide (y < 0)), .ints .i64 (mg 10000 y.natAbs)] from rfl]
 refine V.en tbOk Tryz.func109 ?_
 (conv => whnf)
 refine V.st ?_
 refine ⟨(V.tk [0,1,2,3,4,5,6,7,8] (V.e1 9 [4,3,2,1,0] (V.e1 10 [] (V.e1 11 [] .done)))), [], V.pok, .go (jad ?_)⟩
 (conv => whnf)
 refine V.st ?_
 repeat ((try ((with_reducible refine .ext ?_); (conv => whnf))); (with_reducible refine jaa (r := ?_) ?_ ?_); rotate_left; (focus (first | exact (hp) | exact (hm))); (conv => whnf); refine V.st ?_)
 exact Fin.of rfl
theorem order01_c (x y : Int) (hx : Sm 80000000 x) (hy : Sm 80000000 y) : Called Tryz.prog 108 [plD x, plD y] (.int .i64 (x - y).sign) := by
 have hm := minus_c x y (hx.mono (by omega)) (hy.mono (by omega))
 have hn := jb8 (B := 10000) (n := (x - y).natAbs) (by omega)
 have hz : Sm 80000001 (x - y) := by rw [Int.sub_eq_add_neg]; exact hx.add hy.neg
 unfold Sm at hz
 rw [show plD (x - y) = .agg [.bool (decide (x - y < 0)), .ints .i64 (mg 10000 (x - y).natAbs)] from rfl] at hm
 generalize x - y = z at *
 generalize mg 10000 z.natAbs = xs at *
 refine V.en tbOk Tryz.func108 ?_
 (conv => whnf)
 refine V.st ?_
 repeat ((try ((with_reducible refine .ext ?_); (conv => whnf))); (with_reducible refine jaa (r := ?_) ?_ ?_); rotate_left; (focus (first | exact (hm))); (conv => whnf); refine V.st ?_)
 refine V.br (fun hq => ?_) (fun hq => ?_)
 ·rw [decide_eq_true_eq] at hq
  (conv => whnf)
  refine V.st ?_
  exact Fin.of (by rw [jiF hq])
 ·rw [decide_eq_false_iff_not] at hq
  (conv => whnf)
  refine V.st ?_
  refine V.br (fun hq2 => ?_) (fun hq2 => ?_)
  ·rw [decide_eq_true_eq] at hq2
   have h0 : z ≠ 0 := fun e => by
    have := hn.2 (by rw [e]; rfl)
    rw [this] at hq2; simp at hq2
   (conv => whnf)
   refine V.st ?_
   exact Fin.of (by rw [jiG (by omega)])
  ·rw [decide_eq_false_iff_not] at hq2
   have h0 := hn.1 (jiK.1 (by omega))
   (conv => whnf)
   refine V.st ?_
   exact Fin.of (by rw [show z = 0 by omega]; rfl)
def Q4 (k : Nat) (q : Rat) : Prop := Sm k q.num ∧ Sm k (q.den : Int)
theorem Q4.mono {k l : Nat} {q : Rat} (h : Q4 k q) (hl : k ≤ l) : Q4 l q := ⟨h.1.mono hl, h.2.mono hl⟩
theorem Q4.neg {k : Nat} {q : Rat} (h : Q4 k q) : Q4 k (-q) := ⟨by rw [Rat.neg_num]; exact h.1.neg, by rw [Rat.neg_den]; exact h.2⟩
theorem Q4.of {k : Nat} {n d : Int} (hn : Sm k n) (hd : Sm k d) (hd0 : d ≠ 0) : Q4 k (Rat.divInt n d) := by
 have h1 := jhk n d hd0
 have h2 := jhl n d hd0
 have h3 := jbs (if d < 0 then -n else n) (Int.gcd (if d < 0 then -n else n) (if d < 0 then -d else d))
 have h4 := jbs (if d < 0 then -d else d) (Int.gcd (if d < 0 then -n else n) (if d < 0 then -d else d))
 rw [h1] at h3
 rw [h2] at h4
 have e1 : (if d < 0 then -n else n).natAbs = n.natAbs := by split <;> simp
 have e2 : (if d < 0 then -d else d).natAbs = d.natAbs := by split <;> simp
 exact ⟨hn.le (by omega), hd.le (by omega)⟩
theorem plN (n : Nat) : plD (n : Int) = .agg [.bool false, .ints .i64 (mg 10000 n)] := by
 unfold plD
 rw [decide_eq_false (by omega), jix]
theorem jfA (x y : Rat) : x * y = Rat.divInt (x.num * y.num) ((x.den : Int) * (y.den : Int)) := by
 conv => lhs; rw [← jiH x, ← jiH y]
 rw [Rat.divInt_mul_divInt]
theorem den_ne (x : Rat) : (x.den : Int) ≠ 0 := by have := x.den_pos; omega
theorem times02_c (x y : Rat) (hx : Q4 40000000 x) (hy : Q4 40000000 y) : Called Tryz.prog 91 [raD x, raD y] (raD (x * y)) := by
 have h1 := jdb x.num y.num hx.1 hy.1
 have h2 := jdb x.den y.den hx.2 hy.2
 have h3 := lowest_c (x.num * y.num) ((x.den : Int) * (y.den : Int)) (hx.1.mul hy.1) (hx.2.mul hy.2) (Int.mul_ne_zero (den_ne x) (den_ne y))
 rw [← jfA] at h3
 rw [plN, plN] at h2
 refine V.en tbOk Tryz.func91 ?_
 (conv => whnf)
 refine V.st ?_
 refine ⟨(V.tk [0,1,2,3,5,6,7,8] (V.e1 4 [8,7,6,5] (V.e1 9 [] (V.e1 10 [] (V.e1 11 [] .done))))), [], V.pok, .go (jad ?_)⟩
 (conv => whnf)
 refine V.st ?_
 repeat ((try ((with_reducible refine .ext ?_); (conv => whnf))); (with_reducible refine jaa (r := ?_) ?_ ?_); rotate_left; (focus (first | exact (h1) | exact (h2) | exact (h3))); (conv => whnf); refine V.st ?_)
 exact Fin.of rfl
theorem order02_c (x y : Rat) (hx : Q4 40000000 x) (hy : Q4 40000000 y) : Called Tryz.prog 65 [raD x, raD y] (.int .i64 (ordQ x y)) := by
 have h1 := jdb x.num y.den hx.1 hy.2
 have h2 := jdb y.num x.den hy.1 hx.2
 have h3 := order01_c (x.num * y.den) (y.num * x.den) (hx.1.mul hy.2) (hy.1.mul hx.2)
 rw [Int.sub_eq_add_neg, jeG] at h3
 rw [plN] at h1 h2
 refine V.en tbOk Tryz.func65 ?_
 (conv => whnf)
 refine V.st ?_
 refine ⟨(V.tk [0,1,2,3,5,6,7,8] (V.e1 4 [8,7,6,5] (V.e1 9 [] (V.e1 10 [] (V.tk [11] .done))))), [], V.pok, .go (jad ?_)⟩
 (conv => whnf)
 refine V.st ?_
 repeat ((try ((with_reducible refine .ext ?_); (conv => whnf))); (with_reducible refine jaa (r := ?_) ?_ ?_); rotate_left; (focus (first | exact (h1) | exact (h2) | exact (h3))); (conv => whnf); refine V.st ?_)
 exact Fin.of rfl
theorem Q4.mul {k l : Nat} {x y : Rat} (h : Q4 k x) (g : Q4 l y) : Q4 (k + l) (x * y) := by
 rw [jfA]
 exact Q4.of (h.1.mul g.1) (h.2.mul g.2) (Int.mul_ne_zero (den_ne x) (den_ne y))
theorem jgy (s : List UInt8) (hs : s.length ≤ 281474976710656) : Called Tryz.prog 105 [.str s] (.bool (okW s)) := by
 obtain ⟨d, j, neg, S, e1, _⟩ := sg_of s
 rw [e1]
 exact right01_g s d j neg S hs
theorem in01_c (s : List UInt8) (h : okW s = true) : Called Tryz.prog 73 [.str s] (plD (wval s)) := by
 obtain ⟨d, j, neg, S, e1, e2⟩ := sg_of s
 rw [e2]
 rw [e1] at h
 unfold okD at h
 simp only [jh9, Bool.not_eq_true', jir, decide_eq_false_iff_not, jiI] at h
 exact in01_g s d j neg S h.1.2 (by omega) (by have := S.hl; omega)
theorem jdI {s : List UInt8} (h : okW s = true) : Sm 151 (wval s) := by
 obtain ⟨d, j, neg, S, e1, e2⟩ := sg_of s
 rw [e1] at h
 unfold okD at h
 simp only [jh9, Bool.not_eq_true', jir, decide_eq_false_iff_not, jiI] at h
 have hlt := jfs (s := d) h.1.2
 have h2 : ∀ k, d.length ≤ 4 * k → rdv d < 10000 ^ k := fun k hk => by
  refine jio hlt ?_
  rw [show (10000 : Nat) = 10 ^ 4 from rfl, ← Nat.pow_mul]
  exact jiy (by omega) hk
 have e : (wval s).natAbs = rdv d := by
  rw [e2]; split <;> omega
 unfold Sm
 rw [e]
 exact jav (by omega) (h2 151 (by omega))
theorem jdl (s t : List UInt8) (hs : s.length ≤ 281474976710656) (ht : t.length ≤ 281474976710656) : Called Tryz.prog 63 [.agg [.str s, .str t]] (.bool (okP s t)) := by
  have r1 := jgy s hs
  have r2 := jgy t ht
  by_cases h1 : okW s = true
  · rw [h1] at r1
    by_cases h2 : okW t = true
    · rw [h2] at r2
      have i1 := in01_c s h1
      have i2 := in01_c t h2
      have g1 := je4 (wval s) (wval t) ((jdI h1).mono (by omega)) ((jdI h2).mono (by omega))
      have hz := jb8 (B := 10000) (n := (wval t).natAbs) (by omega)
      have gl : Sm 151 (Int.gcd (wval s) (wval t) : Int) := by
        by_cases h0 : wval t = 0
        · rw [h0, Int.gcd_zero_right]
          exact (jdI h1).le (by omega)
        · exact (jdI h2).le (by
            rw [jix]
            exact Nat.le_of_dvd (by omega) (Int.ofNat_dvd_left.1 (Int.gcd_dvd_right _ _)))
      have x1 := text_c _ (gl.mono (by omega))
      have hp : okP s t = (decide (0 < wval t) && decide (decZ (Int.gcd (wval s) (wval t) : Int) = [49])) := by
        unfold okP
        rw [h1, h2, Bool.true_and, Bool.true_and]
        congr 1
        refine decide_eq_decide.2 ⟨fun h => ?_, fun h => ?_⟩
        · rw [show Int.gcd (wval s) (wval t) = 1 from h]; decide
        · have := jbt (Int.gcd (wval s) (wval t) : Int)
          rw [h] at this
          have e49 : wval [49] = 1 := by decide
          rw [e49] at this
          show Int.gcd (wval s) (wval t) = 1
          omega
      rw [hp]
      clear hp gl
      generalize wval s = x at *
      generalize wval t = y at *
      generalize (Int.gcd x y : Int) = g at *
      generalize decZ g = gt at *
      have hy : (decide (y < 0) || decide ((((mg 10000 y.natAbs).length : Nat) : Int) = 0)) = !decide (0 < y) := by
        rw [Bool.eq_iff_iff]
        simp only [Bool.or_eq_true, decide_eq_true_eq, Bool.not_eq_true', decide_eq_false_iff_not]
        constructor
        · rintro (h | h)
          · omega
          · have : mg 10000 y.natAbs = [] := jiK.1 (by omega)
            have := hz.1 this
            omega
        · intro h
          by_cases h0 : y < 0
          · exact .inl h0
          · right
            have : mg 10000 y.natAbs = [] := hz.2 (by omega)
            rw [this]; rfl
      unfold plD at *
      refine V.en tbOk Tryz.func63 ?_
      (conv => whnf)
      refine V.st ?_
      repeat ((try ((with_reducible refine .ext ?_); (conv => whnf))); (with_reducible refine jaa (r := ?_) ?_ ?_); rotate_left; (focus (first | exact (r1) | exact (r2))); (conv => whnf); refine V.st ?_)
      refine ⟨(V.tk [0,1,3,4] (.ev (.cons 2 [4,3] (.ev (.cons 5 [] (.ev (.cons 6 [] (V.e1 7 [] (V.e1 8 [] (V.e1 9 [] .done))) (.cons 7 [] (V.e1 6 [] (V.e1 8 [] (V.e1 9 [] .done))) .nil))) (.cons 6 [4,3] (.ev (.cons 5 [] (V.e1 7 [] (V.e1 8 [] (V.e1 9 [] .done))) (.cons 7 [4,3] (V.e1 5 [] (V.e1 8 [] (V.e1 9 [] .done))) .nil))) (.cons 7 [4,3] (.ev (.cons 5 [] (V.e1 6 [] (V.e1 8 [] (V.e1 9 [] .done))) (.cons 6 [4,3] (V.e1 5 [] (V.e1 8 [] (V.e1 9 [] .done))) .nil))) .nil)))) (.cons 6 [4,3,1,0] (.ev (.cons 2 [4,3] (.ev (.cons 5 [] (V.e1 7 [] (V.e1 8 [] (V.e1 9 [] .done))) (.cons 7 [4,3] (V.e1 5 [] (V.e1 8 [] (V.e1 9 [] .done))) .nil))) (.cons 7 [4,3,1,0] (V.e1 2 [4,3] (V.e1 5 [] (V.e1 8 [] (V.e1 9 [] .done)))) .nil))) (.cons 7 [4,3,1,0] (.ev (.cons 2 [4,3] (.ev (.cons 5 [] (V.e1 6 [] (V.e1 8 [] (V.e1 9 [] .done))) (.cons 6 [4,3] (V.e1 5 [] (V.e1 8 [] (V.e1 9 [] .done))) .nil))) (.cons 6 [4,3,1,0] (V.e1 2 [4,3] (V.e1 5 [] (V.e1 8 [] (V.e1 9 [] .done)))) .nil))) .nil))))), [], V.pok, ?_⟩
      refine jab [(3, .box 3 0), (4, .box 4 0)] [(3, .box [.bool (decide (x < 0)), .ints .i64 (mg 10000 x.natAbs)]), (4, .box [.bool (decide (y < 0)), .ints .i64 (mg 10000 y.natAbs)])] ?_ ?_
      · exact V.d2 @jif i1 i2
      refine V.r0 hy ?_
      refine V.br (fun hq => ?_) (fun hq => ?_)
      · simp only [Bool.not_eq_true', decide_eq_false_iff_not] at hq
        rw [decide_eq_false hq, Bool.false_and]
        (conv => whnf)
        refine V.st ?_
        exact Fin.of rfl
      · simp only [Bool.not_eq_false', decide_eq_true_eq] at hq
        rw [decide_eq_true hq, Bool.true_and]
        (conv => whnf)
        refine V.st ?_
        repeat ((try ((with_reducible refine .ext ?_); (conv => whnf))); (with_reducible refine jaa (r := ?_) ?_ ?_); rotate_left; (focus (first | exact (g1) | exact (x1))); (conv => whnf); refine V.st ?_)
        exact Fin.of rfl
    · rw [Bool.eq_false_iff.2 h2] at r2
      have hp : okP s t = false := by unfold okP; rw [Bool.eq_false_iff.2 h2, Bool.and_false, Bool.false_and, Bool.false_and]
      rw [hp]
      refine V.en tbOk Tryz.func63 ?_
      (conv => whnf)
      refine V.st ?_
      repeat ((try ((with_reducible refine .ext ?_); (conv => whnf))); (with_reducible refine jaa (r := ?_) ?_ ?_); rotate_left; (focus (first | exact (r1) | exact (r2))); (conv => whnf); refine V.st ?_)
      exact Fin.of rfl
  · rw [Bool.eq_false_iff.2 h1] at r1
    have hp : okP s t = false := by unfold okP; rw [Bool.eq_false_iff.2 h1, Bool.false_and, Bool.false_and, Bool.false_and]
    rw [hp]
    refine V.en tbOk Tryz.func63 ?_
    (conv => whnf)
    refine V.st ?_
    repeat ((try ((with_reducible refine .ext ?_); (conv => whnf))); (with_reducible refine jaa (r := ?_) ?_ ?_); rotate_left; (focus (first | exact (r1) | exact (r2))); (conv => whnf); refine V.st ?_)
    refine V.br (fun hq => ?_) (fun hq => ?_)
    · (conv => whnf)
      refine V.st ?_
      exact Fin.of rfl
    · simp at hq
theorem q4_qv {s t : List UInt8} (h : okP s t = true) : Q4 151 (qv s t) := by
 obtain ⟨h1, h2, h3, h4⟩ := jfz h
 obtain ⟨p1, p2⟩ := jef h
 exact ⟨by rw [p1]; exact jdI h1, by rw [p2]; exact (jdI h2).le (by omega)⟩
theorem in02_c (s t : List UInt8) (h : okP s t = true) : Called Tryz.prog 64 [.agg [.str s, .str t]] (raD (qv s t)) := by
 obtain ⟨h1, h2, h3, h4⟩ := jfz h
 obtain ⟨p1, p2⟩ := jef h
 have i1 := in01_c s h1
 have i2 := in01_c t h2
 unfold raD
 rw [p1, p2]
 unfold plD at i1 i2
 rw [decide_eq_false (show ¬ wval t < 0 by omega)] at i2
 refine V.en tbOk Tryz.func64 ?_
 (conv => whnf)
 refine V.st ?_
 refine ⟨(V.tk [0,1,3,4] (V.e1 2 [4,3] (V.e1 5 [] (V.tk [6] (V.e1 7 [] .done))))), [], V.pok, .go (jad ?_)⟩
 (conv => whnf)
 refine V.st ?_
 repeat ((try ((with_reducible refine .ext ?_); (conv => whnf))); (with_reducible refine jaa (r := ?_) ?_ ?_); rotate_left; (focus (first | exact (i1) | exact (i2))); (conv => whnf); refine V.st ?_)
 exact Fin.of rfl
theorem jcC {s t : List UInt8} (h : okP s t = true) : s.length ≤ 281474976710656 ∧ t.length ≤ 281474976710656 := by
 obtain ⟨h1, h2, _, _⟩ := jfz h
 have l1 := (jbY h1).1
 have l2 := (jbY h2).1
 omega
theorem pow_4 (k : Nat) : (10000 : Nat) ^ k = 10 ^ (4 * k) := by rw [show (10000 : Nat) = 10 ^ 4 from rfl, ← Nat.pow_mul]
theorem sm_nat {x : Nat} {k : Nat} (hk : k ≤ 90000000) (h : x < 10 ^ (4 * k)) : (mg 10000 x).length ≤ 90000000 :=
 jiq (jav (k := k) (by omega) (by rw [pow_4]; exact h)) hk
theorem sm_fq {n : Nat} {q : Rat} (h : Fq n q) (h6 : n ≤ 600) : Sm 90000000 q.num ∧ Sm 90000000 (q.den : Int) := by
 have h2 := h.mono (n := 4 * 150) (by omega)
 obtain ⟨k, hk⟩ : ∃ k, 150 = k := ⟨_, rfl⟩
 rw [hk] at h2
 exact ⟨sm_nat (by omega) h2.1, by unfold Sm; rw [jix]; exact sm_nat (by omega) h2.2⟩
theorem rmul (s t u v : List UInt8) (h : okP s t = true) (g : okP u v = true) (hn : Sm 90000000 (qv s t * qv u v).num) (hd : Sm 90000000 ((qv s t * qv u v).den : Int)) : Called Tryz.prog 50 [.agg [.str s, .str t], .agg [.str u, .str v]] (frR (qv s t * qv u v)) := by
 have r1 := jdl s t (jcC h).1 (jcC h).2
 have r2 := jdl u v (jcC g).1 (jcC g).2
 rw [h] at r1
 rw [g] at r2
 have i1 := in02_c s t h
 have i2 := in02_c u v g
 have o := times02_c (qv s t) (qv u v) ((q4_qv h).mono (by omega)) ((q4_qv g).mono (by omega))
 have w := out02_c (qv s t * qv u v) hn hd
 generalize qv s t * qv u v = q at *
 generalize qv s t = q1 at *
 generalize qv u v = q2 at *
 unfold frR at w ⊢
 refine V.en tbOk Tryz.func50 ?_
 (conv => whnf)
 refine V.st ?_
 repeat ((try ((with_reducible refine .ext ?_); (conv => whnf))); (with_reducible refine jaa (r := ?_) ?_ ?_); rotate_left; (focus (first | exact (r1) | exact (r2))); (conv => whnf); refine V.st ?_)
 refine ⟨(V.tk [0,2] (V.e1 1 [2] (V.e1 3 [] (V.e1 4 [] (V.e1 5 [] (V.tk [6,7] (V.e1 8 [] (V.tk [9] .done)))))))), [], V.pok, .go (jad ?_)⟩
 (conv => whnf)
 refine V.st ?_
 repeat ((try ((with_reducible refine .ext ?_); (conv => whnf))); (with_reducible refine jaa (r := ?_) ?_ ?_); rotate_left; (focus (first | exact (i1) | exact (i2) | exact (o) | exact (w))); (conv => whnf); refine V.st ?_)
 exact Fin.of rfl
theorem zrmul {a b : Nat} {p q : Rat} (h : Fq a p) (g : Fq b q) (ha : 0 < a) (hb : 0 < b) (hab : a + b + 1 ≤ 600) : Called Tryz.prog 50 [frT p, frT q] (.tup [frT (p * q), .int .i64 0]) := by
 obtain ⟨o1, e1⟩ := jaM (h.ok ha (by omega))
 obtain ⟨o2, e2⟩ := jaM (g.ok hb (by omega))
 have hs := h.mul g
 have hm := sm_fq hs (by omega)
 have c := rmul _ _ _ _ o1 o2 (by rw [e1, e2]; exact hm.1) (by rw [e1, e2]; exact hm.2)
 rw [e1, e2, jd7 (hs.ok (by omega) (by omega))] at c
 exact c
theorem y_one : Fq 1 1 := ⟨by decide, by decide⟩
theorem y_small {n m : Int} (hn : -9223372036854775807 ≤ n ∧ n ≤ 9223372036854775807) (hm : 1 ≤ m ∧ m ≤ 9223372036854775807) : Fq 20 (Rat.divInt n m) := by
 obtain ⟨d, rfl⟩ : ∃ d : Nat, m = d := ⟨m.toNat, by omega⟩
 exact jaD (by omega) (by omega) (by omega)
theorem y_of {n m : Int} (hn : -9223372036854775807 ≤ n ∧ n ≤ 9223372036854775807) (hm : 1 ≤ m ∧ m ≤ 9223372036854775807) : Called Tryz.prog 97 [.int .i64 n, .int .i64 m] (.tup [frT (Rat.divInt n m), .int .i64 0]) := by
 rw [← jd7 ((y_small hn hm).ok (by omega) (by omega))]
 exact of_c n m (by simp [InR, V.lo, V.hi]; omega) (by simp [InR, V.lo, V.hi]; omega) (by omega)
theorem y_rof {n m : Int} (hn : -9223372036854775807 ≤ n ∧ n ≤ 9223372036854775807) (hm : 1 ≤ m ∧ m ≤ 9223372036854775807) : Called Tryz.prog 46 [.int .i64 n, .int .i64 m] (.tup [frT (Rat.divInt n m), .int .i64 0]) := by
 rw [← jd7 ((y_small hn hm).ok (by omega) (by omega))]
 exact of02_c n m (by simp [InR, V.lo, V.hi]; omega) (by simp [InR, V.lo, V.hi]; omega) (by omega)
def sm (f : Nat → Rat) : Nat → Rat
 | 0 => 0
 | k + 1 => sm f k + f k
theorem jbr {f g : Nat → Rat} : ∀ {k : Nat}, (∀ i, i < k → f i = g i) → sm f k = sm g k
 | 0, _ => rfl
 | k + 1, h => by
  simp only [sm]
  rw [jbr (k := k) fun i hi => h i (by omega), h k (by omega)]
theorem sm_add (f g : Nat → Rat) : ∀ k, sm (fun i => f i + g i) k = sm f k + sm g k
 | 0 => by simp only [sm]; grind
 | k + 1 => by
  simp only [sm]
  rw [sm_add f g k]
  grind
theorem sm_mul (c : Rat) (f : Nat → Rat) : ∀ k, sm (fun i => c * f i) k = c * sm f k
 | 0 => by simp only [sm]; grind
 | k + 1 => by
  simp only [sm]
  rw [sm_mul c f k]
  grind
theorem jdc (c : Rat) : ∀ k : Nat, sm (fun _ => c) k = ((k : Int) : Rat) * c
 | 0 => by simp [sm]
 | k + 1 => by
  simp only [sm]
  rw [jdc c k, Int.natCast_add, Rat.intCast_add]
  grind
theorem sm_ind (R : Nat) : ∀ k, R ≤ k → sm (fun t => if t < R then 1 else 0) k = ((R : Int) : Rat)
 | 0, h => by
  have : R = 0 := by omega
  subst this
  simp [sm]
 | k + 1, h => by
  simp only [sm]
  by_cases e : R = k + 1
  ·subst e
   rw [if_pos (by omega), jbr (g := fun _ => 1) fun i hi => if_pos (by omega), jdc, Int.natCast_add, Rat.intCast_add]
   grind
  ·rw [if_neg (by omega), sm_ind R k (by omega)]
   grind
theorem sm_le {f g : Nat → Rat} : ∀ {k : Nat}, (∀ i, i < k → f i ≤ g i) → sm f k ≤ sm g k
 | 0, _ => Rat.le_refl
 | k + 1, h => by
  simp only [sm]
  have h1 := sm_le (k := k) fun i hi => h i (by omega)
  have h2 := h k (by omega)
  grind
theorem lvl {N b R t : Int} (hN : 0 < N) (h0 : 0 ≤ R) (h1 : R ≤ N) (t0 : 0 ≤ t) (t1 : t < N) : (b * N + R - 1 - t) / N + 1 = b + (if t < R then 1 else 0) := by
 by_cases h : t < R
 ·rw [if_pos h, show b * N + R - 1 - t = (R - 1 - t) + N * b by rw [jiu]; omega, Int.add_mul_ediv_left _ _ (by omega), Int.ediv_eq_zero_of_lt (by omega) (by omega)]
  omega
 ·rw [if_neg h, show b * N + R - 1 - t = (R - 1 - t + N) + N * (b - 1) by rw [Int.mul_sub, Int.mul_one, jiu]; omega, Int.add_mul_ediv_left _ _ (by omega), Int.ediv_eq_zero_of_lt (by omega) (by omega)]
  omega
def lvF (v : Int → Int → Int → Rat) (N : Nat) (P Q R : Int) : Rat := sm (fun t => v ((P - 1 - t) / N + 1) ((Q - 1 - t) / N + 1) ((R - 1 - t) / N + 1)) N
theorem jdW {N A B C : Nat} (hA : A ≤ N) (hB : B ≤ A) (hC : C ≤ B) (v0 v1 v2 v3 : Rat) :
  sm (fun t => if t < C then v3 else if t < B then v2 else if t < A then v1 else v0) N = (((N : Int) : Rat) - ((A : Int) : Rat)) * v0 + (((A : Int) : Rat) - ((B : Int) : Rat)) * v1 + (((B : Int) : Rat) - ((C : Int) : Rat)) * v2 + ((C : Int) : Rat) * v3 := by
 have e : ∀ t, (if t < C then v3 else if t < B then v2 else if t < A then v1 else v0) = v0 + ((v1 - v0) * (if t < A then 1 else 0) + ((v2 - v1) * (if t < B then 1 else 0) + (v3 - v2) * (if t < C then 1 else 0))) := fun t => by
  by_cases h1 : t < C
  ·rw [if_pos h1, if_pos h1, if_pos (show t < B by omega), if_pos (show t < A by omega)]; grind
  ·rw [if_neg h1, if_neg h1]
   by_cases h2 : t < B
   ·rw [if_pos h2, if_pos h2, if_pos (show t < A by omega)]; grind
   ·rw [if_neg h2, if_neg h2]
    by_cases h3 : t < A
    ·rw [if_pos h3, if_pos h3]; grind
    ·rw [if_neg h3, if_neg h3]; grind
 rw [jbr fun t _ => e t, sm_add, sm_add, sm_add, jdc, sm_mul, sm_mul, sm_mul, sm_ind A N hA, sm_ind B N (by omega), sm_ind C N (by omega)]
 grind
def ord3 (r0 r1 r2 : Rat) : List Int :=
 if r0 < r1 then (if r0 < r2 then (if r1 < r2 then [2, 1, 0] else [1, 2, 0]) else [1, 0, 2])
 else (if r1 < r2 then (if r0 < r2 then [2, 0, 1] else [0, 2, 1]) else [0, 1, 2])
def ord2 (r0 r1 : Rat) : List Int := if r0 < r1 then [1, 0] else [0, 1]
def sel (r0 r1 r2 : Rat) (i : Int) : Rat := if i = 0 then r0 else if i = 1 then r1 else r2
def bmp (b : Int × Int × Int) (i : Int) : Int × Int × Int := if i = 0 then (b.1 + 1, b.2.1, b.2.2) else if i = 1 then (b.1, b.2.1 + 1, b.2.2) else (b.1, b.2.1, b.2.2 + 1)
def vat (v : Int → Int → Int → Rat) (b : Int × Int × Int) : Rat := v b.1 b.2.1 b.2.2
def evO (v : Int → Int → Int → Rat) (b : Int × Int × Int) (r0 r1 r2 : Rat) (i j k : Int) : Rat :=
 (1 - sel r0 r1 r2 i) * vat v b + (sel r0 r1 r2 i - sel r0 r1 r2 j) * vat v (bmp b i) + (sel r0 r1 r2 j - sel r0 r1 r2 k) * vat v (bmp (bmp b i) j) + sel r0 r1 r2 k * vat v (bmp (bmp (bmp b i) j) k)
def evL (v : Int → Int → Int → Rat) (b : Int × Int × Int) (r0 r1 r2 : Rat) (o : List Int) : Rat := evO v b r0 r1 r2 (o.getD 0 0) (o.getD 1 0) (o.getD 2 0)
theorem lvlN {N R t : Nat} {b : Int} (hN : 0 < N) (h1 : R ≤ N) (t1 : t < N) : (b * N + R - 1 - t) / N + 1 = b + (if t < R then 1 else 0) := by
 have h := lvl (N := N) (b := b) (R := R) (t := t) (by omega) (by omega) (by omega) (by omega) (by omega)
 rw [h]
 by_cases g : t < R
 ·rw [if_pos g, if_pos (by omega)]
 ·rw [if_neg g, if_neg (by omega)]
theorem jcY {N : Nat} (h : 0 < N) : ((N : Int) : Rat) ≠ 0 := by
 intro e
 have : (N : Int) = 0 := by exact_mod_cast e
 omega
theorem ev_210 {N A0 A1 A2 : Nat} {b0 b1 b2 : Int} (hN : 0 < N) (hA : A2 ≤ N) (hB : A1 ≤ A2) (hC : A0 ≤ A1) (v : Int → Int → Int → Rat) :
  ((N : Int) : Rat) * evO v (b0, b1, b2) (((A0 : Int) : Rat) / ((N : Int) : Rat)) (((A1 : Int) : Rat) / ((N : Int) : Rat)) (((A2 : Int) : Rat) / ((N : Int) : Rat)) 2 1 0 = lvF v N (b0 * N + A0) (b1 * N + A1) (b2 * N + A2) := by
 have hz := jcY hN
 have key := jdW hA hB hC (v b0 b1 b2) (v b0 b1 (b2 + 1)) (v b0 (b1 + 1) (b2 + 1)) (v (b0 + 1) (b1 + 1) (b2 + 1))
 unfold lvF
 rw [jbr (g := fun t => if t < A0 then v (b0 + 1) (b1 + 1) (b2 + 1) else if t < A1 then v b0 (b1 + 1) (b2 + 1) else if t < A2 then v b0 b1 (b2 + 1) else v b0 b1 b2) fun t ht => by
  rw [lvlN hN (show A0 ≤ N by omega) ht, lvlN hN (show A1 ≤ N by omega) ht, lvlN hN (show A2 ≤ N by omega) ht]
  by_cases h1 : t < A0
  ·rw [if_pos h1, if_pos h1, if_pos (show t < A2 by omega), if_pos (show t < A1 by omega)]
  ·by_cases h2 : t < A1
   ·rw [if_neg h1, if_neg h1, if_pos h2, if_pos h2, if_pos (show t < A2 by omega)]
    simp only [jiB]
   ·by_cases h3 : t < A2
    ·rw [if_neg h1, if_neg h1, if_neg h2, if_neg h2, if_pos h3, if_pos h3]
     simp only [jiB]
    ·rw [if_neg h1, if_neg h1, if_neg h2, if_neg h2, if_neg h3, if_neg h3]
     simp only [jiB], key]
 simp only [evO, sel, bmp, vat]
 simp
 generalize v b0 b1 b2 = w0
 generalize v b0 b1 (b2 + 1) = w1
 generalize v b0 (b1 + 1) (b2 + 1) = w2
 generalize v (b0 + 1) (b1 + 1) (b2 + 1) = w3
 grind
theorem ev_120 {N A0 A1 A2 : Nat} {b0 b1 b2 : Int} (hN : 0 < N) (hA : A1 ≤ N) (hB : A2 ≤ A1) (hC : A0 ≤ A2) (v : Int → Int → Int → Rat) :
  ((N : Int) : Rat) * evO v (b0, b1, b2) (((A0 : Int) : Rat) / ((N : Int) : Rat)) (((A1 : Int) : Rat) / ((N : Int) : Rat)) (((A2 : Int) : Rat) / ((N : Int) : Rat)) 1 2 0 = lvF v N (b0 * N + A0) (b1 * N + A1) (b2 * N + A2) := by
 have hz := jcY hN
 have key := jdW hA hB hC (v b0 b1 b2) (v b0 (b1 + 1) b2) (v b0 (b1 + 1) (b2 + 1)) (v (b0 + 1) (b1 + 1) (b2 + 1))
 unfold lvF
 rw [jbr (g := fun t => if t < A0 then v (b0 + 1) (b1 + 1) (b2 + 1) else if t < A2 then v b0 (b1 + 1) (b2 + 1) else if t < A1 then v b0 (b1 + 1) b2 else v b0 b1 b2) fun t ht => by
  rw [lvlN hN (show A0 ≤ N by omega) ht, lvlN hN (show A1 ≤ N by omega) ht, lvlN hN (show A2 ≤ N by omega) ht]
  by_cases h1 : t < A0
  ·rw [if_pos h1, if_pos h1, if_pos (show t < A1 by omega), if_pos (show t < A2 by omega)]
  ·by_cases h2 : t < A2
   ·rw [if_neg h1, if_neg h1, if_pos h2, if_pos h2, if_pos (show t < A1 by omega)]
    simp only [jiB]
   ·by_cases h3 : t < A1
    ·rw [if_neg h1, if_neg h1, if_neg h2, if_neg h2, if_pos h3, if_pos h3]
     simp only [jiB]
    ·rw [if_neg h1, if_neg h1, if_neg h2, if_neg h2, if_neg h3, if_neg h3]
     simp only [jiB], key]
 simp only [evO, sel, bmp, vat]
 simp
 generalize v b0 b1 b2 = w0
 generalize v b0 (b1 + 1) b2 = w1
 generalize v b0 (b1 + 1) (b2 + 1) = w2
 generalize v (b0 + 1) (b1 + 1) (b2 + 1) = w3
 grind
theorem ev_102 {N A0 A1 A2 : Nat} {b0 b1 b2 : Int} (hN : 0 < N) (hA : A1 ≤ N) (hB : A0 ≤ A1) (hC : A2 ≤ A0) (v : Int → Int → Int → Rat) :
  ((N : Int) : Rat) * evO v (b0, b1, b2) (((A0 : Int) : Rat) / ((N : Int) : Rat)) (((A1 : Int) : Rat) / ((N : Int) : Rat)) (((A2 : Int) : Rat) / ((N : Int) : Rat)) 1 0 2 = lvF v N (b0 * N + A0) (b1 * N + A1) (b2 * N + A2) := by
 have hz := jcY hN
 have key := jdW hA hB hC (v b0 b1 b2) (v b0 (b1 + 1) b2) (v (b0 + 1) (b1 + 1) b2) (v (b0 + 1) (b1 + 1) (b2 + 1))
 unfold lvF
 rw [jbr (g := fun t => if t < A2 then v (b0 + 1) (b1 + 1) (b2 + 1) else if t < A0 then v (b0 + 1) (b1 + 1) b2 else if t < A1 then v b0 (b1 + 1) b2 else v b0 b1 b2) fun t ht => by
  rw [lvlN hN (show A0 ≤ N by omega) ht, lvlN hN (show A1 ≤ N by omega) ht, lvlN hN (show A2 ≤ N by omega) ht]
  by_cases h1 : t < A2
  ·rw [if_pos h1, if_pos h1, if_pos (show t < A1 by omega), if_pos (show t < A0 by omega)]
  ·by_cases h2 : t < A0
   ·rw [if_neg h1, if_neg h1, if_pos h2, if_pos h2, if_pos (show t < A1 by omega)]
    simp only [jiB]
   ·by_cases h3 : t < A1
    ·rw [if_neg h1, if_neg h1, if_neg h2, if_neg h2, if_pos h3, if_pos h3]
     simp only [jiB]
    ·rw [if_neg h1, if_neg h1, if_neg h2, if_neg h2, if_neg h3, if_neg h3]
     simp only [jiB], key]
 simp only [evO, sel, bmp, vat]
 simp
 generalize v b0 b1 b2 = w0
 generalize v b0 (b1 + 1) b2 = w1
 generalize v (b0 + 1) (b1 + 1) b2 = w2
 generalize v (b0 + 1) (b1 + 1) (b2 + 1) = w3
 grind
theorem ev_201 {N A0 A1 A2 : Nat} {b0 b1 b2 : Int} (hN : 0 < N) (hA : A2 ≤ N) (hB : A0 ≤ A2) (hC : A1 ≤ A0) (v : Int → Int → Int → Rat) :
  ((N : Int) : Rat) * evO v (b0, b1, b2) (((A0 : Int) : Rat) / ((N : Int) : Rat)) (((A1 : Int) : Rat) / ((N : Int) : Rat)) (((A2 : Int) : Rat) / ((N : Int) : Rat)) 2 0 1 = lvF v N (b0 * N + A0) (b1 * N + A1) (b2 * N + A2) := by
 have hz := jcY hN
 have key := jdW hA hB hC (v b0 b1 b2) (v b0 b1 (b2 + 1)) (v (b0 + 1) b1 (b2 + 1)) (v (b0 + 1) (b1 + 1) (b2 + 1))
 unfold lvF
 rw [jbr (g := fun t => if t < A1 then v (b0 + 1) (b1 + 1) (b2 + 1) else if t < A0 then v (b0 + 1) b1 (b2 + 1) else if t < A2 then v b0 b1 (b2 + 1) else v b0 b1 b2) fun t ht => by
  rw [lvlN hN (show A0 ≤ N by omega) ht, lvlN hN (show A1 ≤ N by omega) ht, lvlN hN (show A2 ≤ N by omega) ht]
  by_cases h1 : t < A1
  ·rw [if_pos h1, if_pos h1, if_pos (show t < A2 by omega), if_pos (show t < A0 by omega)]
  ·by_cases h2 : t < A0
   ·rw [if_neg h1, if_neg h1, if_pos h2, if_pos h2, if_pos (show t < A2 by omega)]
    simp only [jiB]
   ·by_cases h3 : t < A2
    ·rw [if_neg h1, if_neg h1, if_neg h2, if_neg h2, if_pos h3, if_pos h3]
     simp only [jiB]
    ·rw [if_neg h1, if_neg h1, if_neg h2, if_neg h2, if_neg h3, if_neg h3]
     simp only [jiB], key]
 simp only [evO, sel, bmp, vat]
 simp
 generalize v b0 b1 b2 = w0
 generalize v b0 b1 (b2 + 1) = w1
 generalize v (b0 + 1) b1 (b2 + 1) = w2
 generalize v (b0 + 1) (b1 + 1) (b2 + 1) = w3
 grind
theorem ev_021 {N A0 A1 A2 : Nat} {b0 b1 b2 : Int} (hN : 0 < N) (hA : A0 ≤ N) (hB : A2 ≤ A0) (hC : A1 ≤ A2) (v : Int → Int → Int → Rat) :
  ((N : Int) : Rat) * evO v (b0, b1, b2) (((A0 : Int) : Rat) / ((N : Int) : Rat)) (((A1 : Int) : Rat) / ((N : Int) : Rat)) (((A2 : Int) : Rat) / ((N : Int) : Rat)) 0 2 1 = lvF v N (b0 * N + A0) (b1 * N + A1) (b2 * N + A2) := by
 have hz := jcY hN
 have key := jdW hA hB hC (v b0 b1 b2) (v (b0 + 1) b1 b2) (v (b0 + 1) b1 (b2 + 1)) (v (b0 + 1) (b1 + 1) (b2 + 1))
 unfold lvF
 rw [jbr (g := fun t => if t < A1 then v (b0 + 1) (b1 + 1) (b2 + 1) else if t < A2 then v (b0 + 1) b1 (b2 + 1) else if t < A0 then v (b0 + 1) b1 b2 else v b0 b1 b2) fun t ht => by
  rw [lvlN hN (show A0 ≤ N by omega) ht, lvlN hN (show A1 ≤ N by omega) ht, lvlN hN (show A2 ≤ N by omega) ht]
  by_cases h1 : t < A1
  ·rw [if_pos h1, if_pos h1, if_pos (show t < A0 by omega), if_pos (show t < A2 by omega)]
  ·by_cases h2 : t < A2
   ·rw [if_neg h1, if_neg h1, if_pos h2, if_pos h2, if_pos (show t < A0 by omega)]
    simp only [jiB]
   ·by_cases h3 : t < A0
    ·rw [if_neg h1, if_neg h1, if_neg h2, if_neg h2, if_pos h3, if_pos h3]
     simp only [jiB]
    ·rw [if_neg h1, if_neg h1, if_neg h2, if_neg h2, if_neg h3, if_neg h3]
     simp only [jiB], key]
 simp only [evO, sel, bmp, vat]
 simp
 generalize v b0 b1 b2 = w0
 generalize v (b0 + 1) b1 b2 = w1
 generalize v (b0 + 1) b1 (b2 + 1) = w2
 generalize v (b0 + 1) (b1 + 1) (b2 + 1) = w3
 grind
theorem ev_012 {N A0 A1 A2 : Nat} {b0 b1 b2 : Int} (hN : 0 < N) (hA : A0 ≤ N) (hB : A1 ≤ A0) (hC : A2 ≤ A1) (v : Int → Int → Int → Rat) :
  ((N : Int) : Rat) * evO v (b0, b1, b2) (((A0 : Int) : Rat) / ((N : Int) : Rat)) (((A1 : Int) : Rat) / ((N : Int) : Rat)) (((A2 : Int) : Rat) / ((N : Int) : Rat)) 0 1 2 = lvF v N (b0 * N + A0) (b1 * N + A1) (b2 * N + A2) := by
 have hz := jcY hN
 have key := jdW hA hB hC (v b0 b1 b2) (v (b0 + 1) b1 b2) (v (b0 + 1) (b1 + 1) b2) (v (b0 + 1) (b1 + 1) (b2 + 1))
 unfold lvF
 rw [jbr (g := fun t => if t < A2 then v (b0 + 1) (b1 + 1) (b2 + 1) else if t < A1 then v (b0 + 1) (b1 + 1) b2 else if t < A0 then v (b0 + 1) b1 b2 else v b0 b1 b2) fun t ht => by
  rw [lvlN hN (show A0 ≤ N by omega) ht, lvlN hN (show A1 ≤ N by omega) ht, lvlN hN (show A2 ≤ N by omega) ht]
  by_cases h1 : t < A2
  ·rw [if_pos h1, if_pos h1, if_pos (show t < A0 by omega), if_pos (show t < A1 by omega)]
  ·by_cases h2 : t < A1
   ·rw [if_neg h1, if_neg h1, if_pos h2, if_pos h2, if_pos (show t < A0 by omega)]
    simp only [jiB]
   ·by_cases h3 : t < A0
    ·rw [if_neg h1, if_neg h1, if_neg h2, if_neg h2, if_pos h3, if_pos h3]
     simp only [jiB]
    ·rw [if_neg h1, if_neg h1, if_neg h2, if_neg h2, if_neg h3, if_neg h3]
     simp only [jiB], key]
 simp only [evO, sel, bmp, vat]
 simp
 generalize v b0 b1 b2 = w0
 generalize v (b0 + 1) b1 b2 = w1
 generalize v (b0 + 1) (b1 + 1) b2 = w2
 generalize v (b0 + 1) (b1 + 1) (b2 + 1) = w3
 grind
theorem rlt {N A B : Nat} (hN : 0 < N) : (((A : Int) : Rat) / ((N : Int) : Rat) < ((B : Int) : Rat) / ((N : Int) : Rat)) ↔ A < B := by
 have h1 : (0 : Rat) < ((N : Int) : Rat) := by exact_mod_cast (show (0 : Int) < N by omega)
 rw [Rat.div_lt_iff h1, Rat.div_mul_cancel (jcY hN)]
 constructor
 ·intro h
  have : (A : Int) < B := by exact_mod_cast h
  omega
 ·intro h
  exact_mod_cast (show (A : Int) < B by omega)
theorem ev_main {N A0 A1 A2 : Nat} {b0 b1 b2 : Int} (hN : 0 < N) (h0 : A0 ≤ N) (h1 : A1 ≤ N) (h2 : A2 ≤ N) (v : Int → Int → Int → Rat) :
  ((N : Int) : Rat) * evL v (b0, b1, b2) (((A0 : Int) : Rat) / ((N : Int) : Rat)) (((A1 : Int) : Rat) / ((N : Int) : Rat)) (((A2 : Int) : Rat) / ((N : Int) : Rat)) (ord3 (((A0 : Int) : Rat) / ((N : Int) : Rat)) (((A1 : Int) : Rat) / ((N : Int) : Rat)) (((A2 : Int) : Rat) / ((N : Int) : Rat))) = lvF v N (b0 * N + A0) (b1 * N + A1) (b2 * N + A2) := by
 unfold ord3
 simp only [rlt hN]
 by_cases c1 : A0 < A1
 ·rw [if_pos c1]
  by_cases c2 : A0 < A2
  ·rw [if_pos c2]
   by_cases c3 : A1 < A2
   ·rw [if_pos c3]
    exact ev_210 hN h2 (by omega) (by omega) v
   ·rw [if_neg c3]
    exact ev_120 hN h1 (by omega) (by omega) v
  ·rw [if_neg c2]
   exact ev_102 hN h1 (by omega) (by omega) v
 ·rw [if_neg c1]
  by_cases c3 : A1 < A2
  ·rw [if_pos c3]
   by_cases c2 : A0 < A2
   ·rw [if_pos c2]
    exact ev_201 hN h2 (by omega) (by omega) v
   ·rw [if_neg c2]
    exact ev_021 hN h0 (by omega) (by omega) v
  ·rw [if_neg c3]
   exact ev_012 hN h0 (by omega) (by omega) v
end Go.Proofs.YtgjgpdceghjajaaGreatDoor
end
