/- What some functions of the program answer at values that mean given lists, texts and numbers, each proved of the program's own code: part 7. Conditions: those that each theorem names. -/
import Derived.Test.YtplflfnfodghmaaGreatDoorH6
import Derived.Test.YtplflfnfodghmaaGreatDoorH2
import Derived.Test.YtplflfnfodghmaaGreatDoorH4
import Derived.Test.YtplflfnfodghmaaGreatDoorH3
import Derived.Test.YtplflfnfodghmaaGreatDoorH1
set_option linter.unusedSimpArgs false
set_option linter.unusedVariables false
set_option maxHeartbeats 8000000
set_option maxRecDepth 100000
section
namespace Go.Proofs.YtplflfnfodghmaaGreatDoor
open Go Go.V Go.Nb Go.RowKit
def fdraftL : List Lf := [.bool, .ints .u16, .int .u16, .bool, .ints .u16, .int .u16]
def fracL : List Lf := [.str, .str]
theorem fdraft_den {w : World} {cs : Array Value} (h : leavesOk w fdraftL cs.toList) : ∃ b xs z b2 xs2 z2, Den Env.dummy (pubOf w) (.agg [.bool b, .ints .u16 xs, .int .u16 z, .bool b2, .ints .u16 xs2, .int .u16 z2]) (.agg cs) ∧
    (0 ≤ z ∧ z ≤ 65535) ∧ (0 ≤ z2 ∧ z2 ≤ 65535) := by
  obtain ⟨v0, r0, e0, ⟨b, h0⟩, v1, r1, e1, ⟨xs, h1⟩, v2, r2, e2, ⟨z, h2, h2'⟩, v3, r3, e3, ⟨b2, h3⟩, v4, r4, e4, ⟨xs2, h4⟩, v5, r5, e5, ⟨z2, h5, h5'⟩, e6⟩ := h
  subst e6 e5 e4 e3 e2 e1
  obtain rfl : cs = #[v0, v1, v2, v3, v4, v5] := by cases cs; simp_all
  subst h0 h2 h3 h5
  have g1 := h1
  have g4 := h4
  obtain ⟨a1, c1, x1, _, y1, z1, _⟩ := g1
  obtain ⟨a4, c4, x4, _, y4, z4, _⟩ := g4
  refine ⟨b, xs, z, b2, xs2, z2, ⟨[.bool b, v1, .int .u16 z, .bool b2, v4, .int .u16 z2], rfl, ⟨_, _, rfl, rfl, v1, _, rfl, h1, _, _, rfl, ⟨rfl, h2'⟩, _, _, rfl, rfl, v4, _, rfl, h4, _, _, rfl, ⟨rfl, h5'⟩, rfl⟩, ?_⟩, by simpa [InR, V.lo, V.hi] using h2', by simpa [InR, V.lo, V.hi] using h5'⟩
  subst x1 x4
  intro v hv
  simp only [List.mem_cons, List.not_mem_nil, or_false] at hv
  rcases hv with rfl | rfl | rfl | rfl | rfl | rfl <;> rfl
theorem frac_den {w : World} {cs : Array Value} (h : leavesOk w fracL cs.toList) : ∃ s t : List UInt8, Den Env.dummy (pubOf w) (.agg [.str s, .str t]) (.agg cs) ∧ s.length ≤ 281474976710656 ∧ t.length ≤ 281474976710656 := by
  obtain ⟨v0, r0, e0, ⟨s, h0, h0'⟩, v1, r1, e1, ⟨t, h1, h1'⟩, e2⟩ := h
  subst e2 e1
  obtain rfl : cs = #[v0, v1] := by cases cs; simp_all
  subst h0 h1
  refine ⟨s, t, ⟨_, rfl, ⟨_, _, rfl, ⟨rfl, h0'⟩, _, _, rfl, ⟨rfl, h1'⟩, rfl⟩, ?_⟩, h0', h1'⟩
  intro v hv
  simp only [List.mem_cons, List.not_mem_nil, or_false] at hv
  rcases hv with rfl | rfl <;> rfl
end Go.Proofs.YtplflfnfodghmaaGreatDoor
end
section
namespace Go.Proofs.YtplflfnfodghmaaGreatDoor
open Go Go.V Go.Nb
structure Sg (s d : List UInt8) (j : Nat) (neg : Bool) : Prop where
  hj : j = if neg then 1 else 0
  hl : s.length = d.length + j
  hg : ∀ i, s.getD (i + j) 0 = d.getD i 0
  h0 : (0 < s.length ∧ s.getD 0 0 = 45) ↔ neg = true
theorem sg_of (s : List UInt8) : ∃ d j neg, Sg s d j neg ∧ okW s = okD d neg ∧ wval s = if neg then -(rdv d : Int) else rdv d := by
  cases s with
  | nil => exact ⟨[], 0, false, ⟨rfl, rfl, fun i => rfl, by simp⟩, rfl, rfl⟩
  | cons c r =>
    by_cases hc : c = 45
    · subst hc
      have h1 : Go.Lib.hasPrefix (45 :: r) [45] = true := by simp [Go.Lib.hasPrefix]
      have h2 : Go.Lib.trimPrefix (45 :: r) [45] = r := by unfold Go.Lib.trimPrefix; rw [h1]; rfl
      refine ⟨r, 1, true, ⟨rfl, by simp, fun i => by simp, by simp⟩, ?_, ?_⟩
      · unfold okW; rw [h1, h2]
      · unfold wval; rw [h1, h2]
    · have h1 : Go.Lib.hasPrefix (c :: r) [45] = false := by
        show List.isPrefixOf [45] (c :: r) = false
        simp only [List.isPrefixOf, Bool.and_true, beq_eq_false_iff_ne]
        exact Ne.symm hc
      have h2 : Go.Lib.trimPrefix (c :: r) [45] = c :: r := by unfold Go.Lib.trimPrefix; rw [h1]; rfl
      refine ⟨c :: r, 0, false, ⟨rfl, by simp, fun i => by simp, by simp [hc]⟩, ?_, ?_⟩
      · unfold okW; rw [h1, h2]
      · unfold wval; rw [h1, h2]
theorem u8_eq (c : UInt8) (n : Nat) (hn : n < 256) : decide (((c.toNat : Nat) : Int) = n) = decide (c = UInt8.ofNat n) := decide_eq_decide.2 ⟨fun h => UInt8.toNat_inj.1 (by rw [UInt8.toNat_ofNat_of_lt' (by simpa using hn)]; omega), fun h => by rw [h, UInt8.toNat_ofNat_of_lt' (by simpa using hn)]⟩
theorem right01_g (s d : List UInt8) (j : Nat) (neg : Bool) (S : Sg s d j neg) (hs : s.length ≤ 281474976710656) : Called Tryz.prog 148 [.str s] (.bool (okD d neg)) := by
  obtain ⟨hj, hl, hg, h0⟩ := S
  have hJ : j ≤ 1 := by rw [hj]; split <;> omega
  have e0 : (0 : Int).toNat = 0 := rfl
  have q45 : decide (((s.getD 0 0).toNat : Int) = 45) = decide (s.getD 0 0 = 45) := u8_eq _ 45 (by omega)
  have qn : (decide ((s.length : Int) > 0) && decide (s.getD 0 0 = 45)) = neg := by
    rw [Bool.eq_iff_iff, ← h0, Bool.and_eq_true, decide_eq_true_eq, decide_eq_true_eq]
    exact and_congr_left' (by omega)
  refine called_of_run tbOk 6 ⟨Tryz.func148, rfl, rfl, Nat.le_of_ble_eq_true rfl⟩ ?_
  (conv => whnf)
  (conv => whnf)
  (try simp only [e0, q45, qn])
  repeat (first | (refine V.s1 ?_; (try simp only [e0, q45, qn])) | ((with_reducible refine recheck_and ?_ ?_); (focus ((conv => whnf); (try simp only [e0, q45, qn]); (repeat (refine V.s1 ?_; (try simp only [e0, q45, qn]))); exact ⟨rfl⟩)); (conv => whnf); (try simp only [e0, q45, qn])))
  refine cnd_meet [(3, .int .i64 j)] [] (CondB.mk (fun hq => ?_) (fun hq => ?_)) ?_
  · subst hq
    rw [if_pos rfl] at hj
    subst hj
    (conv => whnf)
    refine V.st ?_
    exact V.wk
  · subst hq
    rw [if_neg (by simp)] at hj
    subst hj
    (conv => whnf)
    refine V.st ?_
    exact V.wk
  have hsl : (s.length : Int) - j = d.length := by omega
  clear q45 qn h0
  (conv => whnf)
  (try simp only [hsl])
  repeat (first | (refine V.s1 ?_; (try simp only [hsl])) | ((with_reducible refine recheck_and ?_ ?_); (focus ((conv => whnf); (try simp only [hsl]); (repeat (refine V.s1 ?_; (try simp only [hsl]))); exact ⟨rfl⟩)); (conv => whnf); (try simp only [hsl])))
  refine Cnd.split (CondB.mk (fun hq => ?_) (fun hq => ?_))
  · simp only [Bool.or_eq_true, decide_eq_true_eq] at hq
    have hf : okD d neg = false := by
      unfold okD
      rcases hq with h | h
      · rw [decide_eq_true (show d.length = 0 by omega)]; rfl
      · rw [decide_eq_true (show 600 < d.length by omega), Bool.or_true]; rfl
    rw [hf]
    (conv => whnf)
    refine V.st ?_
    exact Fin.of rfl
  · simp only [Bool.or_eq_false_iff, decide_eq_false_iff_not] at hq
    (conv => whnf)
    refine V.st ?_
    refine lp_any (0 : Nat) (fun k => k ≤ d.length ∧ ∀ i, i < k → isDig (d.getD i 0) = true) (fun k => d.length - k) (fun k => [(5, .int .i64 ((k + j : Nat) : Int))]) (fun _ => []) ?_ ?_ ?_
    · rw [Nat.zero_add]
      exact V.wk
    · exact ⟨Nat.zero_le _, fun i hi => by omega⟩
    intro k hk
    have hkc : (((k + j : Nat) : Int) + 1) = ((k + 1 + j : Nat) : Int) := by omega
    have hkt : ((k + j : Nat) : Int).toNat = k + j := by omega
    (conv => whnf)
    refine V.st ?_
    refine Cnd.split (CondB.mk (fun hq2 => ?_) (fun hq2 => ?_))
    · rw [decide_eq_true_eq] at hq2
      have hdl := dig_lo (d.getD k 0)
      have hgk := hg k
      generalize hc : d.getD k 0 = c at *
      (conv => whnf)
      (try simp only [hkt, hgk, hkc])
      repeat (first | (refine V.s1 ?_; (try simp only [hkt, hgk, hkc])) | ((with_reducible refine recheck_and ?_ ?_); (focus ((conv => whnf); (try simp only [hkt, hgk, hkc]); (repeat (refine V.s1 ?_; (try simp only [hkt, hgk, hkc]))); exact ⟨rfl⟩)); (conv => whnf); (try simp only [hkt, hgk, hkc])))
      refine Cnd.split (CondB.mk (fun hq3 => ?_) (fun hq3 => ?_))
      · rw [Bool.or_eq_true, decide_eq_true_eq, decide_eq_true_eq] at hq3
        have hf : okD d neg = false := by
          have h1 : d.all isDig = false := by
            rw [List.all_eq_false]
            refine ⟨c, ?_, fun h => by have := hdl.1 h; omega⟩
            rw [← hc, List.getD_eq_getElem?_getD, List.getElem?_eq_getElem (by omega)]
            exact List.getElem_mem _
          unfold okD
          rw [h1, Bool.and_false, Bool.false_and]
        rw [hf]
        (conv => whnf)
        refine V.st ?_
        exact Fin.of rfl
      · rw [Bool.or_eq_false_iff, decide_eq_false_iff_not, decide_eq_false_iff_not] at hq3
        (conv => whnf)
        (try simp only [hkc])
        repeat (first | (refine V.s1 ?_; (try simp only [hkc])) | ((with_reducible refine recheck_and ?_ ?_); (focus ((conv => whnf); (try simp only [hkc]); (repeat (refine V.s1 ?_; (try simp only [hkc]))); exact ⟨rfl⟩)); (conv => whnf); (try simp only [hkc])))
        refine ⟨k + 1, ⟨by omega, fun i hi => ?_⟩, by omega, V.wk⟩
        rcases Nat.lt_or_ge i k with h | h
        · exact hk.2 i h
        · obtain rfl : i = k := by omega
          rw [hc]; exact hdl.2 (by omega)
    · rw [decide_eq_false_iff_not] at hq2
      obtain rfl : k = d.length := by omega
      have hall : ∀ c ∈ d, isDig c = true := fun c hc => by
        obtain ⟨i, hi, e⟩ := List.getElem_of_mem hc
        have := hk.2 i hi
        rw [List.getD_eq_getElem?_getD, List.getElem?_eq_getElem hi] at this
        rw [← e]; exact this
      have hok : okD d neg = !(decide (d.getD 0 0 = 48) && (neg || decide (1 < d.length))) := by
        unfold okD
        rw [List.all_eq_true.2 hall, decide_eq_false (show ¬ d.length = 0 by omega), decide_eq_false (show ¬ 600 < d.length by omega)]
        rfl
      have hu : decide ((((d.getD 0 0).toNat : Nat) : Int) = 48) = decide (d.getD 0 0 = 48) := u8_eq _ 48 (by omega)
      have hg0 := hg 0
      rw [Nat.zero_add] at hg0
      have hll : decide ((s.length : Int) = 1) = !(neg || decide (1 < d.length)) := by
        by_cases hn : neg = true
        · subst hn
          rw [if_pos rfl] at hj
          rw [decide_eq_false (by omega)]
          rfl
        · rw [if_neg hn] at hj
          rw [Bool.eq_false_iff.2 hn, Bool.false_or]
          by_cases h1 : 1 < d.length
          · rw [decide_eq_true h1, decide_eq_false (by omega)]; rfl
          · rw [decide_eq_false h1, decide_eq_true (by omega)]; rfl
      have hu2 : decide ((((d.getD 0 0).toNat : Nat) : Int) ≠ 48) = !decide (d.getD 0 0 = 48) := by rw [← hu, decide_not]
      have hne : (!decide (d.getD 0 0 = 48) || !(neg || decide (1 < d.length))) = okD d neg := by rw [hok, Bool.not_and]
      (conv => whnf)
      (try simp only [Int.toNat_natCast, hg0, hu2, hll, hne])
      repeat (first | (refine V.s1 ?_; (try simp only [Int.toNat_natCast, hg0, hu2, hll, hne])) | ((with_reducible refine recheck_and ?_ ?_); (focus ((conv => whnf); (try simp only [Int.toNat_natCast, hg0, hu2, hll, hne]); (repeat (refine V.s1 ?_; (try simp only [Int.toNat_natCast, hg0, hu2, hll, hne]))); exact ⟨rfl⟩)); (conv => whnf); (try simp only [Int.toNat_natCast, hg0, hu2, hll, hne])))
      exact Fin.of rfl
theorem rdv_chunk (d : List UInt8) (hd : ∀ c ∈ d, isDig c = true) (m : Nat) (hm : m ≤ d.length) : rdv (d.take m) / 10000 = rdv (d.take (m - 4)) ∧ rdv (d.take m) % 10000 = rdv ((d.take m).drop (m - 4)) := by
  have e : d.take m = d.take (m - 4) ++ (d.take m).drop (m - 4) := by
    conv => lhs; rw [← List.take_append_drop (m - 4) (d.take m), List.take_take, Nat.min_eq_left (by omega)]
  have hb := rdv_lt (s := (d.take m).drop (m - 4)) (fun c hc => hd c (List.mem_of_mem_take (List.mem_of_mem_drop hc)))
  have hl : ((d.take m).drop (m - 4)).length = m - (m - 4) := by rw [List.length_drop, List.length_take]; omega
  rw [hl] at hb
  have ev : rdv (d.take m) = rdv (d.take (m - 4)) * 10 ^ (m - (m - 4)) + rdv ((d.take m).drop (m - 4)) := by
    conv => lhs; rw [e]
    rw [rdv_append, hl]
  rw [ev]
  generalize rdv ((d.take m).drop (m - 4)) = y at *
  rcases (by omega : m < 4 ∨ 4 ≤ m) with h | h
  · have h0 : m - 4 = 0 := by omega
    have h10 : 10 ^ (m - (m - 4)) ≤ 10000 := by
      rw [h0]
      rcases (by omega : m = 0 ∨ m = 1 ∨ m = 2 ∨ m = 3) with e | e | e | e <;> subst e <;> decide
    rw [h0, List.take_zero, show rdv [] = 0 from rfl, Nat.zero_mul]
    omega
  · rw [show m - (m - 4) = 4 by omega, show (10 : Nat) ^ 4 = 10000 from rfl] at *
    omega
theorem rdv_next (d : List UInt8) (lo k : Nat) (h1 : lo ≤ k) (h2 : k < d.length) : rdv ((d.take (k + 1)).drop lo) = rdv ((d.take k).drop lo) * 10 + ((d.getD k 0).toNat - 48) := by
  have e : (d.take (k + 1)).drop lo = (d.take k).drop lo ++ [d.getD k 0] := by
    rw [List.take_add_one, List.getElem?_eq_getElem h2, List.drop_append_of_le_length (by rw [List.length_take]; omega), List.getD_eq_getElem?_getD, List.getElem?_eq_getElem h2]
    rfl
  rw [e, rdv_append, rdv_one]
  rfl
theorem in01_g (s d : List UInt8) (j : Nat) (neg : Bool) (S : Sg s d j neg) (hd : ∀ c ∈ d, isDig c = true) (hdl : d.length ≤ 600) (hs0 : 0 < s.length) :
    Called Tryz.prog 94 [.str s] (plD (if neg then -(rdv d : Int) else rdv d)) := by
  obtain ⟨hj, hl, hg, h0⟩ := S
  have hJ : j ≤ 1 := by rw [hj]; split <;> omega
  have e0 : (0 : Int).toNat = 0 := rfl
  have q45 : decide (((s.getD 0 0).toNat : Int) = 45) = neg := by
    rw [show (45 : Int) = ((45 : Nat) : Int) from rfl, u8_eq _ 45 (by omega), Bool.eq_iff_iff, ← h0, decide_eq_true_eq]
    exact ⟨fun h => ⟨hs0, h⟩, fun h => h.2⟩
  refine called_of_run tbOk 6 ⟨Tryz.func94, rfl, rfl, Nat.le_of_ble_eq_true rfl⟩ ?_
  (conv => whnf)
  (conv => whnf)
  (try simp only [e0, q45])
  repeat (first | (refine V.s1 ?_; (try simp only [e0, q45])) | ((with_reducible refine recheck_and ?_ ?_); (focus ((conv => whnf); (try simp only [e0, q45]); (repeat (refine V.s1 ?_; (try simp only [e0, q45]))); exact ⟨rfl⟩)); (conv => whnf); (try simp only [e0, q45])))
  refine cnd_meet [(3, .int .i64 j)] [] (CondB.mk (fun hq => ?_) (fun hq => ?_)) ?_
  · subst hq
    rw [if_pos rfl] at hj
    subst hj
    (conv => whnf)
    refine V.st ?_
    exact V.wk
  · subst hq
    rw [if_neg (by simp)] at hj
    subst hj
    (conv => whnf)
    refine V.st ?_
    exact V.wk
  (conv => whnf)
  refine V.st ?_
  refine Lp.ghostSlot 38 4 .i64 (by decide) ?_
  (conv => whnf)
  refine lp_any (((s.length : Int), d.length, []) : Int × Nat × List Int) (fun st => st.2.1 ≤ d.length ∧ (st.1 = (st.2.1 + j : Nat) ∨ (st.2.1 = 0 ∧ st.1 < j ∧ (j : Int) - 4 ≤ st.1)) ∧ val 10000 st.2.2 + ((10000 : Nat) : Int) ^ st.2.2.length * ((rdv (d.take st.2.1) : Nat) : Int) = ((rdv d : Nat) : Int) ∧ Dg 10000 st.2.2 ∧ st.2.2.length + (st.2.1 + 3) / 4 ≤ 151) (fun st => st.2.1) (fun st => [(5, .int .i64 st.1), (4, .osl 38 0 st.2.2.length)]) (fun st => [(38, .arr .i64 st.2.2)]) ?_ ?_ ?_
  · exact V.wk
  · exact ⟨Nat.le_refl _, .inl (by dsimp only; omega), by simp [val], fun x hx => by simp at hx, by dsimp only [List.length_nil]; omega⟩
  rintro ⟨e, m, out⟩ ⟨h1, h2, h3, h4, h5⟩
  dsimp only at h1 h2 h3 h4 h5 ⊢
  (conv => whnf)
  refine V.st ?_
  refine Cnd.split (CondB.mk (fun hq => ?_) (fun hq => ?_))
  · rw [decide_eq_true_eq] at hq
    have he : e = ((m + j : Nat) : Int) := by omega
    have hm0 : 0 < m := by omega
    subst he
    obtain ⟨lo, hlo⟩ : ∃ lo, lo = m - 4 := ⟨_, rfl⟩
    have hmx : max (((m + j : Nat) : Int) - 4) (j : Int) = ((lo + j : Nat) : Int) := by omega
    have hch := rdv_chunk d hd m h1
    rw [← hlo] at hch
    have hst := dig_step (B := 10000) (by omega) h3
    rw [hch.1, hch.2] at hst
    have hbd : ∀ i, lo + i ≤ m → rdv ((d.take (lo + i)).drop lo) < 10000 := fun i hi => by
      have hl1 : ((d.take (lo + i)).drop lo).length ≤ 4 := by rw [List.length_drop, List.length_take]; omega
      have := rdv_lt (s := (d.take (lo + i)).drop lo) (fun c hc => hd c (List.mem_of_mem_take (List.mem_of_mem_drop hc)))
      have h2 : (10 : Nat) ^ ((d.take (lo + i)).drop lo).length ≤ 10 ^ 4 := Nat.pow_le_pow_right (by omega) hl1
      omega
    have hnx : ∀ i, lo + i < m → rdv ((d.take (lo + (i + 1))).drop lo) = rdv ((d.take (lo + i)).drop lo) * 10 + ((d.getD (lo + i) 0).toNat - 48) := fun i hi => by
      rw [← Nat.add_assoc]
      exact rdv_next d lo (lo + i) (by omega) (by omega)
    have hx0 : rdv ((d.take (lo + 0)).drop lo) = 0 := by
      have hnil : (d.take lo).drop lo = [] := List.drop_eq_nil_of_le (by rw [List.length_take]; omega)
      rw [Nat.add_zero, hnil]; rfl
    (conv => whnf)
    (try simp only [hmx])
    repeat (first | (refine V.s1 ?_; (try simp only [hmx])) | ((with_reducible refine recheck_and ?_ ?_); (focus ((conv => whnf); (try simp only [hmx]); (repeat (refine V.s1 ?_; (try simp only [hmx]))); exact ⟨rfl⟩)); (conv => whnf); (try simp only [hmx])))
    refine lp_any (0 : Nat) (fun i => lo + i ≤ m) (fun i => m - (lo + i)) (fun i => [(7, .int .i64 ((lo + i + j : Nat) : Int)), (6, .int .i64 ((rdv ((d.take (lo + i)).drop lo) : Nat) : Int))]) (fun _ => []) ?_ ?_ ?_
    · rw [hx0]
      exact V.wk
    · show lo + 0 ≤ m
      omega
    intro i hi
    have hi2 := hbd i hi
    (conv => whnf)
    refine V.st ?_
    refine Cnd.split (CondB.mk (fun hq2 => ?_) (fun hq2 => ?_))
    · rw [decide_eq_true_eq] at hq2
      have hn2 := hnx i (by omega)
      have hgi := hg (lo + i)
      have hdc : isDig (d.getD (lo + i) 0) = true := hd _ (by rw [List.getD_eq_getElem?_getD, List.getElem?_eq_getElem (by omega)]; exact List.getElem_mem _)
      have hdl2 := (dig_lo _).1 hdc
      have hi3 := hbd (i + 1) (by omega)
      generalize d.getD (lo + i) 0 = c at *
      have hkt : ((lo + i + j : Nat) : Int).toNat = lo + i + j := by omega
      have hkc : (((lo + i + j : Nat) : Int) + 1) = ((lo + (i + 1) + j : Nat) : Int) := by omega
      have hsum : ((rdv ((d.take (lo + i)).drop lo) : Nat) : Int) * 10 + ((c.toNat : Int) - 48) = ((rdv ((d.take (lo + (i + 1))).drop lo) : Nat) : Int) := by
        rw [hn2]; omega
      (conv => whnf)
      (try simp only [hkt, hgi, hkc, hsum])
      repeat (first | (refine V.s1 ?_; (try simp only [hkt, hgi, hkc, hsum])) | ((with_reducible refine recheck_and ?_ ?_); (focus ((conv => whnf); (try simp only [hkt, hgi, hkc, hsum]); (repeat (refine V.s1 ?_; (try simp only [hkt, hgi, hkc, hsum]))); exact ⟨rfl⟩)); (conv => whnf); (try simp only [hkt, hgi, hkc, hsum])))
      exact ⟨i + 1, by omega, by omega, V.wk⟩
    · rw [decide_eq_false_iff_not] at hq2
      have hmi : lo + i = m := by omega
      rw [hmi]
      have hl2 : (out ++ [((rdv ((d.take m).drop lo) : Nat) : Int)]).length = out.length + 1 := by simp
      have hl3 : out.length + (List.take 1 (List.drop 0 [((rdv ((d.take m).drop lo) : Nat) : Int)])).length = (out ++ [((rdv ((d.take m).drop lo) : Nat) : Int)]).length := by simp
      have hdg : Dg 10000 (out ++ [((rdv ((d.take m).drop lo) : Nat) : Int)]) := dg_append h4 (dg_one ⟨by omega, by have := hbd i hi; rw [hmi] at this; omega⟩)
      (conv => whnf)
      (try simp only [hl3])
      repeat (first | (refine V.s1 ?_; (try simp only [hl3])) | ((with_reducible refine recheck_and ?_ ?_); (focus ((conv => whnf); (try simp only [hl3]); (repeat (refine V.s1 ?_; (try simp only [hl3]))); exact ⟨rfl⟩)); (conv => whnf); (try simp only [hl3])))
      try refine And.intro (fun _ => ⟨trivial, by omega⟩) ?_
      (conv => whnf)
      (try simp only [hl3])
      repeat (first | (refine V.s1 ?_; (try simp only [hl3])) | ((with_reducible refine recheck_and ?_ ?_); (focus ((conv => whnf); (try simp only [hl3]); (repeat (refine V.s1 ?_; (try simp only [hl3]))); exact ⟨rfl⟩)); (conv => whnf); (try simp only [hl3])))
      exact ⟨(((m + j : Nat) : Int) - 4, lo, out ++ [((rdv ((d.take m).drop lo) : Nat) : Int)]), ⟨by dsimp only; omega, by dsimp only; omega, hst, hdg, by dsimp only; omega⟩, by dsimp only; omega, V.wk⟩
  · rw [decide_eq_false_iff_not] at hq
    have hm0 : m = 0 := by omega
    subst hm0
    have hv : val 10000 out = ((rdv d : Nat) : Int) := by
      rw [List.take_zero, show rdv [] = 0 from rfl] at h3
      simpa using h3
    have hmd := madeP_c neg out h4 (by omega)
    rw [hv] at hmd
    have e1 : decide ((j : Int) = 1) = neg := by
      cases neg with
      | true => rw [if_pos rfl] at hj; rw [hj]; rfl
      | false => rw [if_neg (by simp)] at hj; rw [hj]; rfl
    (conv => whnf)
    (try simp only [e1, List.take_length])
    repeat (first | (refine V.s1 ?_; (try simp only [e1, List.take_length])) | ((with_reducible refine recheck_and ?_ ?_); (focus ((conv => whnf); (try simp only [e1, List.take_length]); (repeat (refine V.s1 ?_; (try simp only [e1, List.take_length]))); exact ⟨rfl⟩)); (conv => whnf); (try simp only [e1, List.take_length])) | ((try ((with_reducible refine .ext ?_); (conv => whnf); (try simp only [e1, List.take_length]))); (with_reducible refine call_intro (r := ?_) ?_ ?_); rotate_left; (focus (first | exact (hmd))); (conv => whnf); (try simp only [e1, List.take_length])))
    exact Fin.of rfl
end Go.Proofs.YtplflfnfodghmaaGreatDoor
end
section
namespace Go.Proofs.YtplflfnfodghmaaGreatDoor
open Go Go.V Go.Nb
def smN : List Int → Int
  | [] => 0
  | [x] => x % 1000
  | x :: y :: _ => (x % 1000) * 1000 + y % 1000
def smZ (b : Bool) (xs : List Int) : Int := if b = true then 0 - smN xs else smN xs
theorem smN_b (xs : List Int) : 0 ≤ smN xs ∧ smN xs ≤ 999999 := by
  rcases xs with _ | ⟨x, _ | ⟨y, r⟩⟩ <;> simp only [smN] <;> omega
theorem smN_take (xs : List Int) (k : Nat) (h : 2 ≤ k ∨ xs.length ≤ k) : smN (xs.take k) = smN xs := by
  by_cases hl : xs.length ≤ k
  · rw [List.take_of_length_le hl]
  · obtain ⟨j, rfl⟩ : ∃ j, k = j + 2 := ⟨k - 2, by omega⟩
    rcases xs with _ | ⟨x, _ | ⟨y, r⟩⟩
    · simp at hl
    · simp at hl
    · simp [smN]
theorem smN_step (xs : List Int) (k : Nat) (h : k < 2) (hl : k < xs.length) : smN (xs.take (k + 1)) = smN (xs.take k) * 1000 + xs.getD k 0 % 1000 := by
  rcases xs with _ | ⟨x, _ | ⟨y, r⟩⟩
  · simp at hl
  · rcases (by simp at hl; omega : k = 0) with rfl
    simp [smN]
  · rcases (by omega : k = 0 ∨ k = 1) with rfl | rfl <;> simp [smN]
theorem dsmall_c (b : Bool) (xs : List Int) (z : Int) : Called Tryz.prog 98 [.agg [.bool b, .ints .u16 xs, .int .u16 z]] (.int .i64 (smZ b xs)) := by
  have hb := smN_b xs
  unfold smZ
  refine called_of_run tbOk 6 ⟨Tryz.func98, rfl, rfl, Nat.le_of_ble_eq_true rfl⟩ ?_
  (conv => whnf)
  refine V.st ?_
  refine lp_any ((0 : Nat)) (fun k => k ≤ 2 ∧ k ≤ xs.length) (fun k => 2 - k) (fun k => [(3, .int .i64 (smN (xs.take k))), (4, .int .i64 k)]) (fun k => []) ?_ ?_ ?_
  · exact V.wk
  · exact ⟨by omega, by omega⟩
  intro k hk
  have hkc : ((k : Int) + 1) = ((k + 1 : Nat) : Int) := by omega
  have hb2 := smN_b (xs.take k)
  (conv => whnf)
  refine V.st ?_
  refine Cnd.split (CondB.mk (fun hq => ?_) (fun hq => ?_))
  · simp only [Bool.and_true, Bool.and_eq_true, decide_eq_true_eq] at hq
    obtain ⟨x, hx, ex⟩ := getxn (xs := xs) (k := k) (by omega)
    have hs := smN_step xs k (by omega) (by omega)
    rw [ex] at hs
    (conv => whnf)
    (try simp only [Int.toNat_natCast, ex, hkc])
    repeat (first | (refine V.s1 ?_; (try simp only [Int.toNat_natCast, ex, hkc])) | ((with_reducible refine recheck_and ?_ ?_); (focus ((conv => whnf); (try simp only [Int.toNat_natCast, ex, hkc]); (repeat (refine V.s1 ?_; (try simp only [Int.toNat_natCast, ex, hkc]))); exact ⟨rfl⟩)); (conv => whnf); (try simp only [Int.toNat_natCast, ex, hkc])))
    rw [← hs]
    exact ⟨k + 1, ⟨by omega, by omega⟩, by omega, V.wk⟩
  · have hs := smN_take xs k (by simp at hq; omega)
    rw [hs]
    (conv => whnf)
    refine V.st ?_
    refine Cnd.split (CondB.mk (fun g => ?_) (fun g => ?_))
    · subst g
      (conv => whnf)
      refine V.st ?_
      exact Fin.of (by simp)
    · subst g
      (conv => whnf)
      refine V.st ?_
      exact Fin.of (by simp)
def frT (x : Rat) : D := .agg [.str (decZ x.num), .str (dec x.den)]
theorem out_small (n m : Int) (hn : -999999 ≤ n ∧ n ≤ 999999) (hm : 1 ≤ m ∧ m ≤ 999999) : okF (Rat.divInt n m) = true := by
  obtain ⟨d, rfl⟩ : ∃ d : Nat, m = d := ⟨m.toNat, by omega⟩
  have := divInt_le n d (by omega)
  refine okF_small ?_ ?_
  · exact Nat.lt_of_le_of_lt this.1 (by omega)
  · exact Nat.lt_of_le_of_lt this.2 (by omega)
end Go.Proofs.YtplflfnfodghmaaGreatDoor
end
section
namespace Go.Proofs.YtplflfnfodghmaaGreatDoor
open Go Go.V Go.Nb
theorem times01_c (x y : Int) (hx : Sm 40000000 x) (hy : Sm 40000000 y) : Called Tryz.prog 132 [plD x, plD y] (plD (x * y)) := by
  unfold Sm at hx hy
  have hl := mg_len_mul (B := 10000) (by omega) x.natAbs y.natAbs
  have hp := product_g (mg 10000 x.natAbs) (mg 10000 y.natAbs) (by omega) (by omega) (mg_dg (by omega) _) (fun j => by
    have := dg_getD (B := 10000) (by omega) (mg_dg (B := 10000) (by omega) y.natAbs) j
    omega)
  rw [mg_val (by omega), mg_val (by omega), ← Int.natCast_mul, Int.toNat_natCast] at hp
  have hm := made_mg (!(decide (x < 0) == decide (y < 0))) (x.natAbs * y.natAbs) (by omega)
  have e : (if (!(decide (x < 0) == decide (y < 0))) = true then -((x.natAbs * y.natAbs : Nat) : Int) else ((x.natAbs * y.natAbs : Nat) : Int)) = x * y := by
    rw [Int.natCast_mul]
    by_cases h : x < 0
    · have e1 : (x.natAbs : Int) = -x := by omega
      by_cases h2 : y < 0
      · have e2 : (y.natAbs : Int) = -y := by omega
        rw [e1, e2]; simp [h, h2, Int.neg_mul_neg]
      · have e2 : (y.natAbs : Int) = y := by omega
        rw [e1, e2]; simp [h, h2, Int.neg_mul]
    · have e1 : (x.natAbs : Int) = x := by omega
      by_cases h2 : y < 0
      · have e2 : (y.natAbs : Int) = -y := by omega
        rw [e1, e2]; simp [h, h2, Int.mul_neg]
      · have e2 : (y.natAbs : Int) = y := by omega
        rw [e1, e2]; simp [h, h2]
  rw [e] at hm
  rw [show plD x = .agg [.bool (decide (x < 0)), .ints .i64 (mg 10000 x.natAbs)] from rfl, show plD y = .agg [.bool (decide (y < 0)), .ints .i64 (mg 10000 y.natAbs)] from rfl]
  refine called_of_run tbOk 6 ⟨Tryz.func132, rfl, rfl, Nat.le_of_ble_eq_true rfl⟩ ?_
  (conv => whnf)
  refine V.st ?_
  refine ⟨(.take 0 (.take 1 (.take 2 (.take 3 (.take 4 (.take 5 (.take 6 (.take 7 (.take 8 (.ev (.cons 9 [4, 3, 2, 1, 0] (.ev (.cons 10 [] (.ev (.cons 11 [] (.done) (.nil))) (.nil))) (.nil)))))))))))), ⟨by kernel_rfl, by kernel_rfl, by kernel_rfl⟩, .go ?_⟩
  (conv => whnf)
  refine V.st ?_
  repeat ((try ((with_reducible refine .ext ?_); (conv => whnf))); (with_reducible refine call_intro (r := ?_) ?_ ?_); rotate_left; (focus (first | exact (hp) | exact (hm))); (conv => whnf); refine V.st ?_)
  exact Fin.of rfl
theorem order01_c (x y : Int) (hx : Sm 80000000 x) (hy : Sm 80000000 y) : Called Tryz.prog 135 [plD x, plD y] (.int .i64 (x - y).sign) := by
  have hm := minus_c x y (hx.mono (by omega)) (hy.mono (by omega))
  have hn := mg_nil (B := 10000) (n := (x - y).natAbs) (by omega)
  have hz : Sm 80000001 (x - y) := by rw [Int.sub_eq_add_neg]; exact hx.add hy.neg
  unfold Sm at hz
  rw [show plD (x - y) = .agg [.bool (decide (x - y < 0)), .ints .i64 (mg 10000 (x - y).natAbs)] from rfl] at hm
  generalize x - y = z at *
  generalize mg 10000 z.natAbs = xs at *
  refine called_of_run tbOk 6 ⟨Tryz.func135, rfl, rfl, Nat.le_of_ble_eq_true rfl⟩ ?_
  (conv => whnf)
  refine V.st ?_
  repeat ((try ((with_reducible refine .ext ?_); (conv => whnf))); (with_reducible refine call_intro (r := ?_) ?_ ?_); rotate_left; (focus (first | exact (hm))); (conv => whnf); refine V.st ?_)
  refine Cnd.split (CondB.mk (fun hq => ?_) (fun hq => ?_))
  · rw [decide_eq_true_eq] at hq
    (conv => whnf)
    refine V.st ?_
    exact Fin.of (by rw [Int.sign_eq_neg_one_of_neg hq])
  · rw [decide_eq_false_iff_not] at hq
    (conv => whnf)
    refine V.st ?_
    refine Cnd.split (CondB.mk (fun hq2 => ?_) (fun hq2 => ?_))
    · rw [decide_eq_true_eq] at hq2
      have h0 : z ≠ 0 := fun e => by
        have := hn.2 (by rw [e]; rfl)
        rw [this] at hq2; simp at hq2
      (conv => whnf)
      refine V.st ?_
      exact Fin.of (by rw [Int.sign_eq_one_of_pos (by omega)])
    · rw [decide_eq_false_iff_not] at hq2
      have h0 := hn.1 (List.length_eq_zero_iff.1 (by omega))
      (conv => whnf)
      refine V.st ?_
      exact Fin.of (by rw [show z = 0 by omega]; rfl)
theorem off1 {p : Go.Program} {f : Nat} {ys : List D} {c : Bool} (hc : c = false) : c = true → Called p f ys (.int .i64 0) := fun h => by rw [hc] at h; cases h
theorem sign_lt {a b : Int} : (a - b).sign < 0 ↔ a < b := by
  rcases Int.lt_trichotomy a b with h | h | h
  · rw [Int.sign_eq_neg_one_of_neg (by omega)]; exact ⟨fun _ => h, fun _ => by omega⟩
  · rw [h, Int.sub_self]; exact ⟨fun e => by simp at e, fun e => by omega⟩
  · rw [Int.sign_eq_one_of_pos (by omega)]; exact ⟨fun e => by omega, fun e => by omega⟩
theorem sign_gt {a b : Int} : (a - b).sign > 0 ↔ a > b := by
  rcases Int.lt_trichotomy a b with h | h | h
  · rw [Int.sign_eq_neg_one_of_neg (by omega)]; exact ⟨fun e => by omega, fun e => by omega⟩
  · rw [h, Int.sub_self]; exact ⟨fun e => by simp at e, fun e => by omega⟩
  · rw [Int.sign_eq_one_of_pos (by omega)]; exact ⟨fun _ => h, fun _ => by omega⟩
theorem integral_c (z : Int) (hz : Sm 80000000 z) : Called Tryz.prog 89 [plD z] (.tup [.int .i64 (if -9223372036854775808 ≤ z ∧ z ≤ 9223372036854775807 then z else 0), .int .i64 (if -9223372036854775808 ≤ z ∧ z ≤ 9223372036854775807 then 0 else 6)]) := by
  have i1 := integer_c (-9223372036854775808) (by constructor <;> decide)
  have i2 := integer_c 9223372036854775807 (by constructor <;> decide)
  have y1 : Sm 5 (-9223372036854775808) := Sm.lit (by decide)
  have y2 : Sm 5 9223372036854775807 := Sm.lit (by decide)
  have o1 := order01_c z (-9223372036854775808) hz (y1.mono (by omega))
  have o2 := order01_c z 9223372036854775807 hz (y2.mono (by omega))
  have t1 := sign_lt (a := z) (b := -9223372036854775808)
  have t2 := sign_gt (a := z) (b := 9223372036854775807)
  generalize (z - -9223372036854775808).sign = s1 at *
  generalize (z - 9223372036854775807).sign = s2 at *
  have hdx := mg_dg (B := 10000) (by omega) z.natAbs
  have hvx := mg_val (B := 10000) (by omega) z.natAbs
  unfold Sm at hz
  have hlen : z.natAbs < 10000 ^ 5 → (mg 10000 z.natAbs).length ≤ 5 := fun h => mg_len_le (by omega) h
  rw [show plD z = .agg [.bool (decide (z < 0)), .ints .i64 (mg 10000 z.natAbs)] from rfl] at *
  generalize mg 10000 z.natAbs = xs at *
  refine called_of_run tbOk 6 ⟨Tryz.func89, rfl, rfl, Nat.le_of_ble_eq_true rfl⟩ ?_
  (conv => whnf)
  refine V.st ?_
  refine ⟨(.take 0 (.ev (.cons 1 [0] (.ev (.cons 2 [] (.take 3 (.take 4 (.take 5 (.ev (.cons 6 [5] (.ev (.cons 7 [] (.take 8 (.take 9 (.done))) (.nil))) (.nil)))))) (.nil))) (.nil)))), ⟨by kernel_rfl, by kernel_rfl, by kernel_rfl⟩, .go ?_⟩
  by_cases h1 : s1 < 0
  · have hd : decide (s1 < 0) = true := decide_eq_true h1
    have hn : ¬ (-9223372036854775808 ≤ z ∧ z ≤ 9223372036854775807) := by omega
    rw [if_neg hn, if_neg hn]
    (conv => whnf)
    (try simp only [hd])
    repeat (first | (refine V.s1 ?_; (try simp only [hd])) | ((with_reducible refine recheck_and ?_ ?_); (focus ((conv => whnf); (try simp only [hd]); (repeat (refine V.s1 ?_; (try simp only [hd]))); exact ⟨rfl⟩)); (conv => whnf); (try simp only [hd])) | ((try ((with_reducible refine .ext ?_); (conv => whnf); (try simp only [hd]))); (with_reducible refine call_intro (r := ?_) ?_ ?_); rotate_left; (focus (first | exact (i1) | exact (o1) | exact (i2) | exact (o2) | exact (off1 rfl))); (conv => whnf); (try simp only [hd])))
    refine And.intro (fun _ h => by cases h) ?_
    (conv => whnf)
    (try simp only [hd])
    repeat (first | (refine V.s1 ?_; (try simp only [hd])) | ((with_reducible refine recheck_and ?_ ?_); (focus ((conv => whnf); (try simp only [hd]); (repeat (refine V.s1 ?_; (try simp only [hd]))); exact ⟨rfl⟩)); (conv => whnf); (try simp only [hd])))
    refine Cnd.split (CondB.mk (fun hq => ?_) (fun hq => ?_))
    · (conv => whnf)
      refine V.st ?_
      exact Fin.of rfl
    · simp at hq
  · have hd : decide (s1 < 0) = false := decide_eq_false h1
    (conv => whnf)
    (try simp only [hd])
    repeat (first | (refine V.s1 ?_; (try simp only [hd])) | ((with_reducible refine recheck_and ?_ ?_); (focus ((conv => whnf); (try simp only [hd]); (repeat (refine V.s1 ?_; (try simp only [hd]))); exact ⟨rfl⟩)); (conv => whnf); (try simp only [hd])) | ((try ((with_reducible refine .ext ?_); (conv => whnf); (try simp only [hd]))); (with_reducible refine call_intro (r := ?_) ?_ ?_); rotate_left; (focus (first | exact (i1) | exact (o1) | exact (i2) | exact (o2))); (conv => whnf); (try simp only [hd])))
    refine Cnd.split (CondB.mk (fun hq => ?_) (fun hq => ?_))
    · simp only [Bool.false_or, decide_eq_true_eq] at hq
      have hn : ¬ (-9223372036854775808 ≤ z ∧ z ≤ 9223372036854775807) := by omega
      rw [if_neg hn, if_neg hn]
      (conv => whnf)
      refine V.st ?_
      exact Fin.of rfl
    · simp only [Bool.false_or, decide_eq_false_iff_not] at hq
      have hn : -9223372036854775808 ≤ z ∧ z ≤ 9223372036854775807 := by omega
      rw [if_pos hn, if_pos hn]
      have hl5 := hlen (by omega)
      (conv => whnf)
      refine V.st ?_
      refine lp_any (xs.length : Nat) (fun k => k ≤ xs.length) (fun k => k) (fun k => [(5, .int .i64 ((k : Int) - 1)), (4, .int .i64 (0 - val 10000 (xs.drop k)))]) (fun _ => []) ?_ ?_ ?_
      · rw [List.drop_length]
        exact V.wk
      · exact Nat.le_refl _
      intro k hk
      (conv => whnf)
      refine V.st ?_
      refine Cnd.split (CondB.mk (fun hq2 => ?_) (fun hq2 => ?_))
      · rw [decide_eq_true_eq] at hq2
        obtain ⟨j, rfl⟩ : ∃ j, k = j + 1 := ⟨k - 1, by omega⟩
        have hd2 := val_drop (B := 10000) (l := xs) (k := j) (by omega)
        have bx := dg_getD (by omega) hdx j
        have h0 := val_nonneg (dg_drop hdx (j + 1))
        have he := (val_ends (B := 10000) (by omega) hdx j).1
        have hp1 : (1 : Int) ≤ ((10000 : Nat) : Int) ^ j := by have := pow_pos' (B := 10000) (by omega) j; omega
        have hle : val 10000 (xs.drop j) ≤ val 10000 xs := by
          have := Int.mul_le_mul_of_nonneg_left hp1 (val_nonneg (dg_drop hdx j))
          omega
        have e2 : (((j + 1 : Nat) : Int) - 1) = (j : Int) := by omega
        generalize hx0 : xs.getD j 0 = x at *
        have e3 : (0 - val 10000 (xs.drop (j + 1))) * 10000 - x = 0 - val 10000 (xs.drop j) := by omega
        (conv => whnf)
        (try simp only [e2, Int.toNat_natCast, hx0, e3])
        repeat (first | (refine V.s1 ?_; (try simp only [e2, Int.toNat_natCast, hx0, e3])) | ((with_reducible refine recheck_and ?_ ?_); (focus ((conv => whnf); (try simp only [e2, Int.toNat_natCast, hx0, e3]); (repeat (refine V.s1 ?_; (try simp only [e2, Int.toNat_natCast, hx0, e3]))); exact ⟨rfl⟩)); (conv => whnf); (try simp only [e2, Int.toNat_natCast, hx0, e3])))
        exact ⟨j, by omega, by omega, V.wk⟩
      · rw [decide_eq_false_iff_not] at hq2
        obtain rfl : k = 0 := by omega
        rw [List.drop_zero, hvx]
        (conv => whnf)
        refine V.st ?_
        refine Cnd.split (CondB.mk (fun hz0 => ?_) (fun hz0 => ?_))
        · rw [decide_eq_true_eq] at hz0
          (conv => whnf)
          refine V.st ?_
          exact Fin.of (by rw [show 0 - (z.natAbs : Int) = z by omega])
        · rw [decide_eq_false_iff_not] at hz0
          (conv => whnf)
          refine V.st ?_
          exact Fin.of (by rw [show 0 - (0 - (z.natAbs : Int)) = z by omega])
end Go.Proofs.YtplflfnfodghmaaGreatDoor
end
section
namespace Go.Proofs.YtplflfnfodghmaaGreatDoor
open Go Go.V Go.Nb
def Q4 (k : Nat) (q : Rat) : Prop := Sm k q.num ∧ Sm k (q.den : Int)
theorem Q4.mono {k l : Nat} {q : Rat} (h : Q4 k q) (hl : k ≤ l) : Q4 l q := ⟨h.1.mono hl, h.2.mono hl⟩
theorem Q4.neg {k : Nat} {q : Rat} (h : Q4 k q) : Q4 k (-q) := ⟨by rw [Rat.neg_num]; exact h.1.neg, by rw [Rat.neg_den]; exact h.2⟩
theorem Q4.of {k : Nat} {n d : Int} (hn : Sm k n) (hd : Sm k d) (hd0 : d ≠ 0) : Q4 k (Rat.divInt n d) := by
  have h1 := low_num n d hd0
  have h2 := low_den n d hd0
  have h3 := natAbs_ediv_le (if d < 0 then -n else n) (Int.gcd (if d < 0 then -n else n) (if d < 0 then -d else d))
  have h4 := natAbs_ediv_le (if d < 0 then -d else d) (Int.gcd (if d < 0 then -n else n) (if d < 0 then -d else d))
  rw [h1] at h3
  rw [h2] at h4
  have e1 : (if d < 0 then -n else n).natAbs = n.natAbs := by split <;> simp
  have e2 : (if d < 0 then -d else d).natAbs = d.natAbs := by split <;> simp
  exact ⟨hn.le (by omega), hd.le (by omega)⟩
theorem plN (n : Nat) : plD (n : Int) = .agg [.bool false, .ints .i64 (mg 10000 n)] := by
  unfold plD
  rw [decide_eq_false (by omega), Int.natAbs_natCast]
theorem mul_divInt (x y : Rat) : x * y = Rat.divInt (x.num * y.num) ((x.den : Int) * (y.den : Int)) := by
  conv => lhs; rw [← Rat.num_divInt_den x, ← Rat.num_divInt_den y]
  rw [Rat.divInt_mul_divInt]
theorem den_ne (x : Rat) : (x.den : Int) ≠ 0 := by have := x.den_pos; omega
theorem times02_c (x y : Rat) (hx : Q4 40000000 x) (hy : Q4 40000000 y) : Called Tryz.prog 74 [raD x, raD y] (raD (x * y)) := by
  have h1 := times01_c x.num y.num hx.1 hy.1
  have h2 := times01_c x.den y.den hx.2 hy.2
  have h3 := lowest_c (x.num * y.num) ((x.den : Int) * (y.den : Int)) (hx.1.mul hy.1) (hx.2.mul hy.2) (Int.mul_ne_zero (den_ne x) (den_ne y))
  rw [← mul_divInt] at h3
  rw [plN, plN] at h2
  refine called_of_run tbOk 6 ⟨Tryz.func74, rfl, rfl, Nat.le_of_ble_eq_true rfl⟩ ?_
  (conv => whnf)
  refine V.st ?_
  refine ⟨(.take 0 (.take 1 (.take 2 (.take 3 (.take 5 (.take 6 (.take 7 (.take 8 (.ev (.cons 4 [8, 7, 6, 5] (.ev (.cons 9 [] (.ev (.cons 10 [] (.ev (.cons 11 [] (.done) (.nil))) (.nil))) (.nil))) (.nil))))))))))), ⟨by kernel_rfl, by kernel_rfl, by kernel_rfl⟩, .go ?_⟩
  (conv => whnf)
  refine V.st ?_
  repeat ((try ((with_reducible refine .ext ?_); (conv => whnf))); (with_reducible refine call_intro (r := ?_) ?_ ?_); rotate_left; (focus (first | exact (h1) | exact (h2) | exact (h3))); (conv => whnf); refine V.st ?_)
  exact Fin.of rfl
theorem order02_c (x y : Rat) (hx : Q4 40000000 x) (hy : Q4 40000000 y) : Called Tryz.prog 106 [raD x, raD y] (.int .i64 (ordQ x y)) := by
  have h1 := times01_c x.num y.den hx.1 hy.2
  have h2 := times01_c y.num x.den hy.1 hx.2
  have h3 := order01_c (x.num * y.den) (y.num * x.den) (hx.1.mul hy.2) (hy.1.mul hx.2)
  rw [Int.sub_eq_add_neg, order_parts] at h3
  rw [plN] at h1 h2
  refine called_of_run tbOk 6 ⟨Tryz.func106, rfl, rfl, Nat.le_of_ble_eq_true rfl⟩ ?_
  (conv => whnf)
  refine V.st ?_
  refine ⟨(.take 0 (.take 1 (.take 2 (.take 3 (.take 5 (.take 6 (.take 7 (.take 8 (.ev (.cons 4 [8, 7, 6, 5] (.ev (.cons 9 [] (.ev (.cons 10 [] (.take 11 (.done)) (.nil))) (.nil))) (.nil))))))))))), ⟨by kernel_rfl, by kernel_rfl, by kernel_rfl⟩, .go ?_⟩
  (conv => whnf)
  refine V.st ?_
  repeat ((try ((with_reducible refine .ext ?_); (conv => whnf))); (with_reducible refine call_intro (r := ?_) ?_ ?_); rotate_left; (focus (first | exact (h1) | exact (h2) | exact (h3))); (conv => whnf); refine V.st ?_)
  exact Fin.of rfl
theorem down_c (x : Rat) (hx : Q4 80000000 x) : Called Tryz.prog 90 [raD x] (plD (x.num / (x.den : Int))) := by
  have h1 := partsP_c x.num x.den hx.1 hx.2 (den_ne x)
  rw [plN] at h1
  refine called_of_run tbOk 6 ⟨Tryz.func90, rfl, rfl, Nat.le_of_ble_eq_true rfl⟩ ?_
  (conv => whnf)
  refine V.st ?_
  repeat ((try ((with_reducible refine .ext ?_); (conv => whnf))); (with_reducible refine call_intro (r := ?_) ?_ ?_); rotate_left; (focus (first | exact (h1))); (conv => whnf); refine V.st ?_)
  exact Fin.of rfl
theorem turn02_c (x : Rat) (hx : Q4 80000000 x) : Called Tryz.prog 150 [raD x] (raD (-x)) := by
  have h1 := turn_c x.num (by have := hx.1; unfold Sm at this; omega)
  have e : raD (-x) = .agg [.bool (decide (-x.num < 0)), .ints .i64 (mg 10000 (-x.num).natAbs), .bool false, .ints .i64 (mg 10000 x.den)] := by unfold raD; rw [Rat.neg_num, Rat.neg_den]
  rw [e]
  refine called_of_run tbOk 6 ⟨Tryz.func150, rfl, rfl, Nat.le_of_ble_eq_true rfl⟩ ?_
  (conv => whnf)
  refine V.st ?_
  refine ⟨(.take 0 (.take 1 (.take 3 (.take 4 (.ev (.cons 2 [4, 3] (.take 5 (.ev (.cons 6 [] (.done) (.nil)))) (.nil))))))), ⟨by kernel_rfl, by kernel_rfl, by kernel_rfl⟩, .go ?_⟩
  (conv => whnf)
  refine V.st ?_
  repeat ((try ((with_reducible refine .ext ?_); (conv => whnf))); (with_reducible refine call_intro (r := ?_) ?_ ?_); rotate_left; (focus (first | exact (h1))); (conv => whnf); refine V.st ?_)
  exact Fin.of rfl
theorem value_c (n : Int) (hn : InR .i64 n) : Called Tryz.prog 73 [.int .i64 n] (raD (Rat.divInt n 1000000000000)) := by
  have h := quick_c n 1000000000000 hn (by constructor <;> decide) (by decide)
  refine called_of_run tbOk 6 ⟨Tryz.func73, rfl, rfl, Nat.le_of_ble_eq_true rfl⟩ ?_
  (conv => whnf)
  refine V.st ?_
  repeat ((try ((with_reducible refine .ext ?_); (conv => whnf))); (with_reducible refine call_intro (r := ?_) ?_ ?_); rotate_left; (focus (first | exact (h))); (conv => whnf); refine V.st ?_)
  exact Fin.of rfl
theorem Q4.mul {k l : Nat} {x y : Rat} (h : Q4 k x) (g : Q4 l y) : Q4 (k + l) (x * y) := by
  rw [mul_divInt]
  exact Q4.of (h.1.mul g.1) (h.2.mul g.2) (Int.mul_ne_zero (den_ne x) (den_ne y))
theorem add_divInt' (x y : Rat) : x + y = Rat.divInt (x.num * y.den + y.num * x.den) ((x.den : Int) * (y.den : Int)) := by
  conv => lhs; rw [← Rat.num_divInt_den x, ← Rat.num_divInt_den y]
  rw [Rat.divInt_add_divInt _ _ (den_ne x) (den_ne y)]
theorem over_eq (x y : Rat) (hy : y ≠ 0) : x / y = Rat.divInt (x.num * y.den) ((x.den : Int) * y.num) := by
  rw [Rat.div_def]
  conv => lhs; rw [← Rat.num_divInt_den x, ← Rat.num_divInt_den y, Rat.inv_divInt, Rat.divInt_mul_divInt]
end Go.Proofs.YtplflfnfodghmaaGreatDoor
end
section
namespace Go.Proofs.YtplflfnfodghmaaGreatDoor
open Go Go.V Go.Nb
theorem right03_c (lo hi : Int) : Called Tryz.prog 72 [bA lo hi] (.bool (vb lo hi)) := by
  refine called_of_run tbOk 6 ⟨Tryz.func72, rfl, rfl, Nat.le_of_ble_eq_true rfl⟩ ?_
  (conv => whnf)
  refine V.st ?_
  exact Fin.of rfl
theorem off2 {p : Go.Program} {f : Nat} {ys : List D} {c : Bool} (hc : c = false) : c = true → Called p f ys (.bool false) := fun h => by rw [hc] at h; cases h
def fl (q : Rat) : Int := q.num / (q.den : Int)
def oneE : Rat := Rat.divInt 1000000000000 1
def tightR (x y : Rat) : Int × Int × Int := mk (fl (x * oneE)) (0 - fl (-(y * oneE)))
theorem sm_fl {k : Nat} {q : Rat} (h : Q4 k q) : Sm k (fl q) := h.1.le (by
  unfold fl
  exact natAbs_ediv_le _ _)
theorem mk_no {a b : Int} (h : ¬ (-1000000000000000000 ≤ a ∧ a ≤ b ∧ b ≤ 1000000000000000000)) : mk a b = (0, 0, 6) := by
  unfold mk
  rw [if_neg (fun e => h (vb_iff.1 e))]
theorem tight_c (x y : Rat) (hx : Q4 1000 x) (hy : Q4 1000 y) : Called Tryz.prog 103 [raD x, raD y] (bD (tightR x y)) := by
  have q1 := quick_c 1000000000000 1 (by constructor <;> decide) (by constructor <;> decide) (by decide)
  have y1 : Sm 5 1000000000000 := Sm.lit (by decide)
  have y2 : Sm 5 1 := Sm.lit (by decide)
  have hE : Q4 5 oneE := Q4.of y1 y2 (by decide)
  have t1 := times02_c x oneE (hx.mono (by omega)) (hE.mono (by omega))
  have t2 := times02_c y oneE (hy.mono (by omega)) (hE.mono (by omega))
  have z1 := hx.mul hE
  have z2 := hy.mul hE
  have d1 := down_c (x * oneE) (z1.mono (by omega))
  have n2 := turn02_c (y * oneE) (z2.mono (by omega))
  have d2 := down_c (-(y * oneE)) (z2.neg.mono (by omega))
  have i1 := integral_c (fl (x * oneE)) ((sm_fl z1).mono (by omega))
  have i2 := integral_c (fl (-(y * oneE))) ((sm_fl z2.neg).mono (by omega))
  rw [show Rat.divInt 1000000000000 1 = oneE from rfl] at q1
  rw [show (x * oneE).num / ((x * oneE).den : Int) = fl (x * oneE) from rfl] at d1
  rw [show (-(y * oneE)).num / ((-(y * oneE)).den : Int) = fl (-(y * oneE)) from rfl] at d2
  unfold tightR
  generalize fl (x * oneE) = a at *
  generalize fl (-(y * oneE)) = b at *
  have r := right03_c a (0 - b)
  by_cases h1 : -9223372036854775808 ≤ a ∧ a ≤ 9223372036854775807
  · rw [if_pos h1, if_pos h1] at i1
    by_cases h2 : -9223372036854775808 ≤ b ∧ b ≤ 9223372036854775807
    · rw [if_pos h2, if_pos h2] at i2
      by_cases h3 : b = -9223372036854775808
      · rw [mk_no (by omega)]
        subst h3
        refine called_of_run tbOk 6 ⟨Tryz.func103, rfl, rfl, Nat.le_of_ble_eq_true rfl⟩ ?_
        (conv => whnf)
        refine V.st ?_
        repeat ((try ((with_reducible refine .ext ?_); (conv => whnf))); (with_reducible refine call_intro (r := ?_) ?_ ?_); rotate_left; (focus (first | exact (q1) | exact (t1) | exact (d1) | exact (i1) | exact (t2) | exact (n2) | exact (d2) | exact (i2))); (conv => whnf); refine V.st ?_)
        refine .inl ⟨fun h => by simp at h, ?_⟩
        (conv => whnf)
        refine V.st ?_
        refine ⟨.bool false, fun h => by simp at h, ?_⟩
        (conv => whnf)
        refine V.st ?_
        exact Fin.of rfl
      · unfold mk
        generalize hv : vb a (0 - b) = v at *
        have h3d : decide (b = -9223372036854775808) = false := decide_eq_false h3
        refine called_of_run tbOk 6 ⟨Tryz.func103, rfl, rfl, Nat.le_of_ble_eq_true rfl⟩ ?_
        (conv => whnf)
        (conv => whnf)
        (try simp only [h3d])
        repeat (first | (refine V.s1 ?_; (try simp only [h3d])) | ((with_reducible refine recheck_and ?_ ?_); (focus ((conv => whnf); (try simp only [h3d]); (repeat (refine V.s1 ?_; (try simp only [h3d]))); exact ⟨rfl⟩)); (conv => whnf); (try simp only [h3d])) | ((try ((with_reducible refine .ext ?_); (conv => whnf); (try simp only [h3d]))); (with_reducible refine call_intro (r := ?_) ?_ ?_); rotate_left; (focus (first | exact (q1) | exact (t1) | exact (d1) | exact (i1) | exact (t2) | exact (n2) | exact (d2) | exact (i2) | exact (r))); (conv => whnf); (try simp only [h3d])))
        refine Cnd.split (CondB.mk (fun hq => ?_) (fun hq => ?_))
        · simp at hq
          subst hq
          rw [if_neg (by simp)]
          (conv => whnf)
          (try simp only [h3d])
          repeat (first | (refine V.s1 ?_; (try simp only [h3d])) | ((with_reducible refine recheck_and ?_ ?_); (focus ((conv => whnf); (try simp only [h3d]); (repeat (refine V.s1 ?_; (try simp only [h3d]))); exact ⟨rfl⟩)); (conv => whnf); (try simp only [h3d])))
          exact Fin.of rfl
        · simp at hq
          subst hq
          rw [if_pos rfl]
          (conv => whnf)
          (try simp only [h3d])
          repeat (first | (refine V.s1 ?_; (try simp only [h3d])) | ((with_reducible refine recheck_and ?_ ?_); (focus ((conv => whnf); (try simp only [h3d]); (repeat (refine V.s1 ?_; (try simp only [h3d]))); exact ⟨rfl⟩)); (conv => whnf); (try simp only [h3d])))
          exact Fin.of rfl
    · rw [if_neg h2, if_neg h2] at i2
      rw [mk_no (by omega)]
      refine called_of_run tbOk 6 ⟨Tryz.func103, rfl, rfl, Nat.le_of_ble_eq_true rfl⟩ ?_
      (conv => whnf)
      refine V.st ?_
      repeat ((try ((with_reducible refine .ext ?_); (conv => whnf))); (with_reducible refine call_intro (r := ?_) ?_ ?_); rotate_left; (focus (first | exact (q1) | exact (t1) | exact (d1) | exact (i1) | exact (t2) | exact (n2) | exact (d2) | exact (i2))); (conv => whnf); refine V.st ?_)
      refine ⟨.bool false, fun h => by simp at h, ?_⟩
      (conv => whnf)
      refine V.st ?_
      exact Fin.of rfl
  · rw [if_neg h1, if_neg h1] at i1
    rw [mk_no (by omega)]
    generalize (if -9223372036854775808 ≤ b ∧ b ≤ 9223372036854775807 then b else 0) = b1 at *
    generalize (if -9223372036854775808 ≤ b ∧ b ≤ 9223372036854775807 then (0 : Int) else 6) = b2 at *
    refine called_of_run tbOk 6 ⟨Tryz.func103, rfl, rfl, Nat.le_of_ble_eq_true rfl⟩ ?_
    (conv => whnf)
    refine V.st ?_
    repeat ((try ((with_reducible refine .ext ?_); (conv => whnf))); (with_reducible refine call_intro (r := ?_) ?_ ?_); rotate_left; (focus (first | exact (q1) | exact (t1) | exact (d1) | exact (i1) | exact (t2) | exact (n2) | exact (d2) | exact (i2))); (conv => whnf); refine V.st ?_)
    refine .inl ⟨fun h => by simp at h, ?_⟩
    (conv => whnf)
    refine V.st ?_
    refine ⟨.bool false, fun h => by simp at h, ?_⟩
    (conv => whnf)
    refine V.st ?_
    refine Cnd.split (CondB.mk (fun hq => ?_) (fun hq => ?_))
    · (conv => whnf)
      refine V.st ?_
      exact Fin.of rfl
    · simp at hq
end Go.Proofs.YtplflfnfodghmaaGreatDoor
end
section
namespace Go.Proofs.YtplflfnfodghmaaGreatDoor
open Go Go.V Go.Nb
def raL (q : Rat) : List D := [.bool (decide (q.num < 0)), .ints .i64 (mg 10000 q.num.natAbs), .bool false, .ints .i64 (mg 10000 q.den)]
def lsr (m x : Rat) : Rat := if x < m then x else m
def gtr (m x : Rat) : Rat := if m < x then x else m
theorem ordQ_lt {x y : Rat} : ordQ x y < 0 ↔ x < y := by
  unfold ordQ
  by_cases a : x < y
  · rw [if_pos a]; exact ⟨fun _ => a, fun _ => by omega⟩
  · rw [if_neg a]
    by_cases b : x = y
    · rw [if_pos b]; exact ⟨fun h => by omega, fun h => absurd h a⟩
    · rw [if_neg b]; exact ⟨fun h => by omega, fun h => absurd h a⟩
theorem ordQ_gt {x y : Rat} : ordQ x y > 0 ↔ y < x := by
  unfold ordQ
  by_cases a : x < y
  · rw [if_pos a]; exact ⟨fun h => by omega, fun h => absurd h (Rat.not_lt.2 (Rat.le_of_lt a))⟩
  · rw [if_neg a]
    by_cases b : x = y
    · rw [if_pos b, b]; exact ⟨fun h => by omega, fun h => absurd h (Rat.lt_irrefl)⟩
    · rw [if_neg b]; exact ⟨fun _ => Rat.lt_of_le_of_ne (Rat.not_lt.1 a) (Ne.symm b), fun _ => by omega⟩
theorem take_foldlR {op : Rat → Rat → Rat} {x : Rat} {xs : List Rat} {k : Nat} (h : k < xs.length) : (xs.take (k + 1)).foldl op x = op ((xs.take k).foldl op x) (xs.getD k 0) := by
  rw [List.take_add_one, List.foldl_append, List.getD_eq_getElem?_getD, List.getElem?_eq_getElem h]
  rfl
theorem fold_q4 {op : Rat → Rat → Rat} (hop : ∀ a b, op a b = a ∨ op a b = b) {K : Nat} : ∀ {xs : List Rat} {x : Rat}, Q4 K x → (∀ q ∈ xs, Q4 K q) → Q4 K (xs.foldl op x)
  | [], x, h, _ => h
  | y :: ys, x, h, g => by
    rw [List.foldl_cons]
    refine fold_q4 hop ?_ (fun q hq => g q (List.mem_cons_of_mem _ hq))
    rcases hop x y with e | e
    · rw [e]; exact h
    · rw [e]; exact g y List.mem_cons_self
theorem lsr_or (a b : Rat) : lsr a b = a ∨ lsr a b = b := by unfold lsr; split <;> simp
theorem gtr_or (a b : Rat) : gtr a b = a ∨ gtr a b = b := by unfold gtr; split <;> simp
theorem between_c (x : Rat) (xs : List Rat) (hn : xs.length < 100) (hx : Q4 1000 x) (hxs : ∀ q ∈ xs, Q4 1000 q) (f : Nat → List D) (hf0 : f 0 = raL x) (hf : ∀ j, j < xs.length → f (j + 1) = raL (xs.getD j 0)) :
    Called Tryz.prog 76 [.slf 4 (xs.length + 1) f] (bD (tightR (xs.foldl lsr x) (xs.foldl gtr x))) := by
  have ht := tight_c (xs.foldl lsr x) (xs.foldl gtr x) (fold_q4 lsr_or hx hxs) (fold_q4 gtr_or hx hxs)
  unfold raL at hf0 hf
  obtain ⟨n, hnn⟩ : ∃ n, n = xs.length + 1 := ⟨_, rfl⟩
  rw [← hnn]
  refine called_of_run tbOk 6 ⟨Tryz.func76, rfl, rfl, Nat.le_of_ble_eq_true rfl⟩ ?_
  (conv => whnf)
  refine V.st ?_
  have hn0 : (0 : Int) < (n : Int) := by omega
  refine ⟨(.take 0 (.take 1 (.take 2 (.take 3 (.take 4 (.take 5 (.ev (.cons 6 [5, 4, 3, 2, 1, 0] (.ev (.cons 7 [5, 4, 3, 2, 1, 0] (.ev (.cons 8 [5, 4, 3] (.ev (.cons 9 [] (.done) (.nil))) (.nil))) (.nil))) (.cons 7 [5, 4, 3, 2, 1, 0] (.ev (.cons 6 [5, 4, 3, 2, 1, 0] (.ev (.cons 8 [5, 4, 3] (.ev (.cons 9 [] (.done) (.nil))) (.nil))) (.nil))) (.nil)))))))))), ⟨by kernel_rfl, by kernel_rfl, by kernel_rfl⟩, ?_⟩
  refine drw_meet [(4, .box 4 0), (5, .box 5 0)] [(4, .box [.bool (decide (x.num < 0)), .ints .i64 (mg 10000 x.num.natAbs), .bool false, .ints .i64 (mg 10000 x.den)]), (5, .box [.bool (decide (x.num < 0)), .ints .i64 (mg 10000 x.num.natAbs), .bool false, .ints .i64 (mg 10000 x.den)])] ?_ ?_
  · have hf1 : f (Int.toNat 0) = [.bool (decide (x.num < 0)), .ints .i64 (mg 10000 x.num.natAbs), .bool false, .ints .i64 (mg 10000 x.den)] := hf0
    (conv => whnf); (try simp only [Nat.zero_add, hf1])
    repeat' (first | exact V.wk | (refine V.s1 ?_; (try simp only [Nat.zero_add, hf1])) | ((with_reducible refine recheck_and ?_ ?_); (focus ((conv => whnf); (try simp only [Nat.zero_add, hf1]); (repeat (refine V.s1 ?_; (try simp only [Nat.zero_add, hf1]))); exact ⟨rfl⟩)); (conv => whnf); (try simp only [Nat.zero_add, hf1])) | ((try ((with_reducible refine .ext ?_); (conv => whnf); (try simp only [Nat.zero_add, hf1]))); (with_reducible refine call_intro (r := ?_) ?_ ?_); rotate_left; (focus (first | fail)); (conv => whnf); (try simp only [Nat.zero_add, hf1])) | (refine And.intro ?_ ?_ <;> (conv => whnf); (try simp only [Nat.zero_add, hf1])))
    · exact fun _ => ⟨by omega, by omega⟩
    simp only [hf1]
    (conv => whnf)
    refine And.intro (fun _ => ⟨by omega, by omega⟩) ?_
    (conv => whnf); (try simp only [Nat.zero_add, hf1])
    repeat' (first | exact V.wk | (refine V.s1 ?_; (try simp only [Nat.zero_add, hf1])) | ((with_reducible refine recheck_and ?_ ?_); (focus ((conv => whnf); (try simp only [Nat.zero_add, hf1]); (repeat (refine V.s1 ?_; (try simp only [Nat.zero_add, hf1]))); exact ⟨rfl⟩)); (conv => whnf); (try simp only [Nat.zero_add, hf1])) | ((try ((with_reducible refine .ext ?_); (conv => whnf); (try simp only [Nat.zero_add, hf1]))); (with_reducible refine call_intro (r := ?_) ?_ ?_); rotate_left; (focus (first | fail)); (conv => whnf); (try simp only [Nat.zero_add, hf1])) | (refine And.intro ?_ ?_ <;> (conv => whnf); (try simp only [Nat.zero_add, hf1])))
    all_goals first | exact fun _ => ⟨by omega, by omega⟩ | exact ⟨rfl⟩ | skip
  (conv => whnf)
  refine V.st ?_
  refine lp_any (0 : Nat) (fun k => k ≤ xs.length) (fun k => xs.length - k) (fun k => [(6, .int .i64 ((k + 1 : Nat) : Int))]) (fun k => [(4, .box [.bool (decide (((xs.take k).foldl lsr x).num < 0)), .ints .i64 (mg 10000 ((xs.take k).foldl lsr x).num.natAbs), .bool false, .ints .i64 (mg 10000 ((xs.take k).foldl lsr x).den)]), (5, .box [.bool (decide (((xs.take k).foldl gtr x).num < 0)), .ints .i64 (mg 10000 ((xs.take k).foldl gtr x).num.natAbs), .bool false, .ints .i64 (mg 10000 ((xs.take k).foldl gtr x).den)])]) ?_ ?_ ?_
  · exact V.wk
  · exact Nat.zero_le _
  intro k hk
  have hkc : (((k + 1 : Nat) : Int) + 1) = ((k + 1 + 1 : Nat) : Int) := by omega
  have hi : ((k + 1 : Nat) : Int).toNat = k + 1 := by omega
  have hlo : Q4 1000 ((xs.take k).foldl lsr x) := fold_q4 lsr_or hx (fun q hq => hxs q (List.mem_of_mem_take hq))
  have hhi : Q4 1000 ((xs.take k).foldl gtr x) := fold_q4 gtr_or hx (fun q hq => hxs q (List.mem_of_mem_take hq))
  (conv => whnf)
  (try simp only [hkc, hi])
  repeat (first | (refine V.s1 ?_; (try simp only [hkc, hi])) | ((with_reducible refine recheck_and ?_ ?_); (focus ((conv => whnf); (try simp only [hkc, hi]); (repeat (refine V.s1 ?_; (try simp only [hkc, hi]))); exact ⟨rfl⟩)); (conv => whnf); (try simp only [hkc, hi])))
  refine Cnd.split (CondB.mk (fun hq => ?_) (fun hq => ?_))
  · rw [decide_eq_true_eq] at hq
    have hkl : k < xs.length := by omega
    have hl1 := take_foldlR (op := lsr) (x := x) hkl
    have hg1 := take_foldlR (op := gtr) (x := x) hkl
    have hfk := hf k hkl
    have hy : Q4 1000 (xs.getD k 0) := hxs _ (by rw [List.getD_eq_getElem?_getD, List.getElem?_eq_getElem hkl]; exact List.getElem_mem hkl)
    have o1 := order02_c (xs.getD k 0) ((xs.take k).foldl lsr x) (hy.mono (by omega)) (hlo.mono (by omega))
    have o2 := order02_c (xs.getD k 0) ((xs.take k).foldl gtr x) (hy.mono (by omega)) (hhi.mono (by omega))
    generalize xs.getD k 0 = y at *
    generalize (xs.take k).foldl lsr x = lo at *
    generalize (xs.take k).foldl gtr x = hi' at *
    have c1 := ordQ_lt (x := y) (y := lo)
    have c2 := ordQ_gt (x := y) (y := hi')
    (conv => whnf)
    (try simp only [hkc, hi])
    repeat (first | (refine V.s1 ?_; (try simp only [hkc, hi])) | ((with_reducible refine recheck_and ?_ ?_); (focus ((conv => whnf); (try simp only [hkc, hi]); (repeat (refine V.s1 ?_; (try simp only [hkc, hi]))); exact ⟨rfl⟩)); (conv => whnf); (try simp only [hkc, hi])))
    refine ⟨(.take 0 (.take 1 (.take 2 (.take 3 (.take 4 (.ev (.cons 5 [] (.take 6 (.done)) (.nil)))))))), ⟨by kernel_rfl, by kernel_rfl, by kernel_rfl⟩, .go ?_⟩
    (conv => whnf)
    (try simp only [hkc, hi, hfk])
    repeat (first | (refine V.s1 ?_; (try simp only [hkc, hi, hfk])) | ((with_reducible refine recheck_and ?_ ?_); (focus ((conv => whnf); (try simp only [hkc, hi, hfk]); (repeat (refine V.s1 ?_; (try simp only [hkc, hi, hfk]))); exact ⟨rfl⟩)); (conv => whnf); (try simp only [hkc, hi, hfk])))
    (conv => whnf)
    refine And.intro (fun _ => ⟨by omega, by omega⟩) ?_
    (conv => whnf)
    (try simp only [hkc, hi, hfk])
    repeat (first | (refine V.s1 ?_; (try simp only [hkc, hi, hfk])) | ((with_reducible refine recheck_and ?_ ?_); (focus ((conv => whnf); (try simp only [hkc, hi, hfk]); (repeat (refine V.s1 ?_; (try simp only [hkc, hi, hfk]))); exact ⟨rfl⟩)); (conv => whnf); (try simp only [hkc, hi, hfk])) | ((try ((with_reducible refine .ext ?_); (conv => whnf); (try simp only [hkc, hi, hfk]))); (with_reducible refine call_intro (r := ?_) ?_ ?_); rotate_left; (focus (first | exact (o1))); (conv => whnf); (try simp only [hkc, hi, hfk])))
    refine Cnd.split (CondB.mk (fun h1 => ?_) (fun h1 => ?_))
    · rw [decide_eq_true_eq] at h1
      have g1 : lsr lo y = y := by unfold lsr; rw [if_pos (c1.1 h1)]
      rw [g1] at hl1
      (conv => whnf)
      (try simp only [hkc, hi, hfk])
      repeat (first | (refine V.s1 ?_; (try simp only [hkc, hi, hfk])) | ((with_reducible refine recheck_and ?_ ?_); (focus ((conv => whnf); (try simp only [hkc, hi, hfk]); (repeat (refine V.s1 ?_; (try simp only [hkc, hi, hfk]))); exact ⟨rfl⟩)); (conv => whnf); (try simp only [hkc, hi, hfk])))
      (conv => whnf)
      refine And.intro (fun _ => ⟨by omega, by omega⟩) ?_
      (conv => whnf)
      (try simp only [hkc, hi, hfk])
      repeat (first | (refine V.s1 ?_; (try simp only [hkc, hi, hfk])) | ((with_reducible refine recheck_and ?_ ?_); (focus ((conv => whnf); (try simp only [hkc, hi, hfk]); (repeat (refine V.s1 ?_; (try simp only [hkc, hi, hfk]))); exact ⟨rfl⟩)); (conv => whnf); (try simp only [hkc, hi, hfk])))
      refine ⟨(.take 0 (.take 1 (.take 2 (.take 3 (.take 4 (.ev (.cons 5 [] (.take 6 (.done)) (.nil)))))))), ⟨by kernel_rfl, by kernel_rfl, by kernel_rfl⟩, .go ?_⟩
      (conv => whnf)
      (try simp only [hkc, hi, hfk])
      repeat (first | (refine V.s1 ?_; (try simp only [hkc, hi, hfk])) | ((with_reducible refine recheck_and ?_ ?_); (focus ((conv => whnf); (try simp only [hkc, hi, hfk]); (repeat (refine V.s1 ?_; (try simp only [hkc, hi, hfk]))); exact ⟨rfl⟩)); (conv => whnf); (try simp only [hkc, hi, hfk])))
      (conv => whnf)
      refine And.intro (fun _ => ⟨by omega, by omega⟩) ?_
      (conv => whnf)
      (try simp only [hkc, hi, hfk])
      repeat (first | (refine V.s1 ?_; (try simp only [hkc, hi, hfk])) | ((with_reducible refine recheck_and ?_ ?_); (focus ((conv => whnf); (try simp only [hkc, hi, hfk]); (repeat (refine V.s1 ?_; (try simp only [hkc, hi, hfk]))); exact ⟨rfl⟩)); (conv => whnf); (try simp only [hkc, hi, hfk])) | ((try ((with_reducible refine .ext ?_); (conv => whnf); (try simp only [hkc, hi, hfk]))); (with_reducible refine call_intro (r := ?_) ?_ ?_); rotate_left; (focus (first | exact (o2))); (conv => whnf); (try simp only [hkc, hi, hfk])))
      refine Cnd.split (CondB.mk (fun h2 => ?_) (fun h2 => ?_))
      · rw [decide_eq_true_eq] at h2
        have g2 : gtr hi' y = y := by unfold gtr; rw [if_pos (c2.1 h2)]
        rw [g2] at hg1
        (conv => whnf)
        (try simp only [hkc, hi, hfk])
        repeat (first | (refine V.s1 ?_; (try simp only [hkc, hi, hfk])) | ((with_reducible refine recheck_and ?_ ?_); (focus ((conv => whnf); (try simp only [hkc, hi, hfk]); (repeat (refine V.s1 ?_; (try simp only [hkc, hi, hfk]))); exact ⟨rfl⟩)); (conv => whnf); (try simp only [hkc, hi, hfk])))
        (conv => whnf)
        refine And.intro (fun _ => ⟨by omega, by omega⟩) ?_
        (conv => whnf)
        (try simp only [hkc, hi, hfk])
        repeat (first | (refine V.s1 ?_; (try simp only [hkc, hi, hfk])) | ((with_reducible refine recheck_and ?_ ?_); (focus ((conv => whnf); (try simp only [hkc, hi, hfk]); (repeat (refine V.s1 ?_; (try simp only [hkc, hi, hfk]))); exact ⟨rfl⟩)); (conv => whnf); (try simp only [hkc, hi, hfk])))
        refine ⟨k + 1, by omega, by omega, ?_⟩
        rw [hl1, hg1]
        exact V.wk
      · rw [decide_eq_false_iff_not] at h2
        have g2 : gtr hi' y = hi' := by unfold gtr; rw [if_neg (fun h => h2 (c2.2 h))]
        rw [g2] at hg1
        (conv => whnf)
        (try simp only [hkc, hi, hfk])
        repeat (first | (refine V.s1 ?_; (try simp only [hkc, hi, hfk])) | ((with_reducible refine recheck_and ?_ ?_); (focus ((conv => whnf); (try simp only [hkc, hi, hfk]); (repeat (refine V.s1 ?_; (try simp only [hkc, hi, hfk]))); exact ⟨rfl⟩)); (conv => whnf); (try simp only [hkc, hi, hfk])))
        refine ⟨k + 1, by omega, by omega, ?_⟩
        rw [hl1, hg1]
        exact V.wk
    · rw [decide_eq_false_iff_not] at h1
      have g1 : lsr lo y = lo := by unfold lsr; rw [if_neg (fun h => h1 (c1.2 h))]
      rw [g1] at hl1
      (conv => whnf)
      (try simp only [hkc, hi, hfk])
      repeat (first | (refine V.s1 ?_; (try simp only [hkc, hi, hfk])) | ((with_reducible refine recheck_and ?_ ?_); (focus ((conv => whnf); (try simp only [hkc, hi, hfk]); (repeat (refine V.s1 ?_; (try simp only [hkc, hi, hfk]))); exact ⟨rfl⟩)); (conv => whnf); (try simp only [hkc, hi, hfk])))
      refine ⟨(.take 0 (.take 1 (.take 2 (.take 3 (.take 4 (.ev (.cons 5 [] (.take 6 (.done)) (.nil)))))))), ⟨by kernel_rfl, by kernel_rfl, by kernel_rfl⟩, .go ?_⟩
      (conv => whnf)
      (try simp only [hkc, hi, hfk])
      repeat (first | (refine V.s1 ?_; (try simp only [hkc, hi, hfk])) | ((with_reducible refine recheck_and ?_ ?_); (focus ((conv => whnf); (try simp only [hkc, hi, hfk]); (repeat (refine V.s1 ?_; (try simp only [hkc, hi, hfk]))); exact ⟨rfl⟩)); (conv => whnf); (try simp only [hkc, hi, hfk])))
      (conv => whnf)
      refine And.intro (fun _ => ⟨by omega, by omega⟩) ?_
      (conv => whnf)
      (try simp only [hkc, hi, hfk])
      repeat (first | (refine V.s1 ?_; (try simp only [hkc, hi, hfk])) | ((with_reducible refine recheck_and ?_ ?_); (focus ((conv => whnf); (try simp only [hkc, hi, hfk]); (repeat (refine V.s1 ?_; (try simp only [hkc, hi, hfk]))); exact ⟨rfl⟩)); (conv => whnf); (try simp only [hkc, hi, hfk])) | ((try ((with_reducible refine .ext ?_); (conv => whnf); (try simp only [hkc, hi, hfk]))); (with_reducible refine call_intro (r := ?_) ?_ ?_); rotate_left; (focus (first | exact (o2))); (conv => whnf); (try simp only [hkc, hi, hfk])))
      refine Cnd.split (CondB.mk (fun h2 => ?_) (fun h2 => ?_))
      · rw [decide_eq_true_eq] at h2
        have g2 : gtr hi' y = y := by unfold gtr; rw [if_pos (c2.1 h2)]
        rw [g2] at hg1
        (conv => whnf)
        (try simp only [hkc, hi, hfk])
        repeat (first | (refine V.s1 ?_; (try simp only [hkc, hi, hfk])) | ((with_reducible refine recheck_and ?_ ?_); (focus ((conv => whnf); (try simp only [hkc, hi, hfk]); (repeat (refine V.s1 ?_; (try simp only [hkc, hi, hfk]))); exact ⟨rfl⟩)); (conv => whnf); (try simp only [hkc, hi, hfk])))
        (conv => whnf)
        refine And.intro (fun _ => ⟨by omega, by omega⟩) ?_
        (conv => whnf)
        (try simp only [hkc, hi, hfk])
        repeat (first | (refine V.s1 ?_; (try simp only [hkc, hi, hfk])) | ((with_reducible refine recheck_and ?_ ?_); (focus ((conv => whnf); (try simp only [hkc, hi, hfk]); (repeat (refine V.s1 ?_; (try simp only [hkc, hi, hfk]))); exact ⟨rfl⟩)); (conv => whnf); (try simp only [hkc, hi, hfk])))
        refine ⟨k + 1, by omega, by omega, ?_⟩
        rw [hl1, hg1]
        exact V.wk
      · rw [decide_eq_false_iff_not] at h2
        have g2 : gtr hi' y = hi' := by unfold gtr; rw [if_neg (fun h => h2 (c2.2 h))]
        rw [g2] at hg1
        (conv => whnf)
        (try simp only [hkc, hi, hfk])
        repeat (first | (refine V.s1 ?_; (try simp only [hkc, hi, hfk])) | ((with_reducible refine recheck_and ?_ ?_); (focus ((conv => whnf); (try simp only [hkc, hi, hfk]); (repeat (refine V.s1 ?_; (try simp only [hkc, hi, hfk]))); exact ⟨rfl⟩)); (conv => whnf); (try simp only [hkc, hi, hfk])))
        refine ⟨k + 1, by omega, by omega, ?_⟩
        rw [hl1, hg1]
        exact V.wk
  · rw [decide_eq_false_iff_not] at hq
    have hk2 : k = xs.length := by omega
    rw [hk2, List.take_length]
    (conv => whnf)
    refine V.st ?_
    repeat ((try ((with_reducible refine .ext ?_); (conv => whnf))); (with_reducible refine call_intro (r := ?_) ?_ ?_); rotate_left; (focus (first | exact (ht))); (conv => whnf); refine V.st ?_)
    exact Fin.of rfl
end Go.Proofs.YtplflfnfodghmaaGreatDoor
end
section
namespace Go.Proofs.YtplflfnfodghmaaGreatDoor
open Go Go.V Go.Nb
theorem fl_floor (q : Rat) : fl q = q.floor := by unfold fl; rw [Rat.floor_def]
theorem fl_mono {x y : Rat} (h : x ≤ y) : fl x ≤ fl y := by rw [fl_floor, fl_floor]; exact Rat.floor_monotone h
theorem fl_divInt (n d : Int) (hd : 0 < d) : fl (Rat.divInt n d) = n / d := by
  unfold fl
  rw [Rat.num_divInt, Rat.den_divInt, if_neg (by omega), Int.sign_eq_one_of_pos hd, Int.one_mul]
  have hg : 0 < d.gcd n := Int.gcd_pos_of_ne_zero_left _ (by omega)
  obtain ⟨a, ha⟩ := Int.gcd_dvd_right d n
  obtain ⟨b, hb⟩ := Int.gcd_dvd_left d n
  generalize d.gcd n = g at *
  have e1 : n / (g : Int) = a := by rw [ha, Int.mul_ediv_cancel_left _ (by omega)]
  have e2 : ((d.natAbs / g : Nat) : Int) = b := by
    rw [Int.natCast_ediv, show (d.natAbs : Int) = d by omega, hb, Int.mul_ediv_cancel_left _ (by omega)]
  rw [e1, e2, ha, hb, Int.mul_ediv_mul_of_pos _ _ (by omega)]
theorem flo_scale {z d k : Int} (hk : 0 < k) : flo (z * k) (d * k) = flo z d := by
  unfold flo
  by_cases hd : 0 < d
  · rw [if_pos (Int.mul_pos hd hk), if_pos hd, Int.mul_ediv_mul_of_pos_left _ _ hk]
  · have : ¬ 0 < d * k := fun h => hd (by
      rcases Int.lt_or_le 0 d with h2 | h2
      · exact h2
      · have := Int.mul_nonpos_of_nonpos_of_nonneg h2 (Int.le_of_lt hk); omega)
    rw [if_neg this, if_neg hd, ← Int.neg_mul, ← Int.neg_mul, Int.mul_ediv_mul_of_pos_left _ _ hk]
theorem cei_scale {z d k : Int} (hk : 0 < k) : cei (z * k) (d * k) = cei z d := by
  unfold cei; rw [← Int.neg_mul, flo_scale hk]
theorem fl_any (n d : Int) (hd : d ≠ 0) : fl (Rat.divInt n d) = flo n d := by
  unfold flo
  by_cases h : 0 < d
  · rw [if_pos h, fl_divInt n d h]
  · rw [if_neg h, ← Rat.neg_divInt_neg, fl_divInt _ _ (by omega)]
def loE (x : Rat) : Int := fl (x * oneE)
def hiE (x : Rat) : Int := 0 - fl (-(x * oneE))
theorem tightR_eq (x y : Rat) : tightR x y = mk (loE x) (hiE y) := rfl
theorem mul_oneE (n d : Int) : Rat.divInt n d * oneE = Rat.divInt (n * 1000000000000) d := by
  unfold oneE; rw [Rat.divInt_mul_divInt, Int.mul_one]
theorem loE_divInt (n d : Int) (hd : d ≠ 0) : loE (Rat.divInt n d) = flo (n * 1000000000000) d := by
  unfold loE; rw [mul_oneE, fl_any _ _ hd]
theorem hiE_divInt (n d : Int) (hd : d ≠ 0) : hiE (Rat.divInt n d) = cei (n * 1000000000000) d := by
  unfold hiE cei; rw [mul_oneE, Rat.neg_divInt, fl_any _ _ hd]; omega
theorem oneE_pos : (0 : Rat) ≤ oneE := by decide +kernel
theorem loE_mono {x y : Rat} (h : x ≤ y) : loE x ≤ loE y := fl_mono (Rat.mul_le_mul_of_nonneg_right h oneE_pos)
theorem hiE_mono {x y : Rat} (h : x ≤ y) : hiE x ≤ hiE y := by
  have := fl_mono (Rat.neg_le_neg (Rat.mul_le_mul_of_nonneg_right h oneE_pos))
  unfold hiE; omega
theorem loE_lsr (a b : Rat) : loE (lsr a b) = min (loE a) (loE b) := by
  unfold lsr
  by_cases h : b < a
  · rw [if_pos h]; have := loE_mono (Rat.le_of_lt h); omega
  · rw [if_neg h]; have := loE_mono (Rat.not_lt.1 h); omega
theorem hiE_gtr (a b : Rat) : hiE (gtr a b) = max (hiE a) (hiE b) := by
  unfold gtr
  by_cases h : a < b
  · rw [if_pos h]; have := hiE_mono (Rat.le_of_lt h); omega
  · rw [if_neg h]; have := hiE_mono (Rat.not_lt.1 h); omega
theorem tight4 (a b c d : Rat) : tightR ([b, c, d].foldl lsr a) ([b, c, d].foldl gtr a) = mk (mn4 (loE a) (loE b) (loE c) (loE d)) (mx4 (hiE a) (hiE b) (hiE c) (hiE d)) := by
  rw [tightR_eq]
  simp only [List.foldl_cons, List.foldl_nil, loE_lsr, hiE_gtr]
  rfl
theorem unit_mul (p q : Int) : unit p * unit q = Rat.divInt (p * q) (1000000000000 * 1000000000000) := by
  unfold unit; rw [Rat.divInt_mul_divInt]
theorem unit_add (p q : Int) : unit p + unit q = unit (p + q) := by
  unfold unit
  rw [Rat.divInt_add_divInt _ _ (by decide) (by decide), ← Int.add_mul, Rat.divInt_mul_right (by decide)]
theorem unit_sub (p q : Int) : unit p - unit q = unit (p - q) := by
  unfold unit
  rw [Rat.divInt_sub_divInt _ _ (by decide) (by decide), ← Int.sub_mul, Rat.divInt_mul_right (by decide)]
theorem unit_div (p q : Int) : unit p / unit q = Rat.divInt p q := by
  unfold unit
  rw [Rat.div_def, Rat.inv_divInt, Rat.divInt_mul_divInt, Int.mul_comm 1000000000000 q, Rat.divInt_mul_right (by decide)]
theorem loE_unit (p : Int) : loE (unit p) = p := by
  unfold unit; rw [loE_divInt _ _ (by decide), flo_self (by decide)]
theorem hiE_unit (p : Int) : hiE (unit p) = p := by
  unfold unit; rw [hiE_divInt _ _ (by decide), cei_self (by decide)]
theorem loE_mul (p q : Int) : loE (unit p * unit q) = flo (p * q) 1000000000000 := by
  rw [unit_mul, loE_divInt _ _ (by decide), flo_scale (by decide)]
theorem hiE_mul (p q : Int) : hiE (unit p * unit q) = cei (p * q) 1000000000000 := by
  rw [unit_mul, hiE_divInt _ _ (by decide), cei_scale (by decide)]
theorem loE_div (p q : Int) (h : q ≠ 0) : loE (unit p / unit q) = flo (p * 1000000000000) q := by rw [unit_div, loE_divInt _ _ h]
theorem hiE_div (p q : Int) (h : q ≠ 0) : hiE (unit p / unit q) = cei (p * 1000000000000) q := by rw [unit_div, hiE_divInt _ _ h]
theorem unit_q4 (p : Int) (h : -9223372036854775808 ≤ p ∧ p ≤ 9223372036854775807) : Q4 5 (unit p) := by
  unfold unit
  exact Q4.of (Sm.lit (by omega)) (Sm.lit (by decide)) (by decide)
theorem divInt_q4 (p q : Int) (h : -9223372036854775808 ≤ p ∧ p ≤ 9223372036854775807) (g : -9223372036854775808 ≤ q ∧ q ≤ 9223372036854775807) (h0 : q ≠ 0) : Q4 5 (Rat.divInt p q) := Q4.of (Sm.lit (by omega)) (Sm.lit (by omega)) h0
end Go.Proofs.YtplflfnfodghmaaGreatDoor
end
section
namespace Go.Proofs.YtplflfnfodghmaaGreatDoor
open Go Go.V Go.Nb
theorem tight2 (a b : Rat) : tightR ([b].foldl lsr a) ([b].foldl gtr a) = mk (min (loE a) (loE b)) (max (hiE a) (hiE b)) := by
  rw [tightR_eq]
  simp only [List.foldl_cons, List.foldl_nil, loE_lsr, hiE_gtr]
theorem tight3 (a b c : Rat) : tightR ([b, c].foldl lsr a) ([b, c].foldl gtr a) = mk (min (min (loE a) (loE b)) (loE c)) (max (max (hiE a) (hiE b)) (hiE c)) := by
  rw [tightR_eq]
  simp only [List.foldl_cons, List.foldl_nil, loE_lsr, hiE_gtr]
theorem flo_nn {z : Int} (h : 0 ≤ z) : 0 ≤ flo z 1000000000000 := by
  unfold flo; rw [if_pos (by decide)]; exact Int.ediv_nonneg h (by decide)
theorem cei_nn {z : Int} (h : 0 ≤ z) : 0 ≤ cei z 1000000000000 := by
  have := flo_nn h
  have := flo_le_cei z 1000000000000 (by decide)
  omega
theorem sq_mono {x y : Int} (h : 0 ≤ x) (hxy : x ≤ y) : x * x ≤ y * y := Int.mul_le_mul hxy hxy h (by omega)
theorem sq_neg (x : Int) : (0 - x) * (0 - x) = x * x := by rw [Int.zero_sub, Int.neg_mul_neg]
theorem sqr_far {p q : Int} (hpq : p ≤ q) (h : 0 ≤ p ∨ q ≤ 0) : sqrR p q = mk (min (flo (p * p) 1000000000000) (flo (q * q) 1000000000000)) (max (cei (p * p) 1000000000000) (cei (q * q) 1000000000000)) := by
  unfold sqrR
  rcases h with h | h
  · rw [show max (max p (0 - q)) 0 = p by omega, show max (0 - p) q = q by omega]
    have h1 := sq_mono h hpq
    have h2 := flo_mono (d := 1000000000000) (by decide) h1
    have h3 := cei_mono (d := 1000000000000) (by decide) h1
    congr 1 <;> omega
  · rw [show max (max p (0 - q)) 0 = 0 - q by omega, show max (0 - p) q = 0 - p by omega, sq_neg, sq_neg]
    have h1 := sq_mono (x := 0 - q) (y := 0 - p) (by omega) (by omega)
    rw [sq_neg, sq_neg] at h1
    have h2 := flo_mono (d := 1000000000000) (by decide) h1
    have h3 := cei_mono (d := 1000000000000) (by decide) h1
    congr 1 <;> omega
theorem sqr_near {p q : Int} (h1 : p < 0) (h2 : 0 < q) : sqrR p q = mk (min (min (flo (p * p) 1000000000000) (flo (q * q) 1000000000000)) 0) (max (max (cei (p * p) 1000000000000) (cei (q * q) 1000000000000)) 0) := by
  unfold sqrR
  have p0 : 0 ≤ p * p := by have := sq_mono (x := 0) (y := 0 - p) (by omega) (by omega); rw [sq_neg] at this; omega
  have q0 : 0 ≤ q * q := Int.mul_nonneg (by omega) (by omega)
  have f1 := flo_nn p0
  have f2 := flo_nn q0
  have c1 := cei_nn p0
  have c2 := cei_nn q0
  rw [show max (max p (0 - q)) 0 = 0 by omega, show flo (0 * 0) 1000000000000 = 0 from rfl]
  rcases Int.le_total (0 - p) q with h | h
  · rw [show max (0 - p) q = q by omega]
    have h3 := sq_mono (x := 0 - p) (y := q) (by omega) h
    rw [sq_neg] at h3
    have h4 := cei_mono (d := 1000000000000) (by decide) h3
    congr 1 <;> omega
  · rw [show max (0 - p) q = 0 - p by omega]
    have h3 := sq_mono (x := q) (y := 0 - p) (by omega) h
    rw [sq_neg] at h3 ⊢
    have h4 := cei_mono (d := 1000000000000) (by decide) h3
    congr 1 <;> omega
theorem scl_two (p q n d : Int) : sclR p q n d = mk (min (flo (p * n) d) (flo (q * n) d)) (max (cei (p * n) d) (cei (q * n) d)) := by
  unfold sclR mn4 mx4
  congr 1 <;> omega
theorem unit_scl (p n d : Int) : unit p * Rat.divInt n d = Rat.divInt (p * n) (1000000000000 * d) := by
  unfold unit; rw [Rat.divInt_mul_divInt]
theorem loE_scl (p n d : Int) (hd : d ≠ 0) : loE (unit p * Rat.divInt n d) = flo (p * n) d := by
  rw [unit_scl, loE_divInt _ _ (Int.mul_ne_zero (by decide) hd), Int.mul_comm 1000000000000 d, flo_scale (by decide)]
theorem hiE_scl (p n d : Int) (hd : d ≠ 0) : hiE (unit p * Rat.divInt n d) = cei (p * n) d := by
  rw [unit_scl, hiE_divInt _ _ (Int.mul_ne_zero (by decide) hd), Int.mul_comm 1000000000000 d, cei_scale (by decide)]
theorem loE_zero : loE (Rat.divInt 0 1) = 0 := by decide +kernel
theorem hiE_zero : hiE (Rat.divInt 0 1) = 0 := by decide +kernel
end Go.Proofs.YtplflfnfodghmaaGreatDoor
end
section
namespace Go.Proofs.YtplflfnfodghmaaGreatDoor
open Go Go.V Go.Nb
def fD (r : List UInt8 × List UInt8 × Int) : D := .tup [.agg [.str r.1, .str r.2.1], .int .i64 r.2.2]
def unF (n : Int) : List UInt8 × List UInt8 × Int := (decZ (unit n).num, dec (unit n).den, 0)
theorem end_c (n : Int) (h : -9223372036854775808 ≤ n ∧ n ≤ 9223372036854775807) : Called Tryz.prog 84 [.int .i64 n] (fD (unF n)) := by
  have h1 : Called Tryz.prog 49 [.int .i64 n, .int .i64 1000000000000] (fD (unF n)) := of_unit n h
  generalize unF n = r at *
  unfold fD at *
  refine called_of_run tbOk 6 ⟨Tryz.func84, rfl, rfl, Nat.le_of_ble_eq_true rfl⟩ ?_
  (conv => whnf)
  refine V.st ?_
  repeat ((try ((with_reducible refine .ext ?_); (conv => whnf))); (with_reducible refine call_intro (r := ?_) ?_ ?_); rotate_left; (focus (first | exact (h1))); (conv => whnf); refine V.st ?_)
  exact Fin.of rfl
theorem out_unit (n : Int) (h : -9223372036854775808 ≤ n ∧ n ≤ 9223372036854775807) : Called Tryz.prog 85 [raD (unit n)] (fD (unF n)) := by
  have q1 := unit_q4 n h
  have h1 := out02_c (unit n) (q1.1.mono (by omega)) (q1.2.mono (by omega))
  have h2 : okF (unit n) = true := okF_unit n h
  unfold frR at h1
  rw [h2] at h1
  exact h1
theorem low_b (p q : Int) : Called Tryz.prog 20 [bA p q] (fD (if vb p q = true then unF p else ([], [], 30))) := by
  by_cases hv : vb p q = true
  · rw [if_pos hv]
    have hb := vb_iff.1 hv
    have e1 := end_c p (by omega)
    generalize unF p = r at *
    unfold fD at *
    have hc : Called Tryz.prog 83 [.ref [.int .i64 p, .int .i64 q]] (.tup [.agg [.str r.1, .str r.2.1], .int .i64 r.2.2]) := by
      refine called_of_run tbOk 6 ⟨Tryz.func83, rfl, rfl, Nat.le_of_ble_eq_true rfl⟩ ?_
      (conv => whnf)
      refine V.st ?_
      repeat ((try ((with_reducible refine .ext ?_); (conv => whnf))); (with_reducible refine call_intro (r := ?_) ?_ ?_); rotate_left; (focus (first | exact (e1))); (conv => whnf); refine V.st ?_)
      exact Fin.of rfl
    have hk := ckf1_ok 83 p q r.1 r.2.1 r.2.2 1 (l1 p q) (fun _ => p) (fun _ => q) (l1_c p q) (by omega) (fun _ _ => hv) hc
    refine called_of_run tbOk 6 ⟨Tryz.func20, rfl, rfl, Nat.le_of_ble_eq_true rfl⟩ ?_
    (conv => whnf)
    refine V.st ?_
    repeat ((try ((with_reducible refine .ext ?_); (conv => whnf))); (with_reducible refine call_intro (r := ?_) ?_ ?_); rotate_left; (focus (first | exact (hk))); (conv => whnf); refine V.st ?_)
    exact Fin.of rfl
  · rw [if_neg hv]
    have hk := ckf1_no 83 p q [] [] 0 1 (l1 p q) (fun _ => p) (fun _ => q) (l1_c p q) (by omega) (one_no hv)
    unfold fD
    refine called_of_run tbOk 6 ⟨Tryz.func20, rfl, rfl, Nat.le_of_ble_eq_true rfl⟩ ?_
    (conv => whnf)
    refine V.st ?_
    repeat ((try ((with_reducible refine .ext ?_); (conv => whnf))); (with_reducible refine call_intro (r := ?_) ?_ ?_); rotate_left; (focus (first | exact (hk))); (conv => whnf); refine V.st ?_)
    exact Fin.of rfl
theorem low_r (p q : Int) : Called Tryz.prog 21 [bA p q] (fD (if vb p q = true then unF p else ([], [], 30))) := by
  have r1 := right03_c p q
  by_cases hv : vb p q = true
  · rw [if_pos hv]
    rw [hv] at r1
    have hb := vb_iff.1 hv
    have v1 := value_c p (by simp only [InR, V.lo, V.hi]; omega)
    rw [show ∀ z, Rat.divInt z 1000000000000 = unit z from fun _ => rfl] at v1
    have o1 := out_unit p (by omega)
    generalize unF p = r at *
    unfold fD at *
    refine called_of_run tbOk 6 ⟨Tryz.func21, rfl, rfl, Nat.le_of_ble_eq_true rfl⟩ ?_
    (conv => whnf)
    refine V.st ?_
    repeat ((try ((with_reducible refine .ext ?_); (conv => whnf))); (with_reducible refine call_intro (r := ?_) ?_ ?_); rotate_left; (focus (first | exact (r1) | exact (v1) | exact (o1))); (conv => whnf); refine V.st ?_)
    exact Fin.of rfl
  · rw [if_neg hv]
    rw [Bool.eq_false_iff.2 hv] at r1
    unfold fD
    refine called_of_run tbOk 6 ⟨Tryz.func21, rfl, rfl, Nat.le_of_ble_eq_true rfl⟩ ?_
    (conv => whnf)
    refine V.st ?_
    repeat ((try ((with_reducible refine .ext ?_); (conv => whnf))); (with_reducible refine call_intro (r := ?_) ?_ ?_); rotate_left; (focus (first | exact (r1))); (conv => whnf); refine V.st ?_)
    exact Fin.of rfl
theorem high_b (p q : Int) : Called Tryz.prog 22 [bA p q] (fD (if vb p q = true then unF q else ([], [], 30))) := by
  by_cases hv : vb p q = true
  · rw [if_pos hv]
    have hb := vb_iff.1 hv
    have e1 := end_c q (by omega)
    generalize unF q = r at *
    unfold fD at *
    have hc : Called Tryz.prog 86 [.ref [.int .i64 p, .int .i64 q]] (.tup [.agg [.str r.1, .str r.2.1], .int .i64 r.2.2]) := by
      refine called_of_run tbOk 6 ⟨Tryz.func86, rfl, rfl, Nat.le_of_ble_eq_true rfl⟩ ?_
      (conv => whnf)
      refine V.st ?_
      repeat ((try ((with_reducible refine .ext ?_); (conv => whnf))); (with_reducible refine call_intro (r := ?_) ?_ ?_); rotate_left; (focus (first | exact (e1))); (conv => whnf); refine V.st ?_)
      exact Fin.of rfl
    have hk := ckf1_ok 86 p q r.1 r.2.1 r.2.2 1 (l1 p q) (fun _ => p) (fun _ => q) (l1_c p q) (by omega) (fun _ _ => hv) hc
    refine called_of_run tbOk 6 ⟨Tryz.func22, rfl, rfl, Nat.le_of_ble_eq_true rfl⟩ ?_
    (conv => whnf)
    refine V.st ?_
    repeat ((try ((with_reducible refine .ext ?_); (conv => whnf))); (with_reducible refine call_intro (r := ?_) ?_ ?_); rotate_left; (focus (first | exact (hk))); (conv => whnf); refine V.st ?_)
    exact Fin.of rfl
  · rw [if_neg hv]
    have hk := ckf1_no 86 p q [] [] 0 1 (l1 p q) (fun _ => p) (fun _ => q) (l1_c p q) (by omega) (one_no hv)
    unfold fD
    refine called_of_run tbOk 6 ⟨Tryz.func22, rfl, rfl, Nat.le_of_ble_eq_true rfl⟩ ?_
    (conv => whnf)
    refine V.st ?_
    repeat ((try ((with_reducible refine .ext ?_); (conv => whnf))); (with_reducible refine call_intro (r := ?_) ?_ ?_); rotate_left; (focus (first | exact (hk))); (conv => whnf); refine V.st ?_)
    exact Fin.of rfl
theorem high_r (p q : Int) : Called Tryz.prog 23 [bA p q] (fD (if vb p q = true then unF q else ([], [], 30))) := by
  have r1 := right03_c p q
  by_cases hv : vb p q = true
  · rw [if_pos hv]
    rw [hv] at r1
    have hb := vb_iff.1 hv
    have v1 := value_c q (by simp only [InR, V.lo, V.hi]; omega)
    rw [show ∀ z, Rat.divInt z 1000000000000 = unit z from fun _ => rfl] at v1
    have o1 := out_unit q (by omega)
    generalize unF q = r at *
    unfold fD at *
    refine called_of_run tbOk 6 ⟨Tryz.func23, rfl, rfl, Nat.le_of_ble_eq_true rfl⟩ ?_
    (conv => whnf)
    refine V.st ?_
    repeat ((try ((with_reducible refine .ext ?_); (conv => whnf))); (with_reducible refine call_intro (r := ?_) ?_ ?_); rotate_left; (focus (first | exact (r1) | exact (v1) | exact (o1))); (conv => whnf); refine V.st ?_)
    exact Fin.of rfl
  · rw [if_neg hv]
    rw [Bool.eq_false_iff.2 hv] at r1
    unfold fD
    refine called_of_run tbOk 6 ⟨Tryz.func23, rfl, rfl, Nat.le_of_ble_eq_true rfl⟩ ?_
    (conv => whnf)
    refine V.st ?_
    repeat ((try ((with_reducible refine .ext ?_); (conv => whnf))); (with_reducible refine call_intro (r := ?_) ?_ ?_); rotate_left; (focus (first | exact (r1))); (conv => whnf); refine V.st ?_)
    exact Fin.of rfl
theorem mid_r (p q : Int) : Called Tryz.prog 25 [bA p q] (iD (if vb p q = true then ((p + q) / 2, 0) else (0, 30))) := by
  have r1 := right03_c p q
  by_cases hv : vb p q = true
  · rw [if_pos hv]
    rw [hv] at r1
    have hb := vb_iff.1 hv
    have k1 := quick_c (p + q) 2 (by simp only [InR, V.lo, V.hi]; omega) (by constructor <;> decide) (by decide)
    have q1 : Q4 5 (Rat.divInt (p + q) 2) := divInt_q4 (p + q) 2 (by omega) (by omega) (by omega)
    have d1 := down_c _ (q1.mono (by omega))
    have e : (Rat.divInt (p + q) 2).num / ((Rat.divInt (p + q) 2).den : Int) = (p + q) / 2 := fl_divInt (p + q) 2 (by decide)
    rw [e] at d1
    have i1 := integral_c ((p + q) / 2) ((Sm.lit (by omega) : Sm 5 ((p + q) / 2)).mono (by omega))
    rw [if_pos (by omega), if_pos (by omega)] at i1
    clear e q1
    generalize Rat.divInt (p + q) 2 = x at *
    generalize (p + q) / 2 = z at *
    unfold iD
    refine called_of_run tbOk 6 ⟨Tryz.func25, rfl, rfl, Nat.le_of_ble_eq_true rfl⟩ ?_
    (conv => whnf)
    refine V.st ?_
    repeat ((try ((with_reducible refine .ext ?_); (conv => whnf))); (with_reducible refine call_intro (r := ?_) ?_ ?_); rotate_left; (focus (first | exact (r1) | exact (k1) | exact (d1) | exact (i1))); (conv => whnf); refine V.st ?_)
    exact Fin.of rfl
  · rw [if_neg hv]
    rw [Bool.eq_false_iff.2 hv] at r1
    unfold iD
    refine called_of_run tbOk 6 ⟨Tryz.func25, rfl, rfl, Nat.le_of_ble_eq_true rfl⟩ ?_
    (conv => whnf)
    refine V.st ?_
    repeat ((try ((with_reducible refine .ext ?_); (conv => whnf))); (with_reducible refine call_intro (r := ?_) ?_ ?_); rotate_left; (focus (first | exact (r1))); (conv => whnf); refine V.st ?_)
    exact Fin.of rfl
theorem width_r (p q : Int) : Called Tryz.prog 27 [bA p q] (iD (if vb p q = true then (q - p, 0) else (0, 30))) := by
  have r1 := right03_c p q
  unfold iD
  by_cases hv : vb p q = true
  · rw [if_pos hv]
    rw [hv] at r1
    have hb := vb_iff.1 hv
    refine called_of_run tbOk 6 ⟨Tryz.func27, rfl, rfl, Nat.le_of_ble_eq_true rfl⟩ ?_
    (conv => whnf)
    refine V.st ?_
    repeat ((try ((with_reducible refine .ext ?_); (conv => whnf))); (with_reducible refine call_intro (r := ?_) ?_ ?_); rotate_left; (focus (first | exact (r1))); (conv => whnf); refine V.st ?_)
    exact Fin.of rfl
  · rw [if_neg hv]
    rw [Bool.eq_false_iff.2 hv] at r1
    refine called_of_run tbOk 6 ⟨Tryz.func27, rfl, rfl, Nat.le_of_ble_eq_true rfl⟩ ?_
    (conv => whnf)
    refine V.st ?_
    repeat ((try ((with_reducible refine .ext ?_); (conv => whnf))); (with_reducible refine call_intro (r := ?_) ?_ ?_); rotate_left; (focus (first | exact (r1))); (conv => whnf); refine V.st ?_)
    exact Fin.of rfl
theorem sign_r (p q : Int) : Called Tryz.prog 29 [bA p q] (iD (if vb p q = true then (sgn p q, 0) else (0, 30))) := by
  have r1 := right03_c p q
  unfold iD
  by_cases hv : vb p q = true
  · rw [if_pos hv]
    rw [hv] at r1
    have hb := vb_iff.1 hv
    unfold sgn
    refine called_of_run tbOk 6 ⟨Tryz.func29, rfl, rfl, Nat.le_of_ble_eq_true rfl⟩ ?_
    (conv => whnf)
    refine V.st ?_
    repeat ((try ((with_reducible refine .ext ?_); (conv => whnf))); (with_reducible refine call_intro (r := ?_) ?_ ?_); rotate_left; (focus (first | exact (r1))); (conv => whnf); refine V.st ?_)
    refine Cnd.split (CondB.mk (fun h1 => ?_) (fun h1 => ?_))
    · rw [decide_eq_true_eq] at h1
      rw [if_pos h1]
      (conv => whnf)
      refine V.st ?_
      exact Fin.of rfl
    · rw [decide_eq_false_iff_not] at h1
      rw [if_neg h1]
      (conv => whnf)
      refine V.st ?_
      refine Cnd.split (CondB.mk (fun h2 => ?_) (fun h2 => ?_))
      · rw [decide_eq_true_eq] at h2
        rw [if_pos h2]
        (conv => whnf)
        refine V.st ?_
        exact Fin.of rfl
      · rw [decide_eq_false_iff_not] at h2
        rw [if_neg h2]
        (conv => whnf)
        refine V.st ?_
        refine Cnd.split (CondB.mk (fun h3 => ?_) (fun h3 => ?_))
        · simp only [Bool.and_true, Bool.and_eq_true, decide_eq_true_eq] at h3
          rw [if_pos h3]
          (conv => whnf)
          refine V.st ?_
          exact Fin.of rfl
        · rw [if_neg (fun h => by simp [h.1, h.2] at h3)]
          (conv => whnf)
          refine V.st ?_
          exact Fin.of rfl
  · rw [if_neg hv]
    rw [Bool.eq_false_iff.2 hv] at r1
    refine called_of_run tbOk 6 ⟨Tryz.func29, rfl, rfl, Nat.le_of_ble_eq_true rfl⟩ ?_
    (conv => whnf)
    refine V.st ?_
    repeat ((try ((with_reducible refine .ext ?_); (conv => whnf))); (with_reducible refine call_intro (r := ?_) ?_ ?_); rotate_left; (focus (first | exact (r1))); (conv => whnf); refine V.st ?_)
    exact Fin.of rfl
theorem cmp_r (p q p2 q2 : Int) : Called Tryz.prog 31 [bA p q, bA p2 q2] (iD (if vb p q = true ∧ vb p2 q2 = true then (cmpB p q p2 q2, 0) else (0, 30))) := by
  have r1 := right03_c p q
  have r2 := right03_c p2 q2
  unfold iD
  by_cases hv : vb p q = true ∧ vb p2 q2 = true
  · rw [if_pos hv]
    rw [hv.1] at r1
    rw [hv.2] at r2
    unfold cmpB
    refine called_of_run tbOk 6 ⟨Tryz.func31, rfl, rfl, Nat.le_of_ble_eq_true rfl⟩ ?_
    (conv => whnf)
    refine V.st ?_
    repeat ((try ((with_reducible refine .ext ?_); (conv => whnf))); (with_reducible refine call_intro (r := ?_) ?_ ?_); rotate_left; (focus (first | exact (r1) | exact (r2))); (conv => whnf); refine V.st ?_)
    refine Cnd.split (CondB.mk (fun h1 => ?_) (fun h1 => ?_))
    · rw [decide_eq_true_eq] at h1
      rw [if_pos h1]
      (conv => whnf)
      refine V.st ?_
      exact Fin.of rfl
    · rw [decide_eq_false_iff_not] at h1
      rw [if_neg h1]
      (conv => whnf)
      refine V.st ?_
      refine Cnd.split (CondB.mk (fun h2 => ?_) (fun h2 => ?_))
      · rw [decide_eq_true_eq] at h2
        rw [if_pos h2]
        (conv => whnf)
        refine V.st ?_
        exact Fin.of rfl
      · rw [decide_eq_false_iff_not] at h2
        rw [if_neg h2]
        (conv => whnf)
        refine V.st ?_
        refine Cnd.split (CondB.mk (fun h3 => ?_) (fun h3 => ?_))
        · simp only [Bool.and_true, Bool.and_eq_true, decide_eq_true_eq] at h3
          rw [if_pos (by omega)]
          (conv => whnf)
          refine V.st ?_
          exact Fin.of rfl
        · rw [if_neg (fun h => by simp only [Bool.and_true, Bool.and_eq_false_iff, decide_eq_false_iff_not] at h3; omega)]
          (conv => whnf)
          refine V.st ?_
          exact Fin.of rfl
  · rw [if_neg hv]
    by_cases h1 : vb p q = true
    · have h2 : vb p2 q2 = false := Bool.eq_false_iff.2 (fun h => hv ⟨h1, h⟩)
      rw [h1] at r1
      rw [h2] at r2
      refine called_of_run tbOk 6 ⟨Tryz.func31, rfl, rfl, Nat.le_of_ble_eq_true rfl⟩ ?_
      (conv => whnf)
      refine V.st ?_
      repeat ((try ((with_reducible refine .ext ?_); (conv => whnf))); (with_reducible refine call_intro (r := ?_) ?_ ?_); rotate_left; (focus (first | exact (r1) | exact (r2))); (conv => whnf); refine V.st ?_)
      exact Fin.of rfl
    · rw [Bool.eq_false_iff.2 h1] at r1
      refine called_of_run tbOk 6 ⟨Tryz.func31, rfl, rfl, Nat.le_of_ble_eq_true rfl⟩ ?_
      (conv => whnf)
      refine V.st ?_
      repeat ((try ((with_reducible refine .ext ?_); (conv => whnf))); (with_reducible refine call_intro (r := ?_) ?_ ?_); rotate_left; (focus (first | exact (r1))); (conv => whnf); refine V.st ?_)
      try refine ⟨.bool false, fun h => by simp at h, ?_⟩
      (conv => whnf)
      refine V.st ?_
      exact Fin.of rfl
end Go.Proofs.YtplflfnfodghmaaGreatDoor
end
section
namespace Go.Proofs.YtplflfnfodghmaaGreatDoor
open Go Go.V Go.Nb
theorem outs_c (n m : Int) (hn : -999999 ≤ n ∧ n ≤ 999999) (hm : 1 ≤ m ∧ m ≤ 999999) : Called Tryz.prog 75 [.int .i64 n, .int .i64 m] (raD (Rat.divInt n m)) ∧ Called Tryz.prog 85 [raD (Rat.divInt n m)] (.tup [frT (Rat.divInt n m), .int .i64 0]) := by
  have q1 : Q4 5 (Rat.divInt n m) := divInt_q4 n m (by omega) (by omega) (by omega)
  have h1 := out02_c (Rat.divInt n m) (q1.1.mono (by omega)) (q1.2.mono (by omega))
  have h2 := out_small n m hn hm
  unfold frR at h1
  rw [h2] at h1
  exact ⟨quick_c n m (by simp only [InR, V.lo, V.hi]; omega) (by simp only [InR, V.lo, V.hi]; omega) (by omega), h1⟩
theorem smZ_b (b : Bool) (xs : List Int) : -999999 ≤ smZ b xs ∧ smZ b xs ≤ 999999 := by
  have := smN_b xs
  unfold smZ
  split <;> omega
theorem dshort_c (b : Bool) (xs : List Int) (z : Int) (b2 : Bool) (xs2 : List Int) (z2 : Int) : ∃ n m : Int, (-999 ≤ n ∧ n ≤ 999) ∧ (1 ≤ m ∧ m ≤ 60) ∧
    Called Tryz.prog 40 [.agg [.bool b, .ints .u16 xs, .int .u16 z, .bool b2, .ints .u16 xs2, .int .u16 z2]] (frT (Rat.divInt n m)) := by
  have h1 := dsmall_c b xs z
  have h2 := dsmall_c b2 xs2 z2
  have e1 := smZ_b b xs
  have e2 := smZ_b b2 xs2
  generalize smZ b xs = s at *
  generalize smZ b2 xs2 = t at *
  have t1 := tmod_bd s (n := 1000) (by omega)
  by_cases ht : t < 0
  · have t2 : 0 ≤ (0 - t) % 60 ∧ (0 - t) % 60 < 60 := by omega
    refine ⟨s.tmod 1000, 1 + (0 - t) % 60, by omega, by omega, ?_⟩
    obtain ⟨k1, k2⟩ := outs_c (s.tmod 1000) (1 + (0 - t) % 60) (by omega) (by omega)
    generalize Rat.divInt (s.tmod 1000) (1 + (0 - t) % 60) = x at *
    unfold frT at *
    refine called_of_run tbOk 6 ⟨Tryz.func40, rfl, rfl, Nat.le_of_ble_eq_true rfl⟩ ?_
    (conv => whnf)
    refine V.st ?_
    repeat ((try ((with_reducible refine .ext ?_); (conv => whnf))); (with_reducible refine call_intro (r := ?_) ?_ ?_); rotate_left; (focus (first | exact (h1) | exact (h2))); (conv => whnf); refine V.st ?_)
    refine Cnd.split (CondB.mk (fun g => ?_) (fun g => ?_))
    · (conv => whnf)
      refine V.st ?_
      repeat ((try ((with_reducible refine .ext ?_); (conv => whnf))); (with_reducible refine call_intro (r := ?_) ?_ ?_); rotate_left; (focus (first | exact (h1) | exact (k1) | exact (k2))); (conv => whnf); refine V.st ?_)
      exact Fin.of rfl
    · simp at g; omega
  · have t2 : 0 ≤ t % 60 ∧ t % 60 < 60 := by omega
    refine ⟨s.tmod 1000, 1 + t % 60, by omega, by omega, ?_⟩
    obtain ⟨k1, k2⟩ := outs_c (s.tmod 1000) (1 + t % 60) (by omega) (by omega)
    generalize Rat.divInt (s.tmod 1000) (1 + t % 60) = x at *
    unfold frT at *
    refine called_of_run tbOk 6 ⟨Tryz.func40, rfl, rfl, Nat.le_of_ble_eq_true rfl⟩ ?_
    (conv => whnf)
    refine V.st ?_
    repeat ((try ((with_reducible refine .ext ?_); (conv => whnf))); (with_reducible refine call_intro (r := ?_) ?_ ?_); rotate_left; (focus (first | exact (h1) | exact (h2))); (conv => whnf); refine V.st ?_)
    refine Cnd.split (CondB.mk (fun g => ?_) (fun g => ?_))
    · simp at g; omega
    · (conv => whnf)
      refine V.st ?_
      repeat ((try ((with_reducible refine .ext ?_); (conv => whnf))); (with_reducible refine call_intro (r := ?_) ?_ ?_); rotate_left; (focus (first | exact (h1) | exact (k1) | exact (k2))); (conv => whnf); refine V.st ?_)
      exact Fin.of rfl
end Go.Proofs.YtplflfnfodghmaaGreatDoor
end
section
namespace Go.Proofs.YtplflfnfodghmaaGreatDoor
open Go Go.V Go.Nb
theorem dunit_c (b : Bool) (xs : List Int) (z : Int) (b2 : Bool) (xs2 : List Int) (z2 : Int) : ∃ n m : Int, (0 ≤ n ∧ n ≤ 65535) ∧ (1 ≤ m ∧ m ≤ 65535) ∧
    Called Tryz.prog 41 [.agg [.bool b, .ints .u16 xs, .int .u16 z, .bool b2, .ints .u16 xs2, .int .u16 z2]] (frT (Rat.divInt n m)) := by
  have h1 := dsmall_c b xs z
  have h2 := dsmall_c b2 xs2 z2
  have e1 := smZ_b b xs
  have e2 := smZ_b b2 xs2
  generalize smZ b xs = s at *
  generalize smZ b2 xs2 = t at *
  by_cases hs : s < 0
  · by_cases ht : t < 0
    · refine ⟨(0 - s) % 65536, 65535, by omega, by omega, ?_⟩
      obtain ⟨k1, k2⟩ := outs_c ((0 - s) % 65536) (65535) (by omega) (by omega)
      generalize Rat.divInt ((0 - s) % 65536) (65535) = x at *
      unfold frT at *
      refine called_of_run tbOk 6 ⟨Tryz.func41, rfl, rfl, Nat.le_of_ble_eq_true rfl⟩ ?_
      (conv => whnf)
      refine V.st ?_
      refine ⟨(.take 0 (.take 1 (.take 3 (.take 4 (.ev (.cons 2 [4, 3] (.ev (.cons 5 [] (.take 6 (.take 7 (.done))) (.nil))) (.nil))))))), ⟨by kernel_rfl, by kernel_rfl, by kernel_rfl⟩, ?_⟩
      refine drw_meet [(3, .int .i64 s), (4, .int .i64 t)] [] ?_ ?_
      · (conv => whnf); (try simp only [Nat.zero_add])
        repeat' (first | exact V.wk | (refine V.s1 ?_; (try simp only [Nat.zero_add])) | ((with_reducible refine recheck_and ?_ ?_); (focus ((conv => whnf); (try simp only [Nat.zero_add]); (repeat (refine V.s1 ?_; (try simp only [Nat.zero_add]))); exact ⟨rfl⟩)); (conv => whnf); (try simp only [Nat.zero_add])) | ((try ((with_reducible refine .ext ?_); (conv => whnf); (try simp only [Nat.zero_add]))); (with_reducible refine call_intro (r := ?_) ?_ ?_); rotate_left; (focus (first | exact (h1) | exact (h2))); (conv => whnf); (try simp only [Nat.zero_add])) | (refine And.intro ?_ ?_ <;> (conv => whnf); (try simp only [Nat.zero_add])))
      (conv => whnf)
      refine V.st ?_
      refine Cnd.split (CondB.mk (fun g => ?_) (fun g => ?_))
      · (conv => whnf)
        refine V.st ?_
        refine Cnd.split (CondB.mk (fun g2 => ?_) (fun g2 => ?_))
        · (conv => whnf)
          refine V.st ?_
          repeat ((try ((with_reducible refine .ext ?_); (conv => whnf))); (with_reducible refine call_intro (r := ?_) ?_ ?_); rotate_left; (focus (first | exact (k1) | exact (k2))); (conv => whnf); refine V.st ?_)
          exact Fin.of rfl
        · simp at g2; omega
      · simp at g; omega
    · have t2 : 0 ≤ t % 60 ∧ t % 60 < 60 := by omega
      have t3 : 0 ≤ (0 - s) % (1 + t % 60 + 1) ∧ (0 - s) % (1 + t % 60 + 1) < 1 + t % 60 + 1 := ⟨Int.emod_nonneg _ (by omega), Int.emod_lt_of_pos _ (by omega)⟩
      refine ⟨(0 - s) % (1 + t % 60 + 1), 1 + t % 60, by omega, by omega, ?_⟩
      obtain ⟨k1, k2⟩ := outs_c ((0 - s) % (1 + t % 60 + 1)) (1 + t % 60) (by omega) (by omega)
      generalize Rat.divInt ((0 - s) % (1 + t % 60 + 1)) (1 + t % 60) = x at *
      unfold frT at *
      refine called_of_run tbOk 6 ⟨Tryz.func41, rfl, rfl, Nat.le_of_ble_eq_true rfl⟩ ?_
      (conv => whnf)
      refine V.st ?_
      refine ⟨(.take 0 (.take 1 (.take 3 (.take 4 (.ev (.cons 2 [4, 3] (.ev (.cons 5 [] (.take 6 (.take 7 (.done))) (.nil))) (.nil))))))), ⟨by kernel_rfl, by kernel_rfl, by kernel_rfl⟩, ?_⟩
      refine drw_meet [(3, .int .i64 s), (4, .int .i64 t)] [] ?_ ?_
      · (conv => whnf); (try simp only [Nat.zero_add])
        repeat' (first | exact V.wk | (refine V.s1 ?_; (try simp only [Nat.zero_add])) | ((with_reducible refine recheck_and ?_ ?_); (focus ((conv => whnf); (try simp only [Nat.zero_add]); (repeat (refine V.s1 ?_; (try simp only [Nat.zero_add]))); exact ⟨rfl⟩)); (conv => whnf); (try simp only [Nat.zero_add])) | ((try ((with_reducible refine .ext ?_); (conv => whnf); (try simp only [Nat.zero_add]))); (with_reducible refine call_intro (r := ?_) ?_ ?_); rotate_left; (focus (first | exact (h1) | exact (h2))); (conv => whnf); (try simp only [Nat.zero_add])) | (refine And.intro ?_ ?_ <;> (conv => whnf); (try simp only [Nat.zero_add])))
      (conv => whnf)
      refine V.st ?_
      refine Cnd.split (CondB.mk (fun g => ?_) (fun g => ?_))
      · (conv => whnf)
        refine V.st ?_
        refine Cnd.split (CondB.mk (fun g2 => ?_) (fun g2 => ?_))
        · simp at g2; omega
        · (conv => whnf)
          refine V.st ?_
          repeat ((try ((with_reducible refine .ext ?_); (conv => whnf))); (with_reducible refine call_intro (r := ?_) ?_ ?_); rotate_left; (focus (first | exact (k1) | exact (k2))); (conv => whnf); refine V.st ?_)
          exact Fin.of rfl
      · simp at g; omega
  · by_cases ht : t < 0
    · refine ⟨s % 65536, 65535, by omega, by omega, ?_⟩
      obtain ⟨k1, k2⟩ := outs_c (s % 65536) (65535) (by omega) (by omega)
      generalize Rat.divInt (s % 65536) (65535) = x at *
      unfold frT at *
      refine called_of_run tbOk 6 ⟨Tryz.func41, rfl, rfl, Nat.le_of_ble_eq_true rfl⟩ ?_
      (conv => whnf)
      refine V.st ?_
      refine ⟨(.take 0 (.take 1 (.take 3 (.take 4 (.ev (.cons 2 [4, 3] (.ev (.cons 5 [] (.take 6 (.take 7 (.done))) (.nil))) (.nil))))))), ⟨by kernel_rfl, by kernel_rfl, by kernel_rfl⟩, ?_⟩
      refine drw_meet [(3, .int .i64 s), (4, .int .i64 t)] [] ?_ ?_
      · (conv => whnf); (try simp only [Nat.zero_add])
        repeat' (first | exact V.wk | (refine V.s1 ?_; (try simp only [Nat.zero_add])) | ((with_reducible refine recheck_and ?_ ?_); (focus ((conv => whnf); (try simp only [Nat.zero_add]); (repeat (refine V.s1 ?_; (try simp only [Nat.zero_add]))); exact ⟨rfl⟩)); (conv => whnf); (try simp only [Nat.zero_add])) | ((try ((with_reducible refine .ext ?_); (conv => whnf); (try simp only [Nat.zero_add]))); (with_reducible refine call_intro (r := ?_) ?_ ?_); rotate_left; (focus (first | exact (h1) | exact (h2))); (conv => whnf); (try simp only [Nat.zero_add])) | (refine And.intro ?_ ?_ <;> (conv => whnf); (try simp only [Nat.zero_add])))
      (conv => whnf)
      refine V.st ?_
      refine Cnd.split (CondB.mk (fun g => ?_) (fun g => ?_))
      · simp at g; omega
      · (conv => whnf)
        refine V.st ?_
        refine Cnd.split (CondB.mk (fun g2 => ?_) (fun g2 => ?_))
        · (conv => whnf)
          refine V.st ?_
          repeat ((try ((with_reducible refine .ext ?_); (conv => whnf))); (with_reducible refine call_intro (r := ?_) ?_ ?_); rotate_left; (focus (first | exact (k1) | exact (k2))); (conv => whnf); refine V.st ?_)
          exact Fin.of rfl
        · simp at g2; omega
    · have t2 : 0 ≤ t % 60 ∧ t % 60 < 60 := by omega
      have t3 : 0 ≤ s % (1 + t % 60 + 1) ∧ s % (1 + t % 60 + 1) < 1 + t % 60 + 1 := ⟨Int.emod_nonneg _ (by omega), Int.emod_lt_of_pos _ (by omega)⟩
      refine ⟨s % (1 + t % 60 + 1), 1 + t % 60, by omega, by omega, ?_⟩
      obtain ⟨k1, k2⟩ := outs_c (s % (1 + t % 60 + 1)) (1 + t % 60) (by omega) (by omega)
      generalize Rat.divInt (s % (1 + t % 60 + 1)) (1 + t % 60) = x at *
      unfold frT at *
      refine called_of_run tbOk 6 ⟨Tryz.func41, rfl, rfl, Nat.le_of_ble_eq_true rfl⟩ ?_
      (conv => whnf)
      refine V.st ?_
      refine ⟨(.take 0 (.take 1 (.take 3 (.take 4 (.ev (.cons 2 [4, 3] (.ev (.cons 5 [] (.take 6 (.take 7 (.done))) (.nil))) (.nil))))))), ⟨by kernel_rfl, by kernel_rfl, by kernel_rfl⟩, ?_⟩
      refine drw_meet [(3, .int .i64 s), (4, .int .i64 t)] [] ?_ ?_
      · (conv => whnf); (try simp only [Nat.zero_add])
        repeat' (first | exact V.wk | (refine V.s1 ?_; (try simp only [Nat.zero_add])) | ((with_reducible refine recheck_and ?_ ?_); (focus ((conv => whnf); (try simp only [Nat.zero_add]); (repeat (refine V.s1 ?_; (try simp only [Nat.zero_add]))); exact ⟨rfl⟩)); (conv => whnf); (try simp only [Nat.zero_add])) | ((try ((with_reducible refine .ext ?_); (conv => whnf); (try simp only [Nat.zero_add]))); (with_reducible refine call_intro (r := ?_) ?_ ?_); rotate_left; (focus (first | exact (h1) | exact (h2))); (conv => whnf); (try simp only [Nat.zero_add])) | (refine And.intro ?_ ?_ <;> (conv => whnf); (try simp only [Nat.zero_add])))
      (conv => whnf)
      refine V.st ?_
      refine Cnd.split (CondB.mk (fun g => ?_) (fun g => ?_))
      · simp at g; omega
      · (conv => whnf)
        refine V.st ?_
        refine Cnd.split (CondB.mk (fun g2 => ?_) (fun g2 => ?_))
        · simp at g2; omega
        · (conv => whnf)
          refine V.st ?_
          repeat ((try ((with_reducible refine .ext ?_); (conv => whnf))); (with_reducible refine call_intro (r := ?_) ?_ ?_); rotate_left; (focus (first | exact (k1) | exact (k2))); (conv => whnf); refine V.st ?_)
          exact Fin.of rfl
end Go.Proofs.YtplflfnfodghmaaGreatDoor
end
section
namespace Go.Proofs.YtplflfnfodghmaaGreatDoor
open Go Go.V Go.Nb
def hasR (x : Rat) (p q : Int) : Bool := decide (ordQ x (unit p) ≥ 0) && decide (ordQ x (unit q) ≤ 0)
theorem has_ok (p q : Int) (s t : List UInt8) (hv : vb p q = true) (h : okP s t = true) : Called Tryz.prog 44 [bA p q, .agg [.str s, .str t]] (.tup [.bool (hasR (qv s t) p q), .int .i64 0]) := by
  have hb := vb_iff.1 hv
  have e1 := end_c p (by omega)
  have e2 := end_c q (by omega)
  obtain ⟨o1, p1⟩ := okP_dec (okF_unit p (by omega))
  obtain ⟨o2, p2⟩ := okP_dec (okF_unit q (by omega))
  have c1 := fcmp_ok s t (decZ (unit p).num) (dec (unit p).den) h o1
  have c2 := fcmp_ok s t (decZ (unit q).num) (dec (unit q).den) h o2
  rw [show qv (decZ (unit p).num) (dec (unit p).den) = unit p from p1] at c1
  rw [show qv (decZ (unit q).num) (dec (unit q).den) = unit q from p2] at c2
  clear o1 p1 o2 p2
  unfold hasR
  generalize ordQ (qv s t) (unit p) = x1 at *
  generalize ordQ (qv s t) (unit q) = x2 at *
  have f1 : fD (unF p) = .tup [.agg [.str (decZ (unit p).num), .str (dec (unit p).den)], .int .i64 0] := rfl
  have f2 : fD (unF q) = .tup [.agg [.str (decZ (unit q).num), .str (dec (unit q).den)], .int .i64 0] := rfl
  rw [f1] at e1
  rw [f2] at e2
  clear f1 f2
  generalize decZ (unit p).num = a1 at *
  generalize dec (unit p).den = b1 at *
  generalize decZ (unit q).num = a2 at *
  generalize dec (unit q).den = b2 at *
  have hc : Called Tryz.prog 105 [.ref [.int .i64 p, .int .i64 q], .ref [.str s, .str t]] (.tup [.bool (decide (x1 ≥ 0) && decide (x2 ≤ 0)), .int .i64 0]) := by
    refine called_of_run tbOk 6 ⟨Tryz.func105, rfl, rfl, Nat.le_of_ble_eq_true rfl⟩ ?_
    (conv => whnf)
    refine V.st ?_
    repeat ((try ((with_reducible refine .ext ?_); (conv => whnf))); (with_reducible refine call_intro (r := ?_) ?_ ?_); rotate_left; (focus (first | exact (e1) | exact (e2) | exact (c1) | exact (c2))); (conv => whnf); refine V.st ?_)
    exact Fin.of rfl
  have hk := cko1_ok 105 p q s t (decide (x1 ≥ 0) && decide (x2 ≤ 0)) 0 1 (l1 p q) (fun _ => p) (fun _ => q) (l1_c p q) (by omega) (fun _ _ => hv) hc
  refine called_of_run tbOk 6 ⟨Tryz.func44, rfl, rfl, Nat.le_of_ble_eq_true rfl⟩ ?_
  (conv => whnf)
  refine V.st ?_
  repeat ((try ((with_reducible refine .ext ?_); (conv => whnf))); (with_reducible refine call_intro (r := ?_) ?_ ?_); rotate_left; (focus (first | exact (hk))); (conv => whnf); refine V.st ?_)
  exact Fin.of rfl
theorem has_no (p q : Int) (s t : List UInt8) (hv : ¬ vb p q = true) : Called Tryz.prog 44 [bA p q, .agg [.str s, .str t]] (.tup [.bool false, .int .i64 30]) := by
  have hk := cko1_no 105 p q s t false 0 1 (l1 p q) (fun _ => p) (fun _ => q) (l1_c p q) (by omega) (one_no hv)
  refine called_of_run tbOk 6 ⟨Tryz.func44, rfl, rfl, Nat.le_of_ble_eq_true rfl⟩ ?_
  (conv => whnf)
  refine V.st ?_
  repeat ((try ((with_reducible refine .ext ?_); (conv => whnf))); (with_reducible refine call_intro (r := ?_) ?_ ?_); rotate_left; (focus (first | exact (hk))); (conv => whnf); refine V.st ?_)
  exact Fin.of rfl
theorem divInt_cross (n d : Int) (hd : 0 < d) : (Rat.divInt n d).num * d = n * ((Rat.divInt n d).den : Int) := by
  have h := (Rat.divInt n d).den_pos
  rw [← Rat.divInt_eq_divInt_iff (by omega) (by omega), Rat.num_divInt_den]
theorem divInt_lt' (n d : Int) (hd : 0 < d) (x : Rat) : Rat.divInt n d < x ↔ n * x.den < x.num * d := by
  have e := divInt_cross n d hd
  have hb : (0 : Int) < ((Rat.divInt n d).den : Int) := by have := (Rat.divInt n d).den_pos; omega
  rw [Rat.lt_iff]
  generalize (Rat.divInt n d).num = a at *
  generalize ((Rat.divInt n d).den : Int) = b at *
  have e1 : a * x.den * d = n * x.den * b := by
    rw [Int.mul_right_comm, e, Int.mul_right_comm]
  have e2 : x.num * b * d = x.num * d * b := by rw [Int.mul_right_comm]
  constructor
  · intro h
    have := Int.mul_lt_mul_of_pos_right h hd
    rw [e1, e2] at this
    exact Int.lt_of_mul_lt_mul_right this (by omega)
  · intro h
    have := Int.mul_lt_mul_of_pos_right h hb
    rw [← e1, ← e2] at this
    exact Int.lt_of_mul_lt_mul_right this (by omega)
theorem divInt_eq' (n d : Int) (hd : 0 < d) (x : Rat) : x = Rat.divInt n d ↔ x.num * d = n * x.den := by
  have hp := x.den_pos
  conv => lhs; rw [← Rat.num_divInt_den x]
  exact Rat.divInt_eq_divInt_iff (by omega) (by omega)
theorem ord_ge (x y : Rat) : ordQ x y ≥ 0 ↔ ¬ x < y := by
  have := ordQ_lt (x := x) (y := y)
  constructor
  · intro h h2; have := this.2 h2; omega
  · intro h
    rcases Int.lt_or_le (ordQ x y) 0 with h2 | h2
    · exact absurd (this.1 h2) h
    · exact h2
theorem ord_le (x y : Rat) : ordQ x y ≤ 0 ↔ ¬ y < x := by
  have := ordQ_gt (x := x) (y := y)
  constructor
  · intro h h2; have := this.2 h2; omega
  · intro h
    rcases Int.lt_or_le 0 (ordQ x y) with h2 | h2
    · exact absurd (this.1 h2) h
    · exact h2
theorem unit_lt (m : Int) (x : Rat) : unit m < x ↔ m * x.den < x.num * 1000000000000 := divInt_lt' m _ (by decide) x
theorem unit_eq (m : Int) (x : Rat) : x = unit m ↔ x.num * 1000000000000 = m * x.den := divInt_eq' m _ (by decide) x
theorem lt_unit (m : Int) (x : Rat) : x < unit m ↔ x.num * 1000000000000 < m * x.den := by
  have h1 := unit_lt m x
  have h2 := unit_eq m x
  constructor
  · intro h
    have a1 : ¬ unit m < x := Rat.not_lt.2 (Rat.le_of_lt h)
    have a2 : ¬ x = unit m := Rat.ne_of_lt h
    rw [h1] at a1
    rw [h2] at a2
    omega
  · intro h
    have a1 : ¬ unit m < x := fun g => by have := h1.1 g; omega
    have a2 : ¬ x = unit m := fun g => by have := h2.1 g; omega
    exact Rat.lt_of_le_of_ne (Rat.not_lt.1 a1) a2
theorem has_iff (x : Rat) (p q : Int) : hasR x p q = true ↔ p * x.den ≤ x.num * 1000000000000 ∧ x.num * 1000000000000 ≤ q * x.den := by
  unfold hasR
  rw [Bool.and_eq_true, decide_eq_true_eq, decide_eq_true_eq, ord_ge, ord_le, lt_unit, unit_lt]
  omega
theorem near_bd (x : Rat) : 2 * (nearZ x 1000000000000 * x.den) ≤ 2 * (x.num * 1000000000000) + x.den ∧ 2 * (x.num * 1000000000000) + x.den < 2 * (nearZ x 1000000000000 * x.den) + 2 * x.den := by
  have hp := x.den_pos
  unfold nearZ
  have h1 := Int.emod_add_mul_ediv (x.num * ((1000000000000 * 2 : Nat) : Int) + x.den) ((x.den * 2 : Nat) : Int)
  have h2 := Int.emod_nonneg (x.num * ((1000000000000 * 2 : Nat) : Int) + x.den) (show ((x.den * 2 : Nat) : Int) ≠ 0 by omega)
  have h3 := Int.emod_lt_of_pos (x.num * ((1000000000000 * 2 : Nat) : Int) + x.den) (show 0 < ((x.den * 2 : Nat) : Int) by omega)
  generalize (x.num * ((1000000000000 * 2 : Nat) : Int) + x.den) % ((x.den * 2 : Nat) : Int) = r at *
  generalize (x.num * ((1000000000000 * 2 : Nat) : Int) + x.den) / ((x.den * 2 : Nat) : Int) = n at *
  have e : ((x.den * 2 : Nat) : Int) * n = 2 * (n * x.den) := by
    rw [show ((x.den * 2 : Nat) : Int) = 2 * (x.den : Int) by omega, Int.mul_assoc, Int.mul_comm (x.den : Int) n]
  rw [e] at h1
  generalize n * (x.den : Int) = y at *
  omega
theorem near_le (x : Rat) (K : Int) (h : -(K * x.den) ≤ x.num ∧ x.num ≤ K * x.den) : -(K * 1000000000000) - 1 ≤ nearZ x 1000000000000 ∧ nearZ x 1000000000000 ≤ K * 1000000000000 + 1 := by
  have hp := x.den_pos
  obtain ⟨b1, b2⟩ := near_bd x
  generalize nearZ x 1000000000000 = n at *
  have e : K * 1000000000000 * (x.den : Int) = 1000000000000 * (K * x.den) := by rw [Int.mul_right_comm, Int.mul_comm]
  constructor
  · rcases Int.lt_or_le n (-(K * 1000000000000) - 1) with g | g
    · exfalso
      have := Int.mul_le_mul_of_nonneg_right (show n ≤ -(K * 1000000000000) - 2 by omega) (show (0 : Int) ≤ x.den by omega)
      rw [Int.sub_mul, Int.neg_mul, e] at this
      omega
    · exact g
  · rcases Int.lt_or_le (K * 1000000000000 + 1) n with g | g
    · exfalso
      have := Int.mul_le_mul_of_nonneg_right (show K * 1000000000000 + 2 ≤ n by omega) (show (0 : Int) ≤ x.den by omega)
      rw [Int.add_mul, e] at this
      omega
    · exact g
theorem small_num (n m K : Int) (hn : -K ≤ n ∧ n ≤ K) (hm : 1 ≤ m) : -(K * ((Rat.divInt n m).den : Int)) ≤ (Rat.divInt n m).num ∧ (Rat.divInt n m).num ≤ K * ((Rat.divInt n m).den : Int) := by
  have e := divInt_cross n m (by omega)
  have hp := (Rat.divInt n m).den_pos
  generalize (Rat.divInt n m).num = a at *
  generalize (Rat.divInt n m).den = b at *
  have h1 := Int.mul_le_mul_of_nonneg_right hn.1 (show (0 : Int) ≤ b by omega)
  have h2 := Int.mul_le_mul_of_nonneg_right hn.2 (show (0 : Int) ≤ b by omega)
  rw [Int.neg_mul] at h1
  rw [← e] at h1 h2
  have hK : 0 ≤ K * (b : Int) := Int.mul_nonneg (by omega) (by omega)
  generalize K * (b : Int) = k at *
  constructor
  · rcases Int.lt_or_le a 0 with g | g
    · have := Int.mul_le_mul_of_nonpos_left (show a ≤ 0 by omega) (show (1 : Int) ≤ m from hm)
      omega
    · omega
  · rcases Int.lt_or_le a 0 with g | g
    · omega
    · have := Int.mul_le_mul_of_nonneg_left (show (1 : Int) ≤ m from hm) (show 0 ≤ a by omega)
      omega
theorem around_law (x : Rat) (h : -999999999999999999 ≤ nearZ x 1000000000000 ∧ nearZ x 1000000000000 ≤ 999999999999999999) :
    ∃ p q, aroundR x = (p, q, 0) ∧ vb p q = true ∧ q - p ≤ 1 ∧ hasR x p q = true ∧ (p = q ↔ unit p = x) := by
  have hp := x.den_pos
  obtain ⟨b1, b2⟩ := near_bd x
  unfold aroundR
  rw [if_pos (vb_iff.2 (by omega))]
  generalize nearZ x 1000000000000 = n at *
  have l1 := lt_unit n x
  have l2 := unit_lt n x
  have e1 : (n + -1) * (x.den : Int) = n * x.den - x.den := by rw [Int.add_mul]; omega
  have e2 : (n + 1) * (x.den : Int) = n * x.den + x.den := by rw [Int.add_mul]; omega
  by_cases g1 : x < unit n
  · have o : ordQ x (unit n) = -1 := by unfold ordQ; rw [if_pos g1]
    rw [o, show min (-1 : Int) 0 = -1 from rfl, show max (-1 : Int) 0 = 0 from rfl, mk_ok (by omega), Int.add_zero]
    have := l1.1 g1
    refine ⟨_, _, rfl, vb_iff.2 (by omega), by omega, (has_iff _ _ _).2 (by rw [e1]; omega), ⟨fun h => by omega, fun h => ?_⟩⟩
    have := (unit_eq (n + -1) x).1 h.symm
    rw [e1] at this
    omega
  · by_cases g2 : x = unit n
    · have o : ordQ x (unit n) = 0 := by unfold ordQ; rw [if_neg g1, if_pos g2]
      rw [o, show min (0 : Int) 0 = 0 from rfl, show max (0 : Int) 0 = 0 from rfl, mk_ok (by omega), Int.add_zero]
      have := (unit_eq n x).1 g2
      exact ⟨_, _, rfl, vb_iff.2 (by omega), by omega, (has_iff _ _ _).2 (by omega), ⟨fun _ => g2.symm, fun _ => rfl⟩⟩
    · have o : ordQ x (unit n) = 1 := by unfold ordQ; rw [if_neg g1, if_neg g2]
      rw [o, show min (1 : Int) 0 = 0 from rfl, show max (1 : Int) 0 = 1 from rfl, mk_ok (by omega), Int.add_zero]
      have h3 : unit n < x := Rat.lt_of_le_of_ne (Rat.not_lt.1 g1) (Ne.symm g2)
      have := l2.1 h3
      exact ⟨_, _, rfl, vb_iff.2 (by omega), by omega, (has_iff _ _ _).2 (by rw [e2]; omega), ⟨fun h => by omega, fun h => absurd h.symm g2⟩⟩
theorem near_unit (m : Int) : nearZ (unit m) 1000000000000 = m := by
  obtain ⟨b1, b2⟩ := near_bd (unit m)
  have h := (unit_eq m (unit m)).1 rfl
  have hp := (unit m).den_pos
  generalize nearZ (unit m) 1000000000000 = n at *
  rw [h] at b1 b2
  generalize (unit m).den = d at *
  rcases Int.lt_trichotomy n m with g | g | g
  · exfalso
    have := Int.mul_le_mul_of_nonneg_right (show n + 1 ≤ m by omega) (show (0 : Int) ≤ d by omega)
    rw [Int.add_mul] at this
    omega
  · exact g
  · exfalso
    have := Int.mul_le_mul_of_nonneg_right (show m + 1 ≤ n by omega) (show (0 : Int) ≤ d by omega)
    rw [Int.add_mul] at this
    omega
theorem around_unit (m : Int) (h : vb m m = true) : aroundR (unit m) = (m, m, 0) := by
  unfold aroundR
  rw [near_unit, if_pos h, show ordQ (unit m) (unit m) = 0 by unfold ordQ; rw [if_neg Rat.lt_irrefl, if_pos rfl]]
  rw [show min (0 : Int) 0 = 0 from rfl, show max (0 : Int) 0 = 0 from rfl, Int.add_zero]
  unfold mk
  rw [if_pos h]
theorem txt_inj {x y : Rat} (h1 : decZ x.num = decZ y.num) (h2 : dec x.den = dec y.den) : x = y := by
  have e1 : x.num = y.num := by rw [← wval_decZ x.num, h1, wval_decZ]
  have e2 : x.den = y.den := by rw [← rdv_dec x.den, h2, rdv_dec]
  exact Rat.ext e1 e2
end Go.Proofs.YtplflfnfodghmaaGreatDoor
end
section
namespace Go.Proofs.YtplflfnfodghmaaGreatDoor
open Go Go.V Go.Nb
theorem fadd_ok (s t u v : List UInt8) (h : okP s t = true) (g : okP u v = true) (hn : (mg 1000000000 (qv s t + qv u v).num.natAbs).length ≤ 90000000) (hd : (mg 1000000000 (qv s t + qv u v).den).length ≤ 90000000) : Called Tryz.prog 54 [.agg [.str s, .str t], .agg [.str u, .str v]] (frR (qv s t + qv u v)) := by
  have r1 := read_ok s t h
  have r2 := read_ok u v g
  have o := add_c (qv s t) (qv u v) (qsize h) (qsize g)
  have w := write_c (qv s t + qv u v) hn hd
  generalize qv s t + qv u v = q at *
  have ap : Called Tryz.prog 116 [.agg [.str s, .str t], .agg [.str u, .str v], .fn 117 [] []] (.tup [rtD q, .int .i64 0]) := by
    refine called_of_run tbOk 6 ⟨Tryz.func116, rfl, rfl, Nat.le_of_ble_eq_true rfl⟩ ?_
    (conv => whnf)
    refine V.st ?_
    repeat ((try ((with_reducible refine .ext ?_); (conv => whnf))); (with_reducible refine call_intro (r := ?_) ?_ ?_); rotate_left; (focus (first | exact (r1) | exact (r2) | exact (o))); (conv => whnf); refine V.st ?_)
    exact Fin.of rfl
  have rs : Called Tryz.prog 115 [rtD q, .int .i64 0] (frR q) := by
    refine called_of_run tbOk 6 ⟨Tryz.func115, rfl, rfl, Nat.le_of_ble_eq_true rfl⟩ ?_
    (conv => whnf)
    refine V.st ?_
    repeat ((try ((with_reducible refine .ext ?_); (conv => whnf))); (with_reducible refine call_intro (r := ?_) ?_ ?_); rotate_left; (focus (first | exact (w))); (conv => whnf); refine V.st ?_)
    exact Fin.of rfl
  refine called_of_run tbOk 6 ⟨Tryz.func54, rfl, rfl, Nat.le_of_ble_eq_true rfl⟩ ?_
  (conv => whnf)
  refine V.st ?_
  repeat ((try ((with_reducible refine .ext ?_); (conv => whnf))); (with_reducible refine call_intro (r := ?_) ?_ ?_); rotate_left; (focus (first | exact (ap) | exact (rs))); (conv => whnf); refine V.st ?_)
  exact Fin.of rfl
theorem fsub_ok (s t u v : List UInt8) (h : okP s t = true) (g : okP u v = true) (hn : (mg 1000000000 (qv s t - qv u v).num.natAbs).length ≤ 90000000) (hd : (mg 1000000000 (qv s t - qv u v).den).length ≤ 90000000) : Called Tryz.prog 55 [.agg [.str s, .str t], .agg [.str u, .str v]] (frR (qv s t - qv u v)) := by
  have r1 := read_ok s t h
  have r2 := read_ok u v g
  have o := sub_c (qv s t) (qv u v) (qsize h) (qsize g)
  have w := write_c (qv s t - qv u v) hn hd
  generalize qv s t - qv u v = q at *
  have ap : Called Tryz.prog 116 [.agg [.str s, .str t], .agg [.str u, .str v], .fn 118 [] []] (.tup [rtD q, .int .i64 0]) := by
    refine called_of_run tbOk 6 ⟨Tryz.func116, rfl, rfl, Nat.le_of_ble_eq_true rfl⟩ ?_
    (conv => whnf)
    refine V.st ?_
    repeat ((try ((with_reducible refine .ext ?_); (conv => whnf))); (with_reducible refine call_intro (r := ?_) ?_ ?_); rotate_left; (focus (first | exact (r1) | exact (r2) | exact (o))); (conv => whnf); refine V.st ?_)
    exact Fin.of rfl
  have rs : Called Tryz.prog 115 [rtD q, .int .i64 0] (frR q) := by
    refine called_of_run tbOk 6 ⟨Tryz.func115, rfl, rfl, Nat.le_of_ble_eq_true rfl⟩ ?_
    (conv => whnf)
    refine V.st ?_
    repeat ((try ((with_reducible refine .ext ?_); (conv => whnf))); (with_reducible refine call_intro (r := ?_) ?_ ?_); rotate_left; (focus (first | exact (w))); (conv => whnf); refine V.st ?_)
    exact Fin.of rfl
  refine called_of_run tbOk 6 ⟨Tryz.func55, rfl, rfl, Nat.le_of_ble_eq_true rfl⟩ ?_
  (conv => whnf)
  refine V.st ?_
  repeat ((try ((with_reducible refine .ext ?_); (conv => whnf))); (with_reducible refine call_intro (r := ?_) ?_ ?_); rotate_left; (focus (first | exact (ap) | exact (rs))); (conv => whnf); refine V.st ?_)
  exact Fin.of rfl
theorem fmul_ok (s t u v : List UInt8) (h : okP s t = true) (g : okP u v = true) (hn : (mg 1000000000 (qv s t * qv u v).num.natAbs).length ≤ 90000000) (hd : (mg 1000000000 (qv s t * qv u v).den).length ≤ 90000000) : Called Tryz.prog 56 [.agg [.str s, .str t], .agg [.str u, .str v]] (frR (qv s t * qv u v)) := by
  have r1 := read_ok s t h
  have r2 := read_ok u v g
  have o := mul_c (qv s t) (qv u v) (qsize h) (qsize g)
  have w := write_c (qv s t * qv u v) hn hd
  generalize qv s t * qv u v = q at *
  have ap : Called Tryz.prog 116 [.agg [.str s, .str t], .agg [.str u, .str v], .fn 119 [] []] (.tup [rtD q, .int .i64 0]) := by
    refine called_of_run tbOk 6 ⟨Tryz.func116, rfl, rfl, Nat.le_of_ble_eq_true rfl⟩ ?_
    (conv => whnf)
    refine V.st ?_
    repeat ((try ((with_reducible refine .ext ?_); (conv => whnf))); (with_reducible refine call_intro (r := ?_) ?_ ?_); rotate_left; (focus (first | exact (r1) | exact (r2) | exact (o))); (conv => whnf); refine V.st ?_)
    exact Fin.of rfl
  have rs : Called Tryz.prog 115 [rtD q, .int .i64 0] (frR q) := by
    refine called_of_run tbOk 6 ⟨Tryz.func115, rfl, rfl, Nat.le_of_ble_eq_true rfl⟩ ?_
    (conv => whnf)
    refine V.st ?_
    repeat ((try ((with_reducible refine .ext ?_); (conv => whnf))); (with_reducible refine call_intro (r := ?_) ?_ ?_); rotate_left; (focus (first | exact (w))); (conv => whnf); refine V.st ?_)
    exact Fin.of rfl
  refine called_of_run tbOk 6 ⟨Tryz.func56, rfl, rfl, Nat.le_of_ble_eq_true rfl⟩ ?_
  (conv => whnf)
  refine V.st ?_
  repeat ((try ((with_reducible refine .ext ?_); (conv => whnf))); (with_reducible refine call_intro (r := ?_) ?_ ?_); rotate_left; (focus (first | exact (ap) | exact (rs))); (conv => whnf); refine V.st ?_)
  exact Fin.of rfl
theorem Q9.inv {k : Nat} {q : Rat} (h : Q9 k q) (h0 : q.num ≠ 0) : Q9 k q⁻¹ := by
  obtain ⟨p1, p2⟩ := inv_parts q h0
  constructor
  · rw [p1]
    unfold S9
    have e : (if decide (q.num < 0) = true then -(q.den : Int) else (q.den : Int)).natAbs = q.den := by
      split <;> simp
    rw [e]
    exact h.2
  · rw [p2]; exact h.1
theorem fdiv_ok (s t u v : List UInt8) (h : okP s t = true) (g : okP u v = true) (h0 : (qv u v).num ≠ 0) (hn : (mg 1000000000 (qv s t / qv u v).num.natAbs).length ≤ 90000000) (hd : (mg 1000000000 (qv s t / qv u v).den).length ≤ 90000000) : Called Tryz.prog 57 [.agg [.str s, .str t], .agg [.str u, .str v]] (frR (qv s t / qv u v)) := by
  have r1 := read_ok s t h
  have r2 := read_ok u v g
  have z1 := zero_c (qv u v).num.natAbs
  rw [decide_eq_false (show ¬ (qv u v).num.natAbs = 0 by omega)] at z1
  have i1 := inverse_c (qv u v) h0
  have o := mul_c (qv s t) (qv u v)⁻¹ (qsize h) ((qsize g).inv h0)
  have w := write_c (qv s t / qv u v) hn hd
  rw [Rat.div_def] at w ⊢
  unfold frR at *
  generalize qv s t * (qv u v)⁻¹ = q at *
  generalize (qv u v)⁻¹ = y at *
  refine called_of_run tbOk 6 ⟨Tryz.func57, rfl, rfl, Nat.le_of_ble_eq_true rfl⟩ ?_
  (conv => whnf)
  refine V.st ?_
  repeat ((try ((with_reducible refine .ext ?_); (conv => whnf))); (with_reducible refine call_intro (r := ?_) ?_ ?_); rotate_left; (focus (first | exact (r1) | exact (r2) | exact (z1))); (conv => whnf); refine V.st ?_)
  refine ⟨(.take 0 (.take 1 (.ev (.cons 2 [0] (.ev (.cons 3 [] (.ev (.cons 4 [] (.take 5 (.take 6 (.ev (.cons 7 [] (.take 8 (.done)) (.nil))))) (.nil))) (.nil))) (.nil))))), ⟨by kernel_rfl, by kernel_rfl, by kernel_rfl⟩, .go ?_⟩
  (conv => whnf)
  refine V.st ?_
  repeat ((try ((with_reducible refine .ext ?_); (conv => whnf))); (with_reducible refine call_intro (r := ?_) ?_ ?_); rotate_left; (focus (first | exact (i1) | exact (o) | exact (w))); (conv => whnf); refine V.st ?_)
  exact Fin.of rfl
theorem okF_40 {q : Rat} (h1 : q.num.natAbs < 10 ^ 40) (h2 : q.den < 10 ^ 40) : okF q = true := by
  unfold okF
  simp only [Bool.and_eq_true, decide_eq_true_eq]
  exact ⟨Nat.le_trans (pad_dec 40 _ (by omega) h1).1 (by omega), Nat.le_trans (pad_dec 40 _ (by omega) h2).1 (by omega)⟩
theorem mg_40 {n : Nat} (h : n < 10 ^ 40) : (mg 1000000000 n).length ≤ 90000000 := Nat.le_trans (mg_len_le (k := 5) (by omega) (by omega)) (by omega)
theorem divInt_40 (n d : Int) (hn : -10000000000000000000000000000000000000000 < n ∧ n < 10000000000000000000000000000000000000000) (hd : d ≠ 0 ∧ -10000000000000000000000000000000000000000 < d ∧ d < 10000000000000000000000000000000000000000) :
    (Rat.divInt n d).num.natAbs < 10 ^ 40 ∧ (Rat.divInt n d).den < 10 ^ 40 := by
  rcases (by omega : 0 < d ∨ d < 0) with h | h
  · obtain ⟨k, rfl⟩ : ∃ k : Nat, d = k := ⟨d.toNat, by omega⟩
    have := divInt_le n k (by omega)
    constructor
    · exact Nat.lt_of_le_of_lt this.1 (by omega)
    · exact Nat.lt_of_le_of_lt this.2 (by omega)
  · rw [← Rat.neg_divInt_neg]
    obtain ⟨k, hk⟩ : ∃ k : Nat, -d = k := ⟨(-d).toNat, by omega⟩
    rw [hk]
    have := divInt_le (-n) k (by omega)
    constructor
    · exact Nat.lt_of_le_of_lt this.1 (by omega)
    · exact Nat.lt_of_le_of_lt this.2 (by omega)
theorem frR_ok {q : Rat} (h : okF q = true) : frR q = .tup [frT q, .int .i64 0] := by
  unfold frR
  rw [h]
  rfl
end Go.Proofs.YtplflfnfodghmaaGreatDoor
end
section
namespace Go.Proofs.YtplflfnfodghmaaGreatDoor
open Go Go.V Go.Nb
theorem right01_c (s : List UInt8) (hs : s.length ≤ 281474976710656) : Called Tryz.prog 148 [.str s] (.bool (okW s)) := by
  obtain ⟨d, j, neg, S, e1, _⟩ := sg_of s
  rw [e1]
  exact right01_g s d j neg S hs
theorem in01_c (s : List UInt8) (h : okW s = true) : Called Tryz.prog 94 [.str s] (plD (wval s)) := by
  obtain ⟨d, j, neg, S, e1, e2⟩ := sg_of s
  rw [e2]
  rw [e1] at h
  unfold okD at h
  simp only [Bool.and_eq_true, Bool.not_eq_true', Bool.or_eq_false_iff, decide_eq_false_iff_not, List.all_eq_true] at h
  exact in01_g s d j neg S h.1.2 (by omega) (by have := S.hl; omega)
theorem sm_wval {s : List UInt8} (h : okW s = true) : Sm 151 (wval s) := by
  obtain ⟨d, j, neg, S, e1, e2⟩ := sg_of s
  rw [e1] at h
  unfold okD at h
  simp only [Bool.and_eq_true, Bool.not_eq_true', Bool.or_eq_false_iff, decide_eq_false_iff_not, List.all_eq_true] at h
  have hlt := rdv_lt (s := d) h.1.2
  have h2 : ∀ k, d.length ≤ 4 * k → rdv d < 10000 ^ k := fun k hk => by
    refine Nat.lt_of_lt_of_le hlt ?_
    rw [show (10000 : Nat) = 10 ^ 4 from rfl, ← Nat.pow_mul]
    exact Nat.pow_le_pow_right (by omega) hk
  have e : (wval s).natAbs = rdv d := by
    rw [e2]; split <;> omega
  unfold Sm
  rw [e]
  exact mg_len_le (by omega) (h2 151 (by omega))
theorem right02_c (s t : List UInt8) (hs : s.length ≤ 281474976710656) (ht : t.length ≤ 281474976710656) : Called Tryz.prog 101 [.agg [.str s, .str t]] (.bool (okP s t)) := by
  have r1 := right01_c s hs
  have r2 := right01_c t ht
  by_cases h1 : okW s = true
  · rw [h1] at r1
    by_cases h2 : okW t = true
    · rw [h2] at r2
      have i1 := in01_c s h1
      have i2 := in01_c t h2
      have g1 := divisor_c (wval s) (wval t) ((sm_wval h1).mono (by omega)) ((sm_wval h2).mono (by omega))
      have hz := mg_nil (B := 10000) (n := (wval t).natAbs) (by omega)
      have gl : Sm 151 (Int.gcd (wval s) (wval t) : Int) := by
        by_cases h0 : wval t = 0
        · rw [h0, Int.gcd_zero_right]
          exact (sm_wval h1).le (by omega)
        · exact (sm_wval h2).le (by
            rw [Int.natAbs_natCast]
            exact Nat.le_of_dvd (by omega) (Int.ofNat_dvd_left.1 (Int.gcd_dvd_right _ _)))
      have x1 := text_c _ (gl.mono (by omega))
      have hp : okP s t = (decide (0 < wval t) && decide (decZ (Int.gcd (wval s) (wval t) : Int) = [49])) := by
        unfold okP
        rw [h1, h2, Bool.true_and, Bool.true_and]
        congr 1
        refine decide_eq_decide.2 ⟨fun h => ?_, fun h => ?_⟩
        · rw [show Int.gcd (wval s) (wval t) = 1 from h]; decide
        · have := wval_decZ (Int.gcd (wval s) (wval t) : Int)
          rw [h] at this
          have e49 : wval [49] = 1 := by decide
          rw [e49] at this
          show Int.gcd (wval s) (wval t) = 1
          omega
      rw [hp]
      clear hp gl
      generalize wval s = x at *
      generalize wval t = y at *
      generalize (Int.gcd x y : Int) = g at *
      generalize decZ g = gt at *
      have hy : (decide (y < 0) || decide ((((mg 10000 y.natAbs).length : Nat) : Int) = 0)) = !decide (0 < y) := by
        rw [Bool.eq_iff_iff]
        simp only [Bool.or_eq_true, decide_eq_true_eq, Bool.not_eq_true', decide_eq_false_iff_not]
        constructor
        · rintro (h | h)
          · omega
          · have : mg 10000 y.natAbs = [] := List.length_eq_zero_iff.1 (by omega)
            have := hz.1 this
            omega
        · intro h
          by_cases h0 : y < 0
          · exact .inl h0
          · right
            have : mg 10000 y.natAbs = [] := hz.2 (by omega)
            rw [this]; rfl
      unfold plD at *
      refine called_of_run tbOk 6 ⟨Tryz.func101, rfl, rfl, Nat.le_of_ble_eq_true rfl⟩ ?_
      (conv => whnf)
      refine V.st ?_
      repeat ((try ((with_reducible refine .ext ?_); (conv => whnf))); (with_reducible refine call_intro (r := ?_) ?_ ?_); rotate_left; (focus (first | exact (r1) | exact (r2))); (conv => whnf); refine V.st ?_)
      refine ⟨(.take 0 (.take 1 (.take 3 (.take 4 (.ev (.cons 2 [4, 3] (.ev (.cons 5 [] (.ev (.cons 6 [] (.ev (.cons 7 [] (.ev (.cons 8 [] (.ev (.cons 9 [] (.done) (.nil))) (.nil))) (.nil))) (.cons 7 [] (.ev (.cons 6 [] (.ev (.cons 8 [] (.ev (.cons 9 [] (.done) (.nil))) (.nil))) (.nil))) (.nil)))) (.cons 6 [4, 3] (.ev (.cons 5 [] (.ev (.cons 7 [] (.ev (.cons 8 [] (.ev (.cons 9 [] (.done) (.nil))) (.nil))) (.nil))) (.cons 7 [4, 3] (.ev (.cons 5 [] (.ev (.cons 8 [] (.ev (.cons 9 [] (.done) (.nil))) (.nil))) (.nil))) (.nil)))) (.cons 7 [4, 3] (.ev (.cons 5 [] (.ev (.cons 6 [] (.ev (.cons 8 [] (.ev (.cons 9 [] (.done) (.nil))) (.nil))) (.nil))) (.cons 6 [4, 3] (.ev (.cons 5 [] (.ev (.cons 8 [] (.ev (.cons 9 [] (.done) (.nil))) (.nil))) (.nil))) (.nil)))) (.nil))))) (.cons 6 [4, 3, 1, 0] (.ev (.cons 2 [4, 3] (.ev (.cons 5 [] (.ev (.cons 7 [] (.ev (.cons 8 [] (.ev (.cons 9 [] (.done) (.nil))) (.nil))) (.nil))) (.cons 7 [4, 3] (.ev (.cons 5 [] (.ev (.cons 8 [] (.ev (.cons 9 [] (.done) (.nil))) (.nil))) (.nil))) (.nil)))) (.cons 7 [4, 3, 1, 0] (.ev (.cons 2 [4, 3] (.ev (.cons 5 [] (.ev (.cons 8 [] (.ev (.cons 9 [] (.done) (.nil))) (.nil))) (.nil))) (.nil))) (.nil)))) (.cons 7 [4, 3, 1, 0] (.ev (.cons 2 [4, 3] (.ev (.cons 5 [] (.ev (.cons 6 [] (.ev (.cons 8 [] (.ev (.cons 9 [] (.done) (.nil))) (.nil))) (.nil))) (.cons 6 [4, 3] (.ev (.cons 5 [] (.ev (.cons 8 [] (.ev (.cons 9 [] (.done) (.nil))) (.nil))) (.nil))) (.nil)))) (.cons 6 [4, 3, 1, 0] (.ev (.cons 2 [4, 3] (.ev (.cons 5 [] (.ev (.cons 8 [] (.ev (.cons 9 [] (.done) (.nil))) (.nil))) (.nil))) (.nil))) (.nil)))) (.nil))))))))), ⟨by kernel_rfl, by kernel_rfl, by kernel_rfl⟩, ?_⟩
      refine drw_meet [(3, .box 3 0), (4, .box 4 0)] [(3, .box [.bool (decide (x < 0)), .ints .i64 (mg 10000 x.natAbs)]), (4, .box [.bool (decide (y < 0)), .ints .i64 (mg 10000 y.natAbs)])] ?_ ?_
      · (conv => whnf); (try simp only [Nat.zero_add])
        repeat' (first | exact V.wk | (refine V.s1 ?_; (try simp only [Nat.zero_add])) | ((with_reducible refine recheck_and ?_ ?_); (focus ((conv => whnf); (try simp only [Nat.zero_add]); (repeat (refine V.s1 ?_; (try simp only [Nat.zero_add]))); exact ⟨rfl⟩)); (conv => whnf); (try simp only [Nat.zero_add])) | ((try ((with_reducible refine .ext ?_); (conv => whnf); (try simp only [Nat.zero_add]))); (with_reducible refine call_intro (r := ?_) ?_ ?_); rotate_left; (focus (first | exact (i1) | exact (i2))); (conv => whnf); (try simp only [Nat.zero_add])) | (refine And.intro ?_ ?_ <;> (conv => whnf); (try simp only [Nat.zero_add])))
      (conv => whnf)
      (conv => whnf)
      (try simp only [hy])
      repeat (first | (refine V.s1 ?_; (try simp only [hy])) | ((with_reducible refine recheck_and ?_ ?_); (focus ((conv => whnf); (try simp only [hy]); (repeat (refine V.s1 ?_; (try simp only [hy]))); exact ⟨rfl⟩)); (conv => whnf); (try simp only [hy])))
      refine Cnd.split (CondB.mk (fun hq => ?_) (fun hq => ?_))
      · simp only [Bool.not_eq_true', decide_eq_false_iff_not] at hq
        rw [decide_eq_false hq, Bool.false_and]
        (conv => whnf)
        refine V.st ?_
        exact Fin.of rfl
      · simp only [Bool.not_eq_false', decide_eq_true_eq] at hq
        rw [decide_eq_true hq, Bool.true_and]
        (conv => whnf)
        refine V.st ?_
        repeat ((try ((with_reducible refine .ext ?_); (conv => whnf))); (with_reducible refine call_intro (r := ?_) ?_ ?_); rotate_left; (focus (first | exact (g1) | exact (x1))); (conv => whnf); refine V.st ?_)
        exact Fin.of rfl
    · rw [Bool.eq_false_iff.2 h2] at r2
      have hp : okP s t = false := by unfold okP; rw [Bool.eq_false_iff.2 h2, Bool.and_false, Bool.false_and, Bool.false_and]
      rw [hp]
      refine called_of_run tbOk 6 ⟨Tryz.func101, rfl, rfl, Nat.le_of_ble_eq_true rfl⟩ ?_
      (conv => whnf)
      refine V.st ?_
      repeat ((try ((with_reducible refine .ext ?_); (conv => whnf))); (with_reducible refine call_intro (r := ?_) ?_ ?_); rotate_left; (focus (first | exact (r1) | exact (r2))); (conv => whnf); refine V.st ?_)
      exact Fin.of rfl
  · rw [Bool.eq_false_iff.2 h1] at r1
    have hp : okP s t = false := by unfold okP; rw [Bool.eq_false_iff.2 h1, Bool.false_and, Bool.false_and, Bool.false_and]
    rw [hp]
    refine called_of_run tbOk 6 ⟨Tryz.func101, rfl, rfl, Nat.le_of_ble_eq_true rfl⟩ ?_
    (conv => whnf)
    refine V.st ?_
    repeat ((try ((with_reducible refine .ext ?_); (conv => whnf))); (with_reducible refine call_intro (r := ?_) ?_ ?_); rotate_left; (focus (first | exact (r1) | exact (r2))); (conv => whnf); refine V.st ?_)
    refine Cnd.split (CondB.mk (fun hq => ?_) (fun hq => ?_))
    · (conv => whnf)
      refine V.st ?_
      exact Fin.of rfl
    · simp at hq
end Go.Proofs.YtplflfnfodghmaaGreatDoor
end
