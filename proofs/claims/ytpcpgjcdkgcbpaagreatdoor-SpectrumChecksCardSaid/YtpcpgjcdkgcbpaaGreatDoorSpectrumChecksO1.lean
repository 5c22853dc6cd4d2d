/- What some functions of the program answer at values that mean given lists, texts and numbers, each proved of the program's own code: part 7. Conditions: those that each theorem names. -/
import Derived.Test.YtpcpgjcdkgcbpaaGreatDoorH4
import Derived.Test.YtpcpgjcdkgcbpaaGreatDoorH5
import Derived.Test.YtpcpgjcdkgcbpaaGreatDoorH6
set_option linter.unusedSimpArgs false
set_option linter.unusedVariables false
set_option maxHeartbeats 8000000
set_option maxRecDepth 100000
section
namespace Go.Proofs.YtpcpgjcdkgcbpaaGreatDoor
open Go Go.V Go.Nb
theorem robs0 : Called Tryz.prog 93 [.int .i64 0] (.ints .i64 wxL) := by
  refine called_of_run tbOk 6 ⟨Tryz.func93, rfl, rfl, Nat.le_of_ble_eq_true rfl⟩ ?_
  (conv => whnf)
  (conv => whnf)
  (try simp only [Nat.zero_add])
  repeat ((first | refine V.s1 ?_); (try simp only [Nat.zero_add]))
  exact Fin.of rfl
theorem robs1 : Called Tryz.prog 93 [.int .i64 1] (.ints .i64 wyL) := by
  refine called_of_run tbOk 6 ⟨Tryz.func93, rfl, rfl, Nat.le_of_ble_eq_true rfl⟩ ?_
  (conv => whnf)
  (conv => whnf)
  (try simp only [Nat.zero_add])
  repeat ((first | refine V.s1 ?_); (try simp only [Nat.zero_add]))
  exact Fin.of rfl
theorem robs2 : Called Tryz.prog 93 [.int .i64 2] (.ints .i64 wzL) := by
  refine called_of_run tbOk 6 ⟨Tryz.func93, rfl, rfl, Nat.le_of_ble_eq_true rfl⟩ ?_
  (conv => whnf)
  (conv => whnf)
  (try simp only [Nat.zero_add])
  repeat ((first | refine V.s1 ?_); (try simp only [Nat.zero_add]))
  exact Fin.of rfl
theorem rpow1 : Called Tryz.prog 92 [.int .i64 1] (.tup [.ints .i64 waL, .bool true]) := by
  refine called_of_run tbOk 6 ⟨Tryz.func92, rfl, rfl, Nat.le_of_ble_eq_true rfl⟩ ?_
  (conv => whnf)
  (conv => whnf)
  (try simp only [Nat.zero_add])
  repeat ((first | refine V.s1 ?_); (try simp only [Nat.zero_add]))
  exact Fin.of rfl
theorem rpow5 : Called Tryz.prog 92 [.int .i64 5] (.tup [.ints .i64 wdL, .bool true]) := by
  refine called_of_run tbOk 6 ⟨Tryz.func92, rfl, rfl, Nat.le_of_ble_eq_true rfl⟩ ?_
  (conv => whnf)
  (conv => whnf)
  (try simp only [Nat.zero_add])
  repeat ((first | refine V.s1 ?_); (try simp only [Nat.zero_add]))
  exact Fin.of rfl
theorem rep_snoc (k : Nat) : List.replicate k (1000000 : Int) ++ [1000000] = List.replicate (k + 1) 1000000 := by
  rw [List.replicate_succ']
theorem zY44_0 : type_of% @Int.toNat_natCast ∧ type_of% @Nat.zero_add := ⟨@Int.toNat_natCast, @Nat.zero_add⟩
theorem rpow7 : Called Tryz.prog 92 [.int .i64 7] (.tup [.ints .i64 weL, .bool true]) := by
  refine called_of_run tbOk 6 ⟨Tryz.func92, rfl, rfl, Nat.le_of_ble_eq_true rfl⟩ ?_
  (conv => whnf)
  (conv => whnf)
  (try simp only [Nat.zero_add])
  repeat ((first | refine V.s1 ?_); (try simp only [Nat.zero_add]))
  refine Lp.ghostSlot 21 4 .i64 (by decide) ?_
  (conv => whnf)
  refine lp_any (0) (fun k => k ≤ 16) (fun k => 16 - k) (fun k => [(5, .int .i64 k), (4, .osl 21 0 k)]) (fun k => [(21, .arr .i64 (List.replicate k 1000000))]) ?_ ?_ ?_
  · exact V.wk
  · exact Nat.zero_le _
  intro k hk
  (conv => whnf)
  (try simp only [Nat.zero_add])
  repeat ((first | refine V.s1 ?_); (try simp only [Nat.zero_add]))
  refine Cnd.split (CondB.mk (fun hq => ?_) (fun hq => ?_))
  · have hk2 : k < 16 := by simp at hq; omega
    have hl : (List.replicate k (1000000 : Int)).length = k := List.length_replicate
    have hs : List.replicate k (1000000 : Int) ++ List.take 1 (List.drop 0 [1000000]) = List.replicate (k + 1) 1000000 := rep_snoc k
    (conv => whnf)
    (try simp only [zY44_0, hs, hl])
    repeat ((first | refine V.s1 ?_); (try simp only [zY44_0, hs, hl]))
    exact ⟨(k + 1), by omega, by omega, V.wk⟩
  · have hk2 : k = 16 := by simp at hq; omega
    subst hk2
    (conv => whnf)
    (try simp only [Nat.zero_add])
    repeat ((first | refine V.s1 ?_); (try simp only [Nat.zero_add]))
    exact Fin.of rfl
theorem rpow_no (n : Int) (h : isLt n = false) : Called Tryz.prog 92 [.int .i64 n] (.tup [.nil, .bool false]) := by
  unfold isLt at h
  simp only [Bool.or_eq_false_iff, decide_eq_false_iff_not] at h
  have h1 : decide (n = 1) = false := decide_eq_false h.1.1
  have h5 : decide (n = 5) = false := decide_eq_false h.1.2
  have h7 : decide (n = 7) = false := decide_eq_false h.2
  refine called_of_run tbOk 6 ⟨Tryz.func92, rfl, rfl, Nat.le_of_ble_eq_true rfl⟩ ?_
  (conv => whnf)
  (conv => whnf)
  (try simp only [Nat.zero_add, h1, h5, h7])
  repeat ((first | refine V.s1 ?_); (try simp only [Nat.zero_add, h1, h5, h7]))
  exact Fin.of rfl
theorem rpow_c {n : Int} (h : isLt n = true) : Called Tryz.prog 92 [.int .i64 n] (.tup [.ints .i64 (powL n), .bool true]) := by
  unfold isLt at h
  simp only [Bool.or_eq_true, decide_eq_true_eq] at h
  rcases h with (e | e) | e
  all_goals subst e
  · exact rpow1
  · exact rpow5
  · exact rpow7
theorem zrcmp {a b : Nat} {p q : Rat} (h : Fq a p) (g : Fq b q) (ha : 0 < a ∧ a ≤ 600) (hb : 0 < b ∧ b ≤ 600) : Called Tryz.prog 82 [frT p, frT q] (.tup [.int .i64 (ordQ p q), .int .i64 0]) := by
  obtain ⟨o1, e1⟩ := okP_dec (h.ok ha.1 ha.2)
  obtain ⟨o2, e2⟩ := okP_dec (g.ok hb.1 hb.2)
  have r1 := right02_c _ _ (okP_len o1).1 (okP_len o1).2
  have r2 := right02_c _ _ (okP_len o2).1 (okP_len o2).2
  rw [o1] at r1
  rw [o2] at r2
  have i1 := in02_c _ _ o1
  have i2 := in02_c _ _ o2
  rw [e1] at i1
  rw [e2] at i2
  have q1 := q4_qv o1
  have q2 := q4_qv o2
  rw [e1] at q1
  rw [e2] at q2
  have od := order02_c p q (q1.mono (by omega)) (q2.mono (by omega))
  unfold frT
  generalize ordQ p q = w at *
  refine called_of_run tbOk 6 ⟨Tryz.func82, rfl, rfl, Nat.le_of_ble_eq_true rfl⟩ ?_
  (conv => whnf)
  refine V.st ?_
  repeat ((try ((with_reducible refine .ext ?_); (conv => whnf))); (with_reducible refine call_intro (r := ?_) ?_ ?_); rotate_left; (focus (first | exact (r1) | exact (r2))); (conv => whnf); refine V.st ?_)
  refine ⟨(.take 0 (.take 2 (.ev (.cons 1 [2] (.ev (.cons 3 [] (.ev (.cons 4 [] (.take 5 (.take 6 (.done))) (.nil))) (.nil))) (.nil))))), [], ⟨by kernel_rfl, by kernel_rfl, by kernel_rfl, by kernel_rfl⟩, .go (drawD_one ?_)⟩
  (conv => whnf)
  refine V.st ?_
  repeat ((try ((with_reducible refine .ext ?_); (conv => whnf))); (with_reducible refine call_intro (r := ?_) ?_ ?_); rotate_left; (focus (first | exact (i1) | exact (i2) | exact (od))); (conv => whnf); refine V.st ?_)
  exact Fin.of rfl
theorem ysignr {n : Nat} {q : Rat} (h : Fq n q) (h0 : 0 < n ∧ n ≤ 600) : Called Tryz.prog 83 [frT q] (.int .i64 q.num.sign) := by
  obtain ⟨h1, e1⟩ := okP_dec (h.ok h0.1 h0.2)
  have r1 := right02_c _ _ (okP_len h1).1 (okP_len h1).2
  rw [h1] at r1
  have i1 := in02_c _ _ h1
  rw [e1] at i1
  have q1 := q4_qv h1
  rw [e1] at q1
  have qk := quick_c 0 1 (by simp [InR, V.lo, V.hi]) (by simp [InR, V.lo, V.hi]) (by omega)
  have od := order02_c q (Rat.divInt 0 1) (q1.mono (by omega)) (Q4.of (k := 40000000) (Sm.mono (k := 1) (Sm.lit (by decide)) (by omega)) (Sm.mono (k := 1) (Sm.lit (by decide)) (by omega)) (by omega))
  rw [y_ord0] at od
  unfold frT
  generalize q.num.sign = w at *
  have sg : Called Tryz.prog 126 [.agg [.str (decZ q.num), .str (dec q.den)]] (.tup [.int .i64 w, .int .i64 0]) := by
    refine called_of_run tbOk 6 ⟨Tryz.func126, rfl, rfl, Nat.le_of_ble_eq_true rfl⟩ ?_
    (conv => whnf)
    refine V.st ?_
    repeat ((try ((with_reducible refine .ext ?_); (conv => whnf))); (with_reducible refine call_intro (r := ?_) ?_ ?_); rotate_left; (focus (first | exact (r1))); (conv => whnf); refine V.st ?_)
    (conv => whnf)
    refine V.st ?_
    repeat ((try ((with_reducible refine .ext ?_); (conv => whnf))); (with_reducible refine call_intro (r := ?_) ?_ ?_); rotate_left; (focus (first | exact (i1) | exact (qk) | exact (od))); (conv => whnf); refine V.st ?_)
    exact Fin.of rfl
  refine called_of_run tbOk 6 ⟨Tryz.func83, rfl, rfl, Nat.le_of_ble_eq_true rfl⟩ ?_
  (conv => whnf)
  refine V.st ?_
  repeat ((try ((with_reducible refine .ext ?_); (conv => whnf))); (with_reducible refine call_intro (r := ?_) ?_ ?_); rotate_left; (focus (first | exact (sg))); (conv => whnf); refine V.st ?_)
  exact Fin.of rfl
def rfE (x : Tx) : Int := if okX x then (if outX x 2 then 2 else 0) else 20
theorem refl_t (a b c d : List UInt8) (g w : Int) (e : Bool) (ck : Called Tryz.prog 39 [.agg [.str a, .str b]] (.int .i64 0)) (o : Called Tryz.prog 33 [.int .i64 2, .int .i64 1] (.agg [.str c, .str d]))
    (cm : Called Tryz.prog 82 [.agg [.str a, .str b], .agg [.str c, .str d]] (.tup [.int .i64 w, .int .i64 0])) (s : Called Tryz.prog 83 [.agg [.str a, .str b]] (.int .i64 g)) (he : (decide (g < 0) || decide (w > 0)) = e) :
    Called Tryz.prog 40 [.agg [.str a, .str b]] (.int .i64 (if e then 2 else 0)) := by
  refine called_of_run tbOk 6 ⟨Tryz.func40, rfl, rfl, Nat.le_of_ble_eq_true rfl⟩ ?_
  (conv => whnf)
  (conv => whnf)
  (try simp only [Nat.zero_add])
  repeat ((first | refine V.s1 ?_ | ((try ((with_reducible refine .ext ?_); (conv => whnf); (try simp only [Nat.zero_add]))); (with_reducible refine call_intro (r := ?_) ?_ ?_); rotate_left; (focus (first | exact (ck))); (conv => whnf))); (try simp only [Nat.zero_add]))
  refine ⟨(.take 0 (.ev (.cons 1 [0] (.ev (.cons 2 [] (.take 3 (.take 4 (.take 5 (.take 6 (.take 7 (.done)))))) (.nil))) (.nil)))), [], ⟨by kernel_rfl, by kernel_rfl, by kernel_rfl, by kernel_rfl⟩, ?_⟩
  refine drw_meet [(4, .int .i64 w)] [] ?_ ?_
  · (conv => whnf); (try simp only [Nat.zero_add])
    repeat' (first | exact V.wk | ((with_reducible refine And.intro ?_ draw_nil); (conv => whnf); (try simp only [Nat.zero_add])) | ((with_reducible first | refine draw_split ?_ ?_ | refine nds_split ?_ ?_) <;> (conv => whnf); (try simp only [Nat.zero_add])) | ((first | refine V.s1 ?_ | ((with_reducible refine recheck_and ?_ ?_); (focus ((conv => whnf); (try simp only [Nat.zero_add]); (repeat ((first | refine V.s1 ?_); (try simp only [Nat.zero_add]))); exact ⟨rfl⟩)); (conv => whnf)) | ((try ((with_reducible refine .ext ?_); (conv => whnf); (try simp only [Nat.zero_add]))); (with_reducible refine call_intro (r := ?_) ?_ ?_); rotate_left; (focus (first | exact (o) | exact (cm))); (conv => whnf))); (try simp only [Nat.zero_add])) | (refine And.intro ?_ ?_ <;> (conv => whnf); (try simp only [Nat.zero_add])))
  (conv => whnf)
  (try simp only [Nat.zero_add])
  repeat ((first | refine V.s1 ?_ | ((try ((with_reducible refine .ext ?_); (conv => whnf); (try simp only [Nat.zero_add]))); (with_reducible refine call_intro (r := ?_) ?_ ?_); rotate_left; (focus (first | exact (s))); (conv => whnf))); (try simp only [Nat.zero_add]))
  refine Cnd.split (CondB.mk (fun hq => ?_) (fun hq => ?_))
  · have : e = true := by rw [← he]; exact hq
    subst this
    (conv => whnf)
    (try simp only [Nat.zero_add])
    repeat ((first | refine V.s1 ?_); (try simp only [Nat.zero_add]))
    exact Fin.of rfl
  · have : e = false := by rw [← he]; exact hq
    subst this
    (conv => whnf)
    (try simp only [Nat.zero_add])
    repeat ((first | refine V.s1 ?_); (try simp only [Nat.zero_add]))
    exact Fin.of rfl
theorem refl_no (a b : List UInt8) (ck : Called Tryz.prog 39 [.agg [.str a, .str b]] (.int .i64 20)) : Called Tryz.prog 40 [.agg [.str a, .str b]] (.int .i64 20) := by
  refine called_of_run tbOk 6 ⟨Tryz.func40, rfl, rfl, Nat.le_of_ble_eq_true rfl⟩ ?_
  (conv => whnf)
  (conv => whnf)
  (try simp only [Nat.zero_add])
  repeat ((first | refine V.s1 ?_ | ((try ((with_reducible refine .ext ?_); (conv => whnf); (try simp only [Nat.zero_add]))); (with_reducible refine call_intro (r := ?_) ?_ ?_); rotate_left; (focus (first | exact (ck))); (conv => whnf))); (try simp only [Nat.zero_add]))
  exact Fin.of rfl
theorem refl_c {x : Tx} (b : BdX 20 x) : Called Tryz.prog 40 [.agg [.str x.1, .str x.2]] (.int .i64 (rfE x)) := by
  have ck := rcheck_c _ _ b.1.1 b.1.2
  change Called Tryz.prog _ _ (.int .i64 (if okX x then 0 else 20)) at ck
  unfold rfE
  cases h : okX x with
  | false =>
    rw [h] at ck
    exact refl_no _ _ ck
  | true =>
    rw [h] at ck
    have q := b.2 h
    have k0 : 0 < 20 ∧ 20 ≤ 600 := by omega
    have e := txD_q h
    unfold txD at e
    have o := y_23of (n := 2) (m := 1) (by omega) (by omega)
    have fm : Fq 5 (Rat.divInt 2 1) := fq_divInt (n := 5) (x := 2) (d := 1) (by omega) (by omega) (by decide)
    have c := zrcmp q fm k0 (by omega)
    have s := ysignr q k0
    rw [← e] at c s
    unfold frT at o c
    have hsn : decide ((qX x).num.sign < 0) = decide ((qX x).num < 0) := decide_eq_decide.2 (by rw [y_slt])
    refine refl_t _ _ _ _ _ _ _ ck o c s ?_
    rw [y_gt, hsn]
    unfold outX
    rw [show Rat.divInt 2 1 = 2 by rw [divInt_one]; rfl]
theorem r26_bad {f : Nat → Tx} (bf : BdS 20 f) (hi : ∃ k, k < 16 ∧ okX (f k) = false) : Called Tryz.prog 13 [.agg (spL f)] (.int .i64 20) := by
  refine called_of_run tbOk 6 ⟨Tryz.func13, rfl, rfl, Nat.le_of_ble_eq_true rfl⟩ ?_
  (conv => whnf)
  (conv => whnf)
  (try simp only [Nat.zero_add])
  repeat ((first | refine V.s1 ?_); (try simp only [Nat.zero_add]))
  refine lp_any (0) (fun k => k ≤ 16 ∧ ∀ i, i < k → okX (f i) = true) (fun k => 16 - k) (fun k => [(3, .int .i64 k)]) (fun k => []) ?_ ?_ ?_
  · exact V.wk
  · exact ⟨Nat.zero_le _, fun i hi => by omega⟩
  intro k hk
  obtain ⟨hk, hb⟩ := hk
  (conv => whnf)
  (try simp only [Nat.zero_add])
  repeat ((first | refine V.s1 ?_); (try simp only [Nat.zero_add]))
  refine Cnd.split (CondB.mk (fun hq => ?_) (fun hq => ?_))
  · have hk2 : k < 16 := by simp at hq; omega
    have c := rcheck_c _ _ (bf k).1.1 (bf k).1.2
    change Called Tryz.prog _ _ (.int .i64 (if okX (f k) then 0 else 20)) at c
    cases h : okX (f k) with
    | false =>
      rw [h] at c
      (conv => whnf)
      (try simp only [zY44_0])
      repeat ((first | refine V.s1 ?_ | ((try ((with_reducible refine .ext ?_); (conv => whnf); (try simp only [zY44_0]))); (with_reducible refine call_intro (r := ?_) ?_ ?_); rotate_left; (focus (first | exact (c))); (conv => whnf)) | ((refine sp_at hk2 ?_); (conv => whnf))); (try simp only [zY44_0]))
      exact Fin.of rfl
    | true =>
      rw [h] at c
      (conv => whnf)
      (try simp only [zY44_0])
      repeat ((first | refine V.s1 ?_ | ((try ((with_reducible refine .ext ?_); (conv => whnf); (try simp only [zY44_0]))); (with_reducible refine call_intro (r := ?_) ?_ ?_); rotate_left; (focus (first | exact (c))); (conv => whnf)) | ((refine sp_at hk2 ?_); (conv => whnf))); (try simp only [zY44_0]))
      refine ⟨k + 1, ⟨by omega, fun i hi => ?_⟩, by omega, V.wk⟩
      by_cases e : i = k
      · subst e; exact h
      · exact hb i (by omega)
  · exfalso
    have hk2 : k = 16 := by simp at hq; omega
    subst hk2
    obtain ⟨i, h1, h2⟩ := hi
    rw [hb i h1] at h2
    cases h2
theorem r26_ok {f : Nat → Tx} (bf : BdS 20 f) (hf : ∀ k, k < 16 → okX (f k) = true) (hi : ∀ k, k < 16 → outX (f k) 2 = false) : Called Tryz.prog 13 [.agg (spL f)] (.int .i64 0) := by
  refine called_of_run tbOk 6 ⟨Tryz.func13, rfl, rfl, Nat.le_of_ble_eq_true rfl⟩ ?_
  (conv => whnf)
  (conv => whnf)
  (try simp only [Nat.zero_add])
  repeat ((first | refine V.s1 ?_); (try simp only [Nat.zero_add]))
  refine lp_any (0) (fun k => k ≤ 16) (fun k => 16 - k) (fun k => [(3, .int .i64 k)]) (fun k => []) ?_ ?_ ?_
  · exact V.wk
  · exact Nat.zero_le _
  intro k hk
  (conv => whnf)
  (try simp only [Nat.zero_add])
  repeat ((first | refine V.s1 ?_); (try simp only [Nat.zero_add]))
  refine Cnd.split (CondB.mk (fun hq => ?_) (fun hq => ?_))
  · have hk2 : k < 16 := by simp at hq; omega
    have c := rcheck_c _ _ (bf k).1.1 (bf k).1.2
    change Called Tryz.prog _ _ (.int .i64 (if okX (f k) then 0 else 20)) at c
    rw [hf k hk2] at c
    (conv => whnf)
    (try simp only [zY44_0])
    repeat ((first | refine V.s1 ?_ | ((try ((with_reducible refine .ext ?_); (conv => whnf); (try simp only [zY44_0]))); (with_reducible refine call_intro (r := ?_) ?_ ?_); rotate_left; (focus (first | exact (c))); (conv => whnf)) | ((refine sp_at hk2 ?_); (conv => whnf))); (try simp only [zY44_0]))
    exact ⟨(k + 1), by omega, by omega, V.wk⟩
  have hk2 : k = 16 := by simp at hq; omega
  subst hk2
  (conv => whnf)
  (try simp only [Nat.zero_add])
  repeat ((first | refine V.s1 ?_); (try simp only [Nat.zero_add]))
  refine lp_any (0) (fun k => k ≤ 16) (fun k => 16 - k) (fun k => [(5, .int .i64 k)]) (fun k => []) ?_ ?_ ?_
  · exact V.wk
  · exact Nat.zero_le _
  intro k hk
  (conv => whnf)
  (try simp only [Nat.zero_add])
  repeat ((first | refine V.s1 ?_); (try simp only [Nat.zero_add]))
  refine Cnd.split (CondB.mk (fun hq => ?_) (fun hq => ?_))
  · have hk2 : k < 16 := by simp at hq; omega
    have c := refl_c (bf k)
    unfold rfE at c
    rw [hf k hk2, hi k hk2] at c
    (conv => whnf)
    (try simp only [zY44_0])
    repeat ((first | refine V.s1 ?_ | ((try ((with_reducible refine .ext ?_); (conv => whnf); (try simp only [zY44_0]))); (with_reducible refine call_intro (r := ?_) ?_ ?_); rotate_left; (focus (first | exact (c))); (conv => whnf)) | ((refine sp_at hk2 ?_); (conv => whnf))); (try simp only [zY44_0]))
    exact ⟨(k + 1), by omega, by omega, V.wk⟩
  · have hk2 : k = 16 := by simp at hq; omega
    subst hk2
    (conv => whnf)
    (try simp only [Nat.zero_add])
    repeat ((first | refine V.s1 ?_); (try simp only [Nat.zero_add]))
    exact Fin.of rfl
theorem r26_out {f : Nat → Tx} (bf : BdS 20 f) (hf : ∀ k, k < 16 → okX (f k) = true) (hi : ∃ k, k < 16 ∧ outX (f k) 2 = true) : Called Tryz.prog 13 [.agg (spL f)] (.int .i64 2) := by
  refine called_of_run tbOk 6 ⟨Tryz.func13, rfl, rfl, Nat.le_of_ble_eq_true rfl⟩ ?_
  (conv => whnf)
  (conv => whnf)
  (try simp only [Nat.zero_add])
  repeat ((first | refine V.s1 ?_); (try simp only [Nat.zero_add]))
  refine lp_any (0) (fun k => k ≤ 16) (fun k => 16 - k) (fun k => [(3, .int .i64 k)]) (fun k => []) ?_ ?_ ?_
  · exact V.wk
  · exact Nat.zero_le _
  intro k hk
  (conv => whnf)
  (try simp only [Nat.zero_add])
  repeat ((first | refine V.s1 ?_); (try simp only [Nat.zero_add]))
  refine Cnd.split (CondB.mk (fun hq => ?_) (fun hq => ?_))
  · have hk2 : k < 16 := by simp at hq; omega
    have c := rcheck_c _ _ (bf k).1.1 (bf k).1.2
    change Called Tryz.prog _ _ (.int .i64 (if okX (f k) then 0 else 20)) at c
    rw [hf k hk2] at c
    (conv => whnf)
    (try simp only [zY44_0])
    repeat ((first | refine V.s1 ?_ | ((try ((with_reducible refine .ext ?_); (conv => whnf); (try simp only [zY44_0]))); (with_reducible refine call_intro (r := ?_) ?_ ?_); rotate_left; (focus (first | exact (c))); (conv => whnf)) | ((refine sp_at hk2 ?_); (conv => whnf))); (try simp only [zY44_0]))
    exact ⟨(k + 1), by omega, by omega, V.wk⟩
  have hk2 : k = 16 := by simp at hq; omega
  subst hk2
  (conv => whnf)
  (try simp only [Nat.zero_add])
  repeat ((first | refine V.s1 ?_); (try simp only [Nat.zero_add]))
  refine lp_any (0) (fun k => k ≤ 16 ∧ ∀ i, i < k → outX (f i) 2 = false) (fun k => 16 - k) (fun k => [(5, .int .i64 k)]) (fun k => []) ?_ ?_ ?_
  · exact V.wk
  · exact ⟨Nat.zero_le _, fun i hi => by omega⟩
  intro k hk
  obtain ⟨hk, hb⟩ := hk
  (conv => whnf)
  (try simp only [Nat.zero_add])
  repeat ((first | refine V.s1 ?_); (try simp only [Nat.zero_add]))
  refine Cnd.split (CondB.mk (fun hq => ?_) (fun hq => ?_))
  · have hk2 : k < 16 := by simp at hq; omega
    have c := refl_c (bf k)
    unfold rfE at c
    rw [hf k hk2] at c
    cases h : outX (f k) 2 with
    | true =>
      rw [h] at c
      (conv => whnf)
      (try simp only [zY44_0])
      repeat ((first | refine V.s1 ?_ | ((try ((with_reducible refine .ext ?_); (conv => whnf); (try simp only [zY44_0]))); (with_reducible refine call_intro (r := ?_) ?_ ?_); rotate_left; (focus (first | exact (c))); (conv => whnf)) | ((refine sp_at hk2 ?_); (conv => whnf))); (try simp only [zY44_0]))
      exact Fin.of rfl
    | false =>
      rw [h] at c
      (conv => whnf)
      (try simp only [zY44_0])
      repeat ((first | refine V.s1 ?_ | ((try ((with_reducible refine .ext ?_); (conv => whnf); (try simp only [zY44_0]))); (with_reducible refine call_intro (r := ?_) ?_ ?_); rotate_left; (focus (first | exact (c))); (conv => whnf)) | ((refine sp_at hk2 ?_); (conv => whnf))); (try simp only [zY44_0]))
      refine ⟨k + 1, ⟨by omega, fun i hi => ?_⟩, by omega, V.wk⟩
      by_cases e : i = k
      · subst e; exact h
      · exact hb i (by omega)
  · exfalso
    have hk2 : k = 16 := by simp at hq; omega
    subst hk2
    obtain ⟨i, h1, h2⟩ := hi
    rw [hb i h1] at h2
    cases h2
theorem rf_iff {f : Nat → Tx} {p : Nat → Bool} (h : ¬ ∀ k, k < 16 → p k = true) : ∃ k, k < 16 ∧ p k = false := by
  refine Classical.byContradiction fun hn => h fun k hk => ?_
  cases e : p k with
  | true => rfl
  | false => exact absurd ⟨k, hk, e⟩ hn
theorem r26_c {f : Nat → Tx} (bf : BdS 20 f) : Called Tryz.prog 13 [.agg (spL f)] (.int .i64 (chkS f)) := by
  by_cases h : ∀ k, k < 16 → okX (f k) = true
  · by_cases g : ∀ k, k < 16 → (!outX (f k) 2) = true
    · have e : chkS f = 0 := by
        unfold chkS
        rw [okS_all h, inS_all fun k hk => by have := g k hk; simpa using this]
        rfl
      rw [e]
      exact r26_ok bf h fun k hk => by have := g k hk; simpa using this
    · obtain ⟨k, hk, e1⟩ := rf_iff (f := f) (p := fun k => !outX (f k) 2) g
      have e2 : outX (f k) 2 = true := by simpa using e1
      have e : chkS f = 2 := by
        unfold chkS
        rw [okS_all h, inS_no e2 16 hk]
        rfl
      rw [e]
      exact r26_out bf h ⟨k, hk, e2⟩
  · obtain ⟨k, hk, e1⟩ := rf_iff (f := f) (p := fun k => okX (f k)) h
    have e : chkS f = 20 := by
      unfold chkS
      rw [okS_no e1 16 hk]
      rfl
    rw [e]
    exact r26_bad bf ⟨k, hk, e1⟩
end Go.Proofs.YtpcpgjcdkgcbpaaGreatDoor
end
section
namespace Go.Proofs.YtpcpgjcdkgcbpaaGreatDoor
open Go Go.V Go.Nb
theorem tbl_g (p : List Int) (k : Nat) : p.getD k 0 = tbl p k := rfl
def trS (x0 x1 y0 y1 z0 z1 : List UInt8) : Nat → List D
  | 0 => [.str [], .str [], .str [], .str [], .str [], .str []]
  | 1 => [.str x0, .str x1, .str [], .str [], .str [], .str []]
  | 2 => [.str x0, .str x1, .str y0, .str y1, .str [], .str []]
  | _ => [.str x0, .str x1, .str y0, .str y1, .str z0, .str z1]
def alS (p l : List Int) (k : Nat) : Int := si (wgt p l) k
theorem zY45_0 : type_of% @Int.toNat_natCast ∧ type_of% @Nat.zero_add := ⟨@Int.toNat_natCast, @Nat.zero_add⟩
theorem zY45_1 : type_of% @Int.toNat_natCast ∧ type_of% @Nat.mul_one ∧ type_of% @Nat.zero_add ∧ type_of% @tbl_g := ⟨@Int.toNat_natCast, @Nat.mul_one, @Nat.zero_add, @tbl_g⟩
theorem zY45_2 : type_of% @Int.toNat_natCast ∧ type_of% @Nat.mul_one ∧ type_of% @Nat.zero_add := ⟨@Int.toNat_natCast, @Nat.mul_one, @Nat.zero_add⟩
theorem zY45_3 : type_of% @Nat.zero_add ∧ type_of% @tn0 ∧ type_of% @tn1 ∧ type_of% @tn2 := ⟨@Nat.zero_add, @tn0, @tn1, @tn2⟩
theorem rxyz_t (n : Int) (p lx ly lz : List Int) (hp : p.length = 16) (hx : lx.length = 16) (hy : ly.length = 16) (hz : lz.length = 16) (f Tx0 Tx1 Tx2 Wx0 Wx1 Wx2 Mx0 Mx1 Mx2 : Nat → Tx) (t0 t1 q0 q1 x0 x1 y0 y1 z0 z1 : List UInt8)
    (ck : Called Tryz.prog 13 [.agg (spL f)] (.int .i64 0)) (pw : Called Tryz.prog 92 [.int .i64 n] (.tup [.ints .i64 p, .bool true]))
    (o0 : Called Tryz.prog 93 [.int .i64 0] (.ints .i64 lx))    (o1 : Called Tryz.prog 93 [.int .i64 1] (.ints .i64 ly))    (o2 : Called Tryz.prog 93 [.int .i64 2] (.ints .i64 lz))
    (oz : Called Tryz.prog 33 [.int .i64 0, .int .i64 1] (.agg [.str t0, .str t1])) (ok : Called Tryz.prog 33 [.int .i64 (alS p ly 16), .int .i64 1] (.agg [.str q0, .str q1]))
    (hb : ∀ k, k < 16 → InR .i64 (tbl p k * tbl ly k) ∧ InR .i64 (alS p ly k + tbl p k * tbl ly k))
    (hTx0 : Tx0 0 = (t0, t1)) (w0 : ∀ k, k < 16 → InR .i64 (tbl p k * tbl lx k)) (cw0 : ∀ k, k < 16 → Called Tryz.prog 33 [.int .i64 (tbl p k * tbl lx k), .int .i64 1] (.agg [.str (Wx0 k).1, .str (Wx0 k).2]))
    (cm0 : ∀ k, k < 16 → Called Tryz.prog 133 [.agg [.str (Wx0 k).1, .str (Wx0 k).2], .agg [.str (f k).1, .str (f k).2]] (.tup [.agg [.str (Mx0 k).1, .str (Mx0 k).2], .int .i64 0]))
    (ca0 : ∀ k, k < 16 → Called Tryz.prog 131 [.agg [.str (Tx0 k).1, .str (Tx0 k).2], .agg [.str (Mx0 k).1, .str (Mx0 k).2]] (.tup [.agg [.str (Tx0 (k + 1)).1, .str (Tx0 (k + 1)).2], .int .i64 0]))
    (cd0 : Called Tryz.prog 134 [.agg [.str (Tx0 16).1, .str (Tx0 16).2], .agg [.str q0, .str q1]] (.tup [.agg [.str x0, .str x1], .int .i64 0]))
    (hTx1 : Tx1 0 = (t0, t1)) (w1 : ∀ k, k < 16 → InR .i64 (tbl p k * tbl ly k)) (cw1 : ∀ k, k < 16 → Called Tryz.prog 33 [.int .i64 (tbl p k * tbl ly k), .int .i64 1] (.agg [.str (Wx1 k).1, .str (Wx1 k).2]))
    (cm1 : ∀ k, k < 16 → Called Tryz.prog 133 [.agg [.str (Wx1 k).1, .str (Wx1 k).2], .agg [.str (f k).1, .str (f k).2]] (.tup [.agg [.str (Mx1 k).1, .str (Mx1 k).2], .int .i64 0]))
    (ca1 : ∀ k, k < 16 → Called Tryz.prog 131 [.agg [.str (Tx1 k).1, .str (Tx1 k).2], .agg [.str (Mx1 k).1, .str (Mx1 k).2]] (.tup [.agg [.str (Tx1 (k + 1)).1, .str (Tx1 (k + 1)).2], .int .i64 0]))
    (cd1 : Called Tryz.prog 134 [.agg [.str (Tx1 16).1, .str (Tx1 16).2], .agg [.str q0, .str q1]] (.tup [.agg [.str y0, .str y1], .int .i64 0]))
    (hTx2 : Tx2 0 = (t0, t1)) (w2 : ∀ k, k < 16 → InR .i64 (tbl p k * tbl lz k)) (cw2 : ∀ k, k < 16 → Called Tryz.prog 33 [.int .i64 (tbl p k * tbl lz k), .int .i64 1] (.agg [.str (Wx2 k).1, .str (Wx2 k).2]))
    (cm2 : ∀ k, k < 16 → Called Tryz.prog 133 [.agg [.str (Wx2 k).1, .str (Wx2 k).2], .agg [.str (f k).1, .str (f k).2]] (.tup [.agg [.str (Mx2 k).1, .str (Mx2 k).2], .int .i64 0]))
    (ca2 : ∀ k, k < 16 → Called Tryz.prog 131 [.agg [.str (Tx2 k).1, .str (Tx2 k).2], .agg [.str (Mx2 k).1, .str (Mx2 k).2]] (.tup [.agg [.str (Tx2 (k + 1)).1, .str (Tx2 (k + 1)).2], .int .i64 0]))
    (cd2 : Called Tryz.prog 134 [.agg [.str (Tx2 16).1, .str (Tx2 16).2], .agg [.str q0, .str q1]] (.tup [.agg [.str z0, .str z1], .int .i64 0])) :
    Called Tryz.prog 49 [.agg (spL f), .int .i64 n] (.tup [.agg [.str x0, .str x1, .str y0, .str y1, .str z0, .str z1], .int .i64 0]) := by
  refine called_of_run tbOk 6 ⟨Tryz.func49, rfl, rfl, Nat.le_of_ble_eq_true rfl⟩ ?_
  (conv => whnf)
  (conv => whnf)
  (try simp only [Nat.zero_add])
  repeat ((first | refine V.s1 ?_ | ((try ((with_reducible refine .ext ?_); (conv => whnf); (try simp only [Nat.zero_add]))); (with_reducible refine call_intro (r := ?_) ?_ ?_); rotate_left; (focus (first | exact (ck) | exact (pw) | exact (o1))); (conv => whnf))); (try simp only [Nat.zero_add]))
  refine lp_any (0) (fun k => k ≤ 16) (fun k => 16 - k) (fun k => [(11, .int .i64 k), (9, .int .i64 (alS p ly k))]) (fun k => []) ?_ ?_ ?_
  · exact V.wk
  · exact Nat.zero_le _
  intro k hk
  (conv => whnf)
  (try simp only [Nat.zero_add])
  repeat ((first | refine V.s1 ?_); (try simp only [Nat.zero_add]))
  refine Cnd.split (CondB.mk (fun hq => ?_) (fun hq => ?_))
  · have hk2 : k < 16 := by simp at hq; omega
    have h1 := hb k hk2
    have i1 := h1.1
    have i2 := h1.2
    have i3 : (k : Int) < p.length := by omega
    have i4 : (k : Int) < ly.length := by omega
    clear h1 hb w0 cw0 cm0 ca0 w1 cw1 cm1 ca1 w2 cw2 cm2 ca2
    (conv => whnf)
    (try simp only [zY45_0])
    repeat ((first | refine V.s1 ?_); (try simp only [zY45_0]))
    refine ⟨(.take 0 (.take 1 (.take 2 (.take 3 (.take 4 (.take 5 (.take 6 (.take 7 (.take 8 (.take 9 (.take 10 (.ev (.cons 11 [] (.done) (.nil)))))))))))))), [], ⟨by kernel_rfl, by kernel_rfl, by kernel_rfl, by kernel_rfl⟩, ?_⟩
    refine drw_meet [(9, .int .i64 (alS p ly (k + 1)))] [] ?_ ?_
    · (conv => whnf); (try simp only [zY45_1])
      repeat' (first | exact V.wk | ((with_reducible refine And.intro ?_ draw_nil); (conv => whnf); (try simp only [zY45_1])) | ((with_reducible first | refine draw_split ?_ ?_ | refine nds_split ?_ ?_) <;> (conv => whnf); (try simp only [zY45_1])) | ((first | refine V.s1 ?_ | ((with_reducible refine recheck_and ?_ ?_); (focus ((conv => whnf); (try simp only [zY45_1]); (repeat ((first | refine V.s1 ?_); (try simp only [zY45_1]))); exact ⟨rfl⟩)); (conv => whnf))); (try simp only [zY45_1])) | (refine And.intro ?_ ?_ <;> (conv => whnf); (try simp only [zY45_1])))
    (conv => whnf)
    (try simp only [Nat.zero_add])
    repeat ((first | refine V.s1 ?_); (try simp only [Nat.zero_add]))
    exact ⟨(k + 1), by omega, by omega, V.wk⟩
  clear hb
  have hk2 : k = 16 := by simp at hq; omega
  subst hk2
  (conv => whnf)
  (try simp only [Nat.zero_add])
  repeat ((first | refine V.s1 ?_); (try simp only [Nat.zero_add]))
  refine lp_any (0) (fun k => k ≤ 3) (fun k => 3 - k) (fun k => [(14, .int .i64 k)]) (fun k => [(13, .box (trS x0 x1 y0 y1 z0 z1 k)), (12, .box [.int .i64 0])]) ?_ ?_ ?_
  · exact V.wk
  · exact Nat.zero_le _
  clear hk hq
  intro k hk
  have hk4 : k = 0 ∨ k = 1 ∨ k = 2 ∨ k = 3 := by omega
  rcases hk4 with e | e | e | e
  all_goals subst e
  · simp only [k0, trS]
    (conv => whnf)
    (try simp only [zY45_0])
    repeat ((first | refine V.s1 ?_ | ((try ((with_reducible refine .ext ?_); (conv => whnf); (try simp only [zY45_0]))); (with_reducible refine call_intro (r := ?_) ?_ ?_); rotate_left; (focus (first | exact (o0) | exact (oz))); (conv => whnf))); (try simp only [zY45_0]))
    refine lp_any (0) (fun k => k ≤ 16) (fun k => 16 - k) (fun k => [(17, .int .i64 k)]) (fun k => [(16, .box [.str (Tx0 k).1, .str (Tx0 k).2]), (12, .box [.int .i64 0])]) ?_ ?_ ?_
    · rw [hTx0]
      exact V.wk
    · exact Nat.zero_le _
    intro k hk
    (conv => whnf)
    (try simp only [Nat.zero_add])
    repeat ((first | refine V.s1 ?_); (try simp only [Nat.zero_add]))
    refine Cnd.split (CondB.mk (fun hq => ?_) (fun hq => ?_))
    · have hk2 : k < 16 := by simp at hq; omega
      have hwk := w0 k hk2
      have cwk := cw0 k hk2
      have cmk := cm0 k hk2
      have cak := ca0 k hk2
      have i3 : (k : Int) < p.length := by omega
      have i4 : (k : Int) < lx.length := by omega
      have hz1 : 0 ≤ (k : Int) := by omega
      clear w0 cw0 cm0 ca0 w1 cw1 cm1 ca1 w2 cw2 cm2 ca2
      (conv => whnf)
      (try simp only [zY45_2])
      repeat ((first | refine V.s1 ?_); (try simp only [zY45_2]))
      refine ⟨(.take 0 (.take 1 (.take 2 (.take 3 (.take 4 (.take 5 (.take 6 (.take 7 (.take 8 (.take 9 (.take 11 (.take 12 (.take 13 (.ev (.cons 10 [13, 12, 11, 0] (.ev (.cons 14 [0] (.ev (.cons 15 [] (.ev (.cons 16 [] (.done) (.nil))) (.nil))) (.nil))) (.nil)))))))))))))))), [], ⟨by kernel_rfl, by kernel_rfl, by kernel_rfl, by kernel_rfl⟩, ?_⟩
      refine drw_meet [] [(16, .box [.str (Tx0 (k + 1)).1, .str (Tx0 (k + 1)).2]), (12, .box [.int .i64 0])] ?_ ?_
      · (conv => whnf); (try simp only [zY45_1])
        repeat' (first | exact V.wk | ((with_reducible refine And.intro ?_ draw_nil); (conv => whnf); (try simp only [zY45_1])) | ((with_reducible first | refine draw_split ?_ ?_ | refine nds_split ?_ ?_) <;> (conv => whnf); (try simp only [zY45_1])) | ((first | refine V.s1 ?_ | ((with_reducible refine recheck_and ?_ ?_); (focus ((conv => whnf); (try simp only [zY45_1]); (repeat ((first | refine V.s1 ?_ | ((refine sp_at hk2 ?_); (conv => whnf))); (try simp only [zY45_1]))); exact ⟨rfl⟩)); (conv => whnf)) | ((try ((with_reducible refine .ext ?_); (conv => whnf); (try simp only [zY45_1]))); (with_reducible refine call_intro (r := ?_) ?_ ?_); rotate_left; (focus (first | exact (cwk) | exact (cmk) | exact (cak))); (conv => whnf)) | ((with_reducible refine .inl ?_); (conv => whnf); (first | refine ⟨0, _, _, ⟨Tryz.func95, rfl, rfl, Nat.le_of_ble_eq_true rfl⟩, ?_⟩ | refine ⟨0, _, _, ⟨Tryz.func94, rfl, rfl, Nat.le_of_ble_eq_true rfl⟩, ?_⟩ | refine ⟨0, _, _, ⟨Tryz.func132, rfl, rfl, Nat.le_of_ble_eq_true rfl⟩, ?_⟩); (conv => whnf)) | ((refine sp_at hk2 ?_); (conv => whnf))); (try simp only [zY45_1])) | (refine And.intro ?_ ?_ <;> (conv => whnf); (try simp only [zY45_1])))
      (conv => whnf)
      (try simp only [zY45_2])
      repeat ((first | refine V.s1 ?_); (try simp only [zY45_2]))
      exact ⟨(k + 1), by omega, by omega, V.wk⟩
    have hk2 : k = 16 := by simp at hq; omega
    subst hk2
    (conv => whnf)
    (try simp only [Nat.zero_add])
    repeat ((first | refine V.s1 ?_); (try simp only [Nat.zero_add]))
    refine ⟨(.take 0 (.take 1 (.take 2 (.ev (.cons 3 [1, 0] (.ev (.cons 4 [0] (.take 5 (.ev (.cons 6 [] (.done) (.nil)))) (.nil))) (.nil)))))), [], ⟨by kernel_rfl, by kernel_rfl, by kernel_rfl, by kernel_rfl⟩, ?_⟩
    refine drw_meet [] [(13, .box (trS x0 x1 y0 y1 z0 z1 1)), (12, .box [.int .i64 0])] ?_ ?_
    · (conv => whnf); (try simp only [zY45_3])
      repeat' (first | exact V.wk | ((with_reducible refine And.intro ?_ draw_nil); (conv => whnf); (try simp only [zY45_3])) | ((with_reducible first | refine draw_split ?_ ?_ | refine nds_split ?_ ?_) <;> (conv => whnf); (try simp only [zY45_3])) | ((first | refine V.s1 ?_ | ((with_reducible refine recheck_and ?_ ?_); (focus ((conv => whnf); (try simp only [zY45_3]); (repeat ((first | refine V.s1 ?_); (try simp only [zY45_3]))); exact ⟨rfl⟩)); (conv => whnf)) | ((try ((with_reducible refine .ext ?_); (conv => whnf); (try simp only [zY45_3]))); (with_reducible refine call_intro (r := ?_) ?_ ?_); rotate_left; (focus (first | exact (ok) | exact (cd0))); (conv => whnf)) | ((with_reducible refine .inl ?_); (conv => whnf); (first | refine ⟨0, _, _, ⟨Tryz.func96, rfl, rfl, Nat.le_of_ble_eq_true rfl⟩, ?_⟩ | refine ⟨0, _, _, ⟨Tryz.func132, rfl, rfl, Nat.le_of_ble_eq_true rfl⟩, ?_⟩); (conv => whnf))); (try simp only [zY45_3])) | (refine And.intro ?_ ?_ <;> (conv => whnf); (try simp only [zY45_3])))
    (conv => whnf)
    (try simp only [Nat.zero_add])
    repeat ((first | refine V.s1 ?_); (try simp only [Nat.zero_add]))
    exact ⟨1, by omega, by omega, V.wk⟩
  · simp only [k1, trS]
    (conv => whnf)
    (try simp only [zY45_0])
    repeat ((first | refine V.s1 ?_ | ((try ((with_reducible refine .ext ?_); (conv => whnf); (try simp only [zY45_0]))); (with_reducible refine call_intro (r := ?_) ?_ ?_); rotate_left; (focus (first | exact (o1) | exact (oz))); (conv => whnf))); (try simp only [zY45_0]))
    refine lp_any (0) (fun k => k ≤ 16) (fun k => 16 - k) (fun k => [(17, .int .i64 k)]) (fun k => [(16, .box [.str (Tx1 k).1, .str (Tx1 k).2]), (12, .box [.int .i64 0])]) ?_ ?_ ?_
    · rw [hTx1]
      exact V.wk
    · exact Nat.zero_le _
    intro k hk
    (conv => whnf)
    (try simp only [Nat.zero_add])
    repeat ((first | refine V.s1 ?_); (try simp only [Nat.zero_add]))
    refine Cnd.split (CondB.mk (fun hq => ?_) (fun hq => ?_))
    · have hk2 : k < 16 := by simp at hq; omega
      have hwk := w1 k hk2
      have cwk := cw1 k hk2
      have cmk := cm1 k hk2
      have cak := ca1 k hk2
      have i3 : (k : Int) < p.length := by omega
      have i4 : (k : Int) < ly.length := by omega
      have hz1 : 0 ≤ (k : Int) := by omega
      clear w0 cw0 cm0 ca0 w1 cw1 cm1 ca1 w2 cw2 cm2 ca2
      (conv => whnf)
      (try simp only [zY45_2])
      repeat ((first | refine V.s1 ?_); (try simp only [zY45_2]))
      refine ⟨(.take 0 (.take 1 (.take 2 (.take 3 (.take 4 (.take 5 (.take 6 (.take 7 (.take 8 (.take 9 (.take 11 (.take 12 (.take 13 (.ev (.cons 10 [13, 12, 11, 0] (.ev (.cons 14 [0] (.ev (.cons 15 [] (.ev (.cons 16 [] (.done) (.nil))) (.nil))) (.nil))) (.nil)))))))))))))))), [], ⟨by kernel_rfl, by kernel_rfl, by kernel_rfl, by kernel_rfl⟩, ?_⟩
      refine drw_meet [] [(16, .box [.str (Tx1 (k + 1)).1, .str (Tx1 (k + 1)).2]), (12, .box [.int .i64 0])] ?_ ?_
      · (conv => whnf); (try simp only [zY45_1])
        repeat' (first | exact V.wk | ((with_reducible refine And.intro ?_ draw_nil); (conv => whnf); (try simp only [zY45_1])) | ((with_reducible first | refine draw_split ?_ ?_ | refine nds_split ?_ ?_) <;> (conv => whnf); (try simp only [zY45_1])) | ((first | refine V.s1 ?_ | ((with_reducible refine recheck_and ?_ ?_); (focus ((conv => whnf); (try simp only [zY45_1]); (repeat ((first | refine V.s1 ?_ | ((refine sp_at hk2 ?_); (conv => whnf))); (try simp only [zY45_1]))); exact ⟨rfl⟩)); (conv => whnf)) | ((try ((with_reducible refine .ext ?_); (conv => whnf); (try simp only [zY45_1]))); (with_reducible refine call_intro (r := ?_) ?_ ?_); rotate_left; (focus (first | exact (cwk) | exact (cmk) | exact (cak))); (conv => whnf)) | ((with_reducible refine .inl ?_); (conv => whnf); (first | refine ⟨0, _, _, ⟨Tryz.func95, rfl, rfl, Nat.le_of_ble_eq_true rfl⟩, ?_⟩ | refine ⟨0, _, _, ⟨Tryz.func94, rfl, rfl, Nat.le_of_ble_eq_true rfl⟩, ?_⟩ | refine ⟨0, _, _, ⟨Tryz.func132, rfl, rfl, Nat.le_of_ble_eq_true rfl⟩, ?_⟩); (conv => whnf)) | ((refine sp_at hk2 ?_); (conv => whnf))); (try simp only [zY45_1])) | (refine And.intro ?_ ?_ <;> (conv => whnf); (try simp only [zY45_1])))
      (conv => whnf)
      (try simp only [zY45_2])
      repeat ((first | refine V.s1 ?_); (try simp only [zY45_2]))
      exact ⟨(k + 1), by omega, by omega, V.wk⟩
    have hk2 : k = 16 := by simp at hq; omega
    subst hk2
    (conv => whnf)
    (try simp only [Nat.zero_add])
    repeat ((first | refine V.s1 ?_); (try simp only [Nat.zero_add]))
    refine ⟨(.take 0 (.take 1 (.take 2 (.ev (.cons 3 [1, 0] (.ev (.cons 4 [0] (.take 5 (.ev (.cons 6 [] (.done) (.nil)))) (.nil))) (.nil)))))), [], ⟨by kernel_rfl, by kernel_rfl, by kernel_rfl, by kernel_rfl⟩, ?_⟩
    refine drw_meet [] [(13, .box (trS x0 x1 y0 y1 z0 z1 2)), (12, .box [.int .i64 0])] ?_ ?_
    · (conv => whnf); (try simp only [zY45_3])
      repeat' (first | exact V.wk | ((with_reducible refine And.intro ?_ draw_nil); (conv => whnf); (try simp only [zY45_3])) | ((with_reducible first | refine draw_split ?_ ?_ | refine nds_split ?_ ?_) <;> (conv => whnf); (try simp only [zY45_3])) | ((first | refine V.s1 ?_ | ((with_reducible refine recheck_and ?_ ?_); (focus ((conv => whnf); (try simp only [zY45_3]); (repeat ((first | refine V.s1 ?_); (try simp only [zY45_3]))); exact ⟨rfl⟩)); (conv => whnf)) | ((try ((with_reducible refine .ext ?_); (conv => whnf); (try simp only [zY45_3]))); (with_reducible refine call_intro (r := ?_) ?_ ?_); rotate_left; (focus (first | exact (ok) | exact (cd1))); (conv => whnf)) | ((with_reducible refine .inl ?_); (conv => whnf); (first | refine ⟨0, _, _, ⟨Tryz.func96, rfl, rfl, Nat.le_of_ble_eq_true rfl⟩, ?_⟩ | refine ⟨0, _, _, ⟨Tryz.func132, rfl, rfl, Nat.le_of_ble_eq_true rfl⟩, ?_⟩); (conv => whnf))); (try simp only [zY45_3])) | (refine And.intro ?_ ?_ <;> (conv => whnf); (try simp only [zY45_3])))
    (conv => whnf)
    (try simp only [Nat.zero_add])
    repeat ((first | refine V.s1 ?_); (try simp only [Nat.zero_add]))
    exact ⟨2, by omega, by omega, V.wk⟩
  · simp only [k2, trS]
    (conv => whnf)
    (try simp only [zY45_0])
    repeat ((first | refine V.s1 ?_ | ((try ((with_reducible refine .ext ?_); (conv => whnf); (try simp only [zY45_0]))); (with_reducible refine call_intro (r := ?_) ?_ ?_); rotate_left; (focus (first | exact (o2) | exact (oz))); (conv => whnf))); (try simp only [zY45_0]))
    refine lp_any (0) (fun k => k ≤ 16) (fun k => 16 - k) (fun k => [(17, .int .i64 k)]) (fun k => [(16, .box [.str (Tx2 k).1, .str (Tx2 k).2]), (12, .box [.int .i64 0])]) ?_ ?_ ?_
    · rw [hTx2]
      exact V.wk
    · exact Nat.zero_le _
    intro k hk
    (conv => whnf)
    (try simp only [Nat.zero_add])
    repeat ((first | refine V.s1 ?_); (try simp only [Nat.zero_add]))
    refine Cnd.split (CondB.mk (fun hq => ?_) (fun hq => ?_))
    · have hk2 : k < 16 := by simp at hq; omega
      have hwk := w2 k hk2
      have cwk := cw2 k hk2
      have cmk := cm2 k hk2
      have cak := ca2 k hk2
      have i3 : (k : Int) < p.length := by omega
      have i4 : (k : Int) < lz.length := by omega
      have hz1 : 0 ≤ (k : Int) := by omega
      clear w0 cw0 cm0 ca0 w1 cw1 cm1 ca1 w2 cw2 cm2 ca2
      (conv => whnf)
      (try simp only [zY45_2])
      repeat ((first | refine V.s1 ?_); (try simp only [zY45_2]))
      refine ⟨(.take 0 (.take 1 (.take 2 (.take 3 (.take 4 (.take 5 (.take 6 (.take 7 (.take 8 (.take 9 (.take 11 (.take 12 (.take 13 (.ev (.cons 10 [13, 12, 11, 0] (.ev (.cons 14 [0] (.ev (.cons 15 [] (.ev (.cons 16 [] (.done) (.nil))) (.nil))) (.nil))) (.nil)))))))))))))))), [], ⟨by kernel_rfl, by kernel_rfl, by kernel_rfl, by kernel_rfl⟩, ?_⟩
      refine drw_meet [] [(16, .box [.str (Tx2 (k + 1)).1, .str (Tx2 (k + 1)).2]), (12, .box [.int .i64 0])] ?_ ?_
      · (conv => whnf); (try simp only [zY45_1])
        repeat' (first | exact V.wk | ((with_reducible refine And.intro ?_ draw_nil); (conv => whnf); (try simp only [zY45_1])) | ((with_reducible first | refine draw_split ?_ ?_ | refine nds_split ?_ ?_) <;> (conv => whnf); (try simp only [zY45_1])) | ((first | refine V.s1 ?_ | ((with_reducible refine recheck_and ?_ ?_); (focus ((conv => whnf); (try simp only [zY45_1]); (repeat ((first | refine V.s1 ?_ | ((refine sp_at hk2 ?_); (conv => whnf))); (try simp only [zY45_1]))); exact ⟨rfl⟩)); (conv => whnf)) | ((try ((with_reducible refine .ext ?_); (conv => whnf); (try simp only [zY45_1]))); (with_reducible refine call_intro (r := ?_) ?_ ?_); rotate_left; (focus (first | exact (cwk) | exact (cmk) | exact (cak))); (conv => whnf)) | ((with_reducible refine .inl ?_); (conv => whnf); (first | refine ⟨0, _, _, ⟨Tryz.func95, rfl, rfl, Nat.le_of_ble_eq_true rfl⟩, ?_⟩ | refine ⟨0, _, _, ⟨Tryz.func94, rfl, rfl, Nat.le_of_ble_eq_true rfl⟩, ?_⟩ | refine ⟨0, _, _, ⟨Tryz.func132, rfl, rfl, Nat.le_of_ble_eq_true rfl⟩, ?_⟩); (conv => whnf)) | ((refine sp_at hk2 ?_); (conv => whnf))); (try simp only [zY45_1])) | (refine And.intro ?_ ?_ <;> (conv => whnf); (try simp only [zY45_1])))
      (conv => whnf)
      (try simp only [zY45_2])
      repeat ((first | refine V.s1 ?_); (try simp only [zY45_2]))
      exact ⟨(k + 1), by omega, by omega, V.wk⟩
    have hk2 : k = 16 := by simp at hq; omega
    subst hk2
    (conv => whnf)
    (try simp only [Nat.zero_add])
    repeat ((first | refine V.s1 ?_); (try simp only [Nat.zero_add]))
    refine ⟨(.take 0 (.take 1 (.take 2 (.ev (.cons 3 [1, 0] (.ev (.cons 4 [0] (.take 5 (.ev (.cons 6 [] (.done) (.nil)))) (.nil))) (.nil)))))), [], ⟨by kernel_rfl, by kernel_rfl, by kernel_rfl, by kernel_rfl⟩, ?_⟩
    refine drw_meet [] [(13, .box (trS x0 x1 y0 y1 z0 z1 3)), (12, .box [.int .i64 0])] ?_ ?_
    · (conv => whnf); (try simp only [zY45_3])
      repeat' (first | exact V.wk | ((with_reducible refine And.intro ?_ draw_nil); (conv => whnf); (try simp only [zY45_3])) | ((with_reducible first | refine draw_split ?_ ?_ | refine nds_split ?_ ?_) <;> (conv => whnf); (try simp only [zY45_3])) | ((first | refine V.s1 ?_ | ((with_reducible refine recheck_and ?_ ?_); (focus ((conv => whnf); (try simp only [zY45_3]); (repeat ((first | refine V.s1 ?_); (try simp only [zY45_3]))); exact ⟨rfl⟩)); (conv => whnf)) | ((try ((with_reducible refine .ext ?_); (conv => whnf); (try simp only [zY45_3]))); (with_reducible refine call_intro (r := ?_) ?_ ?_); rotate_left; (focus (first | exact (ok) | exact (cd2))); (conv => whnf)) | ((with_reducible refine .inl ?_); (conv => whnf); (first | refine ⟨0, _, _, ⟨Tryz.func96, rfl, rfl, Nat.le_of_ble_eq_true rfl⟩, ?_⟩ | refine ⟨0, _, _, ⟨Tryz.func132, rfl, rfl, Nat.le_of_ble_eq_true rfl⟩, ?_⟩); (conv => whnf))); (try simp only [zY45_3])) | (refine And.intro ?_ ?_ <;> (conv => whnf); (try simp only [zY45_3])))
    (conv => whnf)
    (try simp only [Nat.zero_add])
    repeat ((first | refine V.s1 ?_); (try simp only [Nat.zero_add]))
    exact ⟨3, by omega, by omega, V.wk⟩
  · simp only [k3, trS]
    (conv => whnf)
    (try simp only [Nat.zero_add])
    repeat ((first | refine V.s1 ?_); (try simp only [Nat.zero_add]))
    exact Fin.of rfl
theorem rxyz_no (f : Nat → Tx) (n : Int) (ck : Called Tryz.prog 13 [.agg (spL f)] (.int .i64 0)) (pw : Called Tryz.prog 92 [.int .i64 n] (.tup [.nil, .bool false])) :
    Called Tryz.prog 49 [.agg (spL f), .int .i64 n] (.tup [.agg [.str [], .str [], .str [], .str [], .str [], .str []], .int .i64 4]) := by
  refine called_of_run tbOk 6 ⟨Tryz.func49, rfl, rfl, Nat.le_of_ble_eq_true rfl⟩ ?_
  (conv => whnf)
  (conv => whnf)
  (try simp only [Nat.zero_add])
  repeat ((first | refine V.s1 ?_ | ((try ((with_reducible refine .ext ?_); (conv => whnf); (try simp only [Nat.zero_add]))); (with_reducible refine call_intro (r := ?_) ?_ ?_); rotate_left; (focus (first | exact (ck) | exact (pw))); (conv => whnf))); (try simp only [Nat.zero_add]))
  exact Fin.of rfl
end Go.Proofs.YtpcpgjcdkgcbpaaGreatDoor
end
section
namespace Go.Proofs.YtpcpgjcdkgcbpaaGreatDoor
open Go Go.V Go.Nb
theorem rwhite_t (n : Int) (o0 o1 a0 a1 b0 b1 c0 c1 : List UInt8) (e : Int) (o : Called Tryz.prog 33 [.int .i64 1, .int .i64 1] (.agg [.str o0, .str o1]))
    (fl : Called Tryz.prog 42 [.agg [.str o0, .str o1]] (.agg (spL fun _ => (o0, o1)))) (cx : Called Tryz.prog 49 [.agg (spL fun _ => (o0, o1)), .int .i64 n] (.tup [.agg [.str a0, .str a1, .str b0, .str b1, .str c0, .str c1], .int .i64 e])) :
    Called Tryz.prog 20 [.int .i64 n] (.tup [.agg [.str a0, .str a1, .str b0, .str b1, .str c0, .str c1], .int .i64 e]) := by
  refine called_of_run tbOk 6 ⟨Tryz.func20, rfl, rfl, Nat.le_of_ble_eq_true rfl⟩ ?_
  (conv => whnf)
  (conv => whnf)
  (try simp only [Nat.zero_add])
  repeat ((first | refine V.s1 ?_ | ((try ((with_reducible refine .ext ?_); (conv => whnf); (try simp only [Nat.zero_add]))); (with_reducible refine call_intro (r := ?_) ?_ ?_); rotate_left; (focus (first | exact (o) | exact (fl) | exact (cx))); (conv => whnf))); (try simp only [Nat.zero_add]))
  exact Fin.of rfl
theorem rwhite_c (n : Int) : Called Tryz.prog 20 [.int .i64 n] (whiS n) := by
  have o := y_23of (n := 1) (m := 1) (by omega) (by omega)
  rw [y_div1] at o
  have f1 : Fq 20 (1 : Rat) := y_one.mono (by omega)
  have sq : SpQ fun _ => 1 := fun _ => ⟨f1, show (0 : Rat) ≤ 1 by decide, show (1 : Rat) ≤ 2 by decide⟩
  have ck := r26_c (sp_bd fun k => (sq k).1)
  rw [sp_chk sq] at ck
  have fl := rflat_c (xT 1)
  unfold whiS
  cases h : isLt n with
  | false => exact rwhite_t n _ _ _ _ _ _ _ _ _ o fl (rxyz_no _ n ck (rpow_no n h))
  | true =>
    have hp := pow_is n
    have pw := rpow_c h
    have hl := pow_len hp
    have hK := allP_bd hp 16 (by omega)
    have hK0 := allP_pos hp
    have nK : (Rat.divInt (allP (powL n) 16) 1).num ≠ 0 := by rw [divInt_num1]; omega
    have oz := y_23of (n := 0) (m := 1) (by omega) (by omega)
    rw [Rat.zero_divInt] at oz
    have ok := y_23of (n := allP (powL n) 16) (m := 1) (by omega) (by omega)
    have hw : ∀ {L}, isObs L → ∀ k, k < 16 → InR .i64 (tbl (powL n) k * tbl L k) := fun ho k _ => by
      have := wgt_bd hp ho k
      unfold wgt at this
      simp only [InR, V.lo, V.hi]
      omega
    have fw : ∀ {L}, isObs L → ∀ k, Fq 13 (Rat.divInt (wgt (powL n) L k) 1) := fun ho k => by
      have := fq_divInt (n := 13) (x := wgt (powL n) _ k) (d := 1) (by omega) (wgt_bd hp ho k).1 (by decide)
      exact this
    have ft : ∀ {L}, isObs L → ∀ k, Fq (k * (14 + 20) + 1) (sw (wgt (powL n) L) (fun _ => 1) k) := fun ho => fq_sw (m := 20) (fun k => (wgt_bd hp ho k).1) fun _ => f1
    have cw : ∀ {L}, isObs L → ∀ k, k < 16 → Called Tryz.prog 33 [.int .i64 (tbl (powL n) k * tbl L k), .int .i64 1] (frT (Rat.divInt (wgt (powL n) L k) 1)) := fun ho k _ => by
      have := wgt_bd hp ho k
      exact y_23of (n := wgt (powL n) _ k) (m := 1) (by omega) (by omega)
    have cm : ∀ {L}, isObs L → ∀ k, k < 16 → Called Tryz.prog 133 [frT (Rat.divInt (wgt (powL n) L k) 1), frT 1] (.tup [frT (Rat.divInt (wgt (powL n) L k) 1 * 1), .int .i64 0]) := fun ho k _ => zrmul (fw ho k) f1 (by omega) (by omega) (by omega)
    have ca : ∀ {L}, isObs L → ∀ k, k < 16 → Called Tryz.prog 131 [frT (sw (wgt (powL n) L) (fun _ => 1) k), frT (Rat.divInt (wgt (powL n) L k) 1 * 1)] (.tup [frT (sw (wgt (powL n) L) (fun _ => 1) (k + 1)), .int .i64 0]) := fun ho k hk => zradd (ft ho k) ((fw ho k).mul f1) (by omega) (by omega) (by omega)
    have cd : ∀ {L}, isObs L → Called Tryz.prog 134 [frT (sw (wgt (powL n) L) (fun _ => 1) 16), frT (Rat.divInt (allP (powL n) 16) 1)] (.tup [frT (colP (powL n) L fun _ => 1), .int .i64 0]) := fun ho => zrdiv (ft ho 16) (fqK hp) nK (by omega) (by omega) (by omega)
    have ox : isObs wxL := .inl rfl
    have o_y : isObs wyL := .inr (.inl rfl)
    have oz2 : isObs wzL := .inr (.inr rfl)
    refine rwhite_t n _ _ _ _ _ _ _ _ _ o fl (rxyz_t n (powL n) wxL wyL wzL hl rfl rfl rfl (txS fun _ => 1) (fun k => xT (sw (wgt (powL n) wxL) (fun _ => 1) k)) (fun k => xT (sw (wgt (powL n) wyL) (fun _ => 1) k)) (fun k => xT (sw (wgt (powL n) wzL) (fun _ => 1) k))
      (fun k => xT (Rat.divInt (wgt (powL n) wxL k) 1)) (fun k => xT (Rat.divInt (wgt (powL n) wyL k) 1)) (fun k => xT (Rat.divInt (wgt (powL n) wzL k) 1))
      (fun k => xT (Rat.divInt (wgt (powL n) wxL k) 1 * 1)) (fun k => xT (Rat.divInt (wgt (powL n) wyL k) 1 * 1)) (fun k => xT (Rat.divInt (wgt (powL n) wzL k) 1 * 1)) _ _ _ _ _ _ _ _ _ _ ck pw robs0 robs1 robs2 oz ok ?_
      rfl (hw ox) (cw ox) (cm ox) (ca ox) (cd ox) rfl (hw o_y) (cw o_y) (cm o_y) (ca o_y) (cd o_y) rfl (hw oz2) (cw oz2) (cm oz2) (ca oz2) (cd oz2))
    intro k hk
    have h1 := wgt_bd hp o_y k
    have h2 := allP_bd hp k (by omega)
    have h3 := allP_bd hp (k + 1) (by omega)
    have e3 : allP (powL n) (k + 1) = allP (powL n) k + tbl (powL n) k * tbl wyL k := rfl
    rw [e3] at h3
    unfold wgt at h1
    have e4 : alS (powL n) wyL k = allP (powL n) k := rfl
    rw [e4]
    refine ⟨?_, ?_⟩
    · simp only [InR, V.lo, V.hi]; omega
    · simp only [InR, V.lo, V.hi]; omega
theorem rsflat_t (x : Tx) (e : Int) (ck : Called Tryz.prog 40 [.agg [.str x.1, .str x.2]] (.int .i64 e)) (fl : Called Tryz.prog 42 [.agg [.str x.1, .str x.2]] (.agg (spL fun _ => x))) :
    Called Tryz.prog 18 [.agg [.str x.1, .str x.2]] (if e = 0 then spE (fun _ => x) 0 else spE noS e) := by
  by_cases he : e = 0
  · rw [if_pos he]
    subst he
    refine called_of_run tbOk 6 ⟨Tryz.func18, rfl, rfl, Nat.le_of_ble_eq_true rfl⟩ ?_
    (conv => whnf)
    (conv => whnf)
    (try simp only [Nat.zero_add])
    repeat ((first | refine V.s1 ?_ | ((try ((with_reducible refine .ext ?_); (conv => whnf); (try simp only [Nat.zero_add]))); (with_reducible refine call_intro (r := ?_) ?_ ?_); rotate_left; (focus (first | exact (ck) | exact (fl))); (conv => whnf))); (try simp only [Nat.zero_add]))
    exact Fin.of rfl
  · rw [if_neg he]
    refine called_of_run tbOk 6 ⟨Tryz.func18, rfl, rfl, Nat.le_of_ble_eq_true rfl⟩ ?_
    (conv => whnf)
    (conv => whnf)
    (try simp only [Nat.zero_add])
    repeat ((first | refine V.s1 ?_ | ((try ((with_reducible refine .ext ?_); (conv => whnf); (try simp only [Nat.zero_add]))); (with_reducible refine call_intro (r := ?_) ?_ ?_); rotate_left; (focus (first | exact (ck) | exact (fl))); (conv => whnf))); (try simp only [Nat.zero_add]))
    refine Cnd.split (CondB.mk (fun hq => ?_) (fun hq => ?_))
    · (conv => whnf)
      (try simp only [Nat.zero_add])
      repeat ((first | refine V.s1 ?_); (try simp only [Nat.zero_add]))
      exact Fin.of rfl
    · exfalso
      simp at hq
      exact he hq
theorem rsflat_c {x : Tx} (b : BdX 20 x) : Called Tryz.prog 18 [.agg [.str x.1, .str x.2]] (flatX x) := by
  have c := rsflat_t x _ (refl_c b) (rflat_c x)
  have e : rfE x = chkS fun _ => x := (chkS_const x).symm
  rw [e] at c
  exact c
theorem flat_x {x : Tx} (b : BdX 20 x) : ∃ (g : Nat → Tx) (e : Int), Called Tryz.prog 17 [.agg [.str x.1, .str x.2]] (.tup [.agg (spL g), .int .i64 e]) ∧ Called Tryz.prog 18 [.agg [.str x.1, .str x.2]] (.tup [.agg (spL g), .int .i64 e]) := by
  have c1 := sflat_c b
  have c2 := rsflat_c b
  unfold flatX at c1 c2
  by_cases h : (chkS fun _ => x) = 0
  · rw [if_pos h] at c1 c2
    exact ⟨_, _, c1, c2⟩
  · rw [if_neg h] at c1 c2
    exact ⟨_, _, c1, c2⟩
theorem whit_y (n : Int) : ∃ (a0 a1 b0 b1 c0 c1 : List UInt8) (e : Int), Called Tryz.prog 19 [.int .i64 n] (.tup [.agg [.str a0, .str a1, .str b0, .str b1, .str c0, .str c1], .int .i64 e]) ∧ Called Tryz.prog 20 [.int .i64 n] (.tup [.agg [.str a0, .str a1, .str b0, .str b1, .str c0, .str c1], .int .i64 e]) := by
  have c1 := swhite_c n
  have c2 := rwhite_c n
  unfold whiS at c1 c2
  cases h : isLt n with
  | true =>
    rw [h] at c1 c2
    exact ⟨_, _, _, _, _, _, _, c1, c2⟩
  | false =>
    rw [h] at c1 c2
    exact ⟨_, _, _, _, _, _, _, c1, c2⟩
theorem chk_y {f : Nat → Tx} (b : BdS 20 f) : ∃ e : Int, Called Tryz.prog 12 [.agg (spL f)] (.int .i64 e) ∧ Called Tryz.prog 13 [.agg (spL f)] (.int .i64 e) := ⟨_, check_c b, r26_c b⟩
end Go.Proofs.YtpcpgjcdkgcbpaaGreatDoor
end
section
namespace Go.Proofs.YtpcpgjcdkgcbpaaGreatDoor
open Go Go.V Go.Nb
theorem ck1 : ((1 : Nat) : Int) = 1 := rfl
theorem ck2 : ((2 : Nat) : Int) = 2 := rfl
theorem ck3 : ((3 : Nat) : Int) = 3 := rfl
theorem ck4 : ((4 : Nat) : Int) = 4 := rfl
theorem zY47_0 : type_of% @Nat.zero_add ∧ type_of% @dec_refl ∧ type_of% @dec_reflz ∧ type_of% @tn0 ∧ type_of% @tn1 ∧ type_of% @tn2 ∧ type_of% @tn3 := ⟨@Nat.zero_add, @dec_refl, @dec_reflz, @tn0, @tn1, @tn2, @tn3⟩
theorem zY47_1 : type_of% @Nat.zero_add ∧ type_of% @dec_refl ∧ type_of% @dec_reflz ∧ type_of% @tn0 ∧ type_of% @tn1 ∧ type_of% @tn2 := ⟨@Nat.zero_add, @dec_refl, @dec_reflz, @tn0, @tn1, @tn2⟩
theorem checks_t (ds : List Int) (hl : ds.length = 16) (pb pc n d li sm : Int) (hsm : 0 ≤ sm ∧ sm ≤ 255) (sb tb' sc tc a0 a1 b0 b1 c0 c1 : List UInt8) (f0 f1 f2 g0 g1 g2 : Nat → Tx) (e0 e1 e2 e3 h0 h1 h2 v0 v1 : Int)
    (p0 q0 p1 q1 p2 q2 p3 q3 p4 q4 p5 q5 : List UInt8)
    (da : Called Tryz.prog 10 [.iarr .u8 ds] (.agg (spL f0))) (bo : Called Tryz.prog 11 [.agg [.int .u8 pb, .str sb, .str tb'], .agg (spL f0)] (.agg (spL f1)))
    (co : Called Tryz.prog 11 [.agg [.int .u8 pc, .str sc, .str tc], .agg (spL f1)] (.agg (spL f2)))
    (l0 : Called Tryz.prog 12 [.agg (spL f0)] (.int .i64 e0)) (r0 : Called Tryz.prog 13 [.agg (spL f0)] (.int .i64 e0))
    (l1 : Called Tryz.prog 12 [.agg (spL f1)] (.int .i64 e1)) (r1 : Called Tryz.prog 13 [.agg (spL f1)] (.int .i64 e1))
    (l2 : Called Tryz.prog 12 [.agg (spL f2)] (.int .i64 e2)) (r2 : Called Tryz.prog 13 [.agg (spL f2)] (.int .i64 e2))
    (l3 : Called Tryz.prog 12 [.agg (spL noS)] (.int .i64 e3)) (r3 : Called Tryz.prog 13 [.agg (spL noS)] (.int .i64 e3))
    (fr : Called Tryz.prog 14 [.agg [.int .i16 n, .int .u8 d]] (.agg [.str a0, .str a1])) (sh : Called Tryz.prog 15 [.agg [.int .i16 n, .int .u8 d]] (.agg [.str b0, .str b1])) (od : Called Tryz.prog 16 [.agg [.str sb, .str tb']] (.agg [.str c0, .str c1]))
    (k0 : Called Tryz.prog 17 [.agg [.str a0, .str a1]] (.tup [.agg (spL g0), .int .i64 h0])) (m0 : Called Tryz.prog 18 [.agg [.str a0, .str a1]] (.tup [.agg (spL g0), .int .i64 h0]))
    (k1 : Called Tryz.prog 17 [.agg [.str b0, .str b1]] (.tup [.agg (spL g1), .int .i64 h1])) (m1 : Called Tryz.prog 18 [.agg [.str b0, .str b1]] (.tup [.agg (spL g1), .int .i64 h1]))
    (k2 : Called Tryz.prog 17 [.agg [.str c0, .str c1]] (.tup [.agg (spL g2), .int .i64 h2])) (m2 : Called Tryz.prog 18 [.agg [.str c0, .str c1]] (.tup [.agg (spL g2), .int .i64 h2]))
    (w0 : Called Tryz.prog 19 [.int .i64 li] (.tup [.agg [.str p0, .str p1, .str p2, .str p3, .str p4, .str p5], .int .i64 v0])) (u0 : Called Tryz.prog 20 [.int .i64 li] (.tup [.agg [.str p0, .str p1, .str p2, .str p3, .str p4, .str p5], .int .i64 v0]))
    (w1 : Called Tryz.prog 19 [.int .i64 (sm % 9)] (.tup [.agg [.str q0, .str q1, .str q2, .str q3, .str q4, .str q5], .int .i64 v1])) (u1 : Called Tryz.prog 20 [.int .i64 (sm % 9)] (.tup [.agg [.str q0, .str q1, .str q2, .str q3, .str q4, .str q5], .int .i64 v1])) :
    Called Tryz.prog 3 [.iarr .u8 ds, .agg [.int .u8 pb, .str sb, .str tb'], .agg [.int .u8 pc, .str sc, .str tc], .agg [.int .i16 n, .int .u8 d], .int .i64 li, .int .u8 sm] (.bool true) := by
  obtain ⟨m9, hm9⟩ : ∃ m, sm % 9 = m := ⟨_, rfl⟩
  have b9 : 0 ≤ m9 ∧ m9 < 9 := by omega
  rw [hm9] at w1 u1
  refine called_of_run tbOk 6 ⟨Tryz.func3, rfl, rfl, Nat.le_of_ble_eq_true rfl⟩ ?_
  (conv => whnf)
  (conv => whnf)
  (try simp only [Nat.zero_add])
  repeat ((first | refine V.s1 ?_ | ((try ((with_reducible refine .ext ?_); (conv => whnf); (try simp only [Nat.zero_add]))); (with_reducible refine call_intro (r := ?_) ?_ ?_); rotate_left; (focus (first | exact (works_c))); (conv => whnf))); (try simp only [Nat.zero_add]))
  refine ⟨(.take 0 (.take 2 (.take 3 (.take 6 (.take 7 (.take 8 (.take 12 (.take 14 (.ev (.cons 1 [14, 12, 8, 7, 6, 3, 2] (.ev (.cons 4 [14, 12, 8, 7, 6, 2] (.ev (.cons 5 [14, 12, 8, 7, 6] (.ev (.cons 9 [14, 12, 7, 6] (.ev (.cons 10 [14, 12, 6] (.ev (.cons 11 [14, 12] (.take 13 (.done)) (.nil))) (.nil))) (.nil))) (.nil))) (.nil))) (.nil))))))))))), [], ⟨by kernel_rfl, by kernel_rfl, by kernel_rfl, by kernel_rfl⟩, ?_⟩
  refine drw_meet [(42, .agg [.str (f0 0).1, .str (f0 0).2, .str (f0 1).1, .str (f0 1).2, .str (f0 2).1, .str (f0 2).2, .str (f0 3).1, .str (f0 3).2, .str (f0 4).1, .str (f0 4).2, .str (f0 5).1, .str (f0 5).2, .str (f0 6).1, .str (f0 6).2, .str (f0 7).1, .str (f0 7).2, .str (f0 8).1, .str (f0 8).2, .str (f0 9).1, .str (f0 9).2, .str (f0 10).1, .str (f0 10).2, .str (f0 11).1, .str (f0 11).2, .str (f0 12).1, .str (f0 12).2, .str (f0 13).1, .str (f0 13).2, .str (f0 14).1, .str (f0 14).2, .str (f0 15).1, .str (f0 15).2, .str (f1 0).1, .str (f1 0).2, .str (f1 1).1, .str (f1 1).2, .str (f1 2).1, .str (f1 2).2, .str (f1 3).1, .str (f1 3).2, .str (f1 4).1, .str (f1 4).2, .str (f1 5).1, .str (f1 5).2, .str (f1 6).1, .str (f1 6).2, .str (f1 7).1, .str (f1 7).2, .str (f1 8).1, .str (f1 8).2, .str (f1 9).1, .str (f1 9).2, .str (f1 10).1, .str (f1 10).2, .str (f1 11).1, .str (f1 11).2, .str (f1 12).1, .str (f1 12).2, .str (f1 13).1, .str (f1 13).2, .str (f1 14).1, .str (f1 14).2, .str (f1 15).1, .str (f1 15).2, .str (f2 0).1, .str (f2 0).2, .str (f2 1).1, .str (f2 1).2, .str (f2 2).1, .str (f2 2).2, .str (f2 3).1, .str (f2 3).2, .str (f2 4).1, .str (f2 4).2, .str (f2 5).1, .str (f2 5).2, .str (f2 6).1, .str (f2 6).2, .str (f2 7).1, .str (f2 7).2, .str (f2 8).1, .str (f2 8).2, .str (f2 9).1, .str (f2 9).2, .str (f2 10).1, .str (f2 10).2, .str (f2 11).1, .str (f2 11).2, .str (f2 12).1, .str (f2 12).2, .str (f2 13).1, .str (f2 13).2, .str (f2 14).1, .str (f2 14).2, .str (f2 15).1, .str (f2 15).2, .str [], .str [], .str [], .str [], .str [], .str [], .str [], .str [], .str [], .str [], .str [], .str [], .str [], .str [], .str [], .str [], .str [], .str [], .str [], .str [], .str [], .str [], .str [], .str [], .str [], .str [], .str [], .str [], .str [], .str [], .str [], .str []]), (43, .int .i64 0)] [] ?_ ?_
  · (conv => whnf); (try simp only [Nat.zero_add])
    repeat' (first | exact V.wk | ((with_reducible refine And.intro ?_ draw_nil); (conv => whnf); (try simp only [Nat.zero_add])) | ((with_reducible first | refine draw_split ?_ ?_ | refine nds_split ?_ ?_) <;> (conv => whnf); (try simp only [Nat.zero_add])) | ((first | refine V.s1 ?_ | ((with_reducible refine recheck_and ?_ ?_); (focus ((conv => whnf); (try simp only [Nat.zero_add]); (repeat ((first | refine V.s1 ?_); (try simp only [Nat.zero_add]))); exact ⟨rfl⟩)); (conv => whnf)) | ((try ((with_reducible refine .ext ?_); (conv => whnf); (try simp only [Nat.zero_add]))); (with_reducible refine call_intro (r := ?_) ?_ ?_); rotate_left; (focus (first | exact (da) | exact (bo) | exact (co))); (conv => whnf))); (try simp only [Nat.zero_add])) | (refine And.intro ?_ ?_ <;> (conv => whnf); (try simp only [Nat.zero_add])))
  (conv => whnf)
  (try simp only [Nat.zero_add])
  repeat ((first | refine V.s1 ?_); (try simp only [Nat.zero_add]))
  refine lp_any (0) (fun k => k ≤ 4) (fun k => 4 - k) (fun k => [(43, .int .i64 k)]) (fun k => []) ?_ ?_ ?_
  · exact V.wk
  · exact Nat.zero_le _
  intro k hk
  have hk4 : k = 0 ∨ k = 1 ∨ k = 2 ∨ k = 3 ∨ k = 4 := by omega
  rcases hk4 with e | e | e | e | e
  all_goals subst e
  · simp only [yk0]
    (conv => whnf)
    (try simp only [zY47_0, decide_true, Bool.and_true, Bool.true_and, Bool.and_self, Bool.not_true, Bool.not_false, Bool.or_false, Bool.or_self, ne_eq, not_true_eq_false, decide_false])
    repeat ((first | refine V.s1 ?_); (try simp only [zY47_0, decide_true, Bool.and_true, Bool.true_and, Bool.and_self, Bool.not_true, Bool.not_false, Bool.or_false, Bool.or_self, ne_eq, not_true_eq_false, decide_false]))
    refine ⟨(.take 0 (.take 2 (.ev (.cons 1 [2] (.ev (.cons 3 [] (.take 4 (.done)) (.nil))) (.nil))))), [], ⟨by kernel_rfl, by kernel_rfl, by kernel_rfl, by kernel_rfl⟩, ?_⟩
    refine drw_meet [(50, .bool false)] [] ?_ ?_
    · (conv => whnf); (try simp only [zY47_1, decide_true, Bool.and_true, Bool.true_and, Bool.and_self, Bool.not_true, Bool.not_false, Bool.or_false, Bool.or_self, ne_eq, not_true_eq_false, decide_false])
      repeat' (first | exact V.wk | ((with_reducible refine And.intro ?_ draw_nil); (conv => whnf); (try simp only [zY47_1, decide_true, Bool.and_true, Bool.true_and, Bool.and_self, Bool.not_true, Bool.not_false, Bool.or_false, Bool.or_self, ne_eq, not_true_eq_false, decide_false])) | ((with_reducible first | refine draw_split ?_ ?_ | refine nds_split ?_ ?_) <;> (conv => whnf); (try simp only [zY47_1, decide_true, Bool.and_true, Bool.true_and, Bool.and_self, Bool.not_true, Bool.not_false, Bool.or_false, Bool.or_self, ne_eq, not_true_eq_false, decide_false])) | ((first | refine V.s1 ?_ | ((with_reducible refine recheck_and ?_ ?_); (focus ((conv => whnf); (try simp only [zY47_1, decide_true, Bool.and_true, Bool.true_and, Bool.and_self, Bool.not_true, Bool.not_false, Bool.or_false, Bool.or_self, ne_eq, not_true_eq_false, decide_false]); (repeat ((first | refine V.s1 ?_); (try simp only [zY47_1, decide_true, Bool.and_true, Bool.true_and, Bool.and_self, Bool.not_true, Bool.not_false, Bool.or_false, Bool.or_self, ne_eq, not_true_eq_false, decide_false]))); exact ⟨rfl⟩)); (conv => whnf)) | ((try ((with_reducible refine .ext ?_); (conv => whnf); (try simp only [zY47_1, decide_true, Bool.and_true, Bool.true_and, Bool.and_self, Bool.not_true, Bool.not_false, Bool.or_false, Bool.or_self, ne_eq, not_true_eq_false, decide_false]))); (with_reducible refine call_intro (r := ?_) ?_ ?_); rotate_left; (focus (first | exact (l0) | exact (r0))); (conv => whnf))); (try simp only [zY47_1, decide_true, Bool.and_true, Bool.true_and, Bool.and_self, Bool.not_true, Bool.not_false, Bool.or_false, Bool.or_self, ne_eq, not_true_eq_false, decide_false])) | (refine And.intro ?_ ?_ <;> (conv => whnf); (try simp only [zY47_1, decide_true, Bool.and_true, Bool.true_and, Bool.and_self, Bool.not_true, Bool.not_false, Bool.or_false, Bool.or_self, ne_eq, not_true_eq_false, decide_false])))
    (conv => whnf)
    (try simp only [Nat.zero_add])
    repeat ((first | refine V.s1 ?_); (try simp only [Nat.zero_add]))
    exact ⟨1, by omega, by omega, V.wk⟩
  · simp only [ck1]
    (conv => whnf)
    (try simp only [zY47_0, decide_true, Bool.and_true, Bool.true_and, Bool.and_self, Bool.not_true, Bool.not_false, Bool.or_false, Bool.or_self, ne_eq, not_true_eq_false, decide_false])
    repeat ((first | refine V.s1 ?_); (try simp only [zY47_0, decide_true, Bool.and_true, Bool.true_and, Bool.and_self, Bool.not_true, Bool.not_false, Bool.or_false, Bool.or_self, ne_eq, not_true_eq_false, decide_false]))
    refine ⟨(.take 0 (.take 2 (.ev (.cons 1 [2] (.ev (.cons 3 [] (.take 4 (.done)) (.nil))) (.nil))))), [], ⟨by kernel_rfl, by kernel_rfl, by kernel_rfl, by kernel_rfl⟩, ?_⟩
    refine drw_meet [(50, .bool false)] [] ?_ ?_
    · (conv => whnf); (try simp only [zY47_1, decide_true, Bool.and_true, Bool.true_and, Bool.and_self, Bool.not_true, Bool.not_false, Bool.or_false, Bool.or_self, ne_eq, not_true_eq_false, decide_false])
      repeat' (first | exact V.wk | ((with_reducible refine And.intro ?_ draw_nil); (conv => whnf); (try simp only [zY47_1, decide_true, Bool.and_true, Bool.true_and, Bool.and_self, Bool.not_true, Bool.not_false, Bool.or_false, Bool.or_self, ne_eq, not_true_eq_false, decide_false])) | ((with_reducible first | refine draw_split ?_ ?_ | refine nds_split ?_ ?_) <;> (conv => whnf); (try simp only [zY47_1, decide_true, Bool.and_true, Bool.true_and, Bool.and_self, Bool.not_true, Bool.not_false, Bool.or_false, Bool.or_self, ne_eq, not_true_eq_false, decide_false])) | ((first | refine V.s1 ?_ | ((with_reducible refine recheck_and ?_ ?_); (focus ((conv => whnf); (try simp only [zY47_1, decide_true, Bool.and_true, Bool.true_and, Bool.and_self, Bool.not_true, Bool.not_false, Bool.or_false, Bool.or_self, ne_eq, not_true_eq_false, decide_false]); (repeat ((first | refine V.s1 ?_); (try simp only [zY47_1, decide_true, Bool.and_true, Bool.true_and, Bool.and_self, Bool.not_true, Bool.not_false, Bool.or_false, Bool.or_self, ne_eq, not_true_eq_false, decide_false]))); exact ⟨rfl⟩)); (conv => whnf)) | ((try ((with_reducible refine .ext ?_); (conv => whnf); (try simp only [zY47_1, decide_true, Bool.and_true, Bool.true_and, Bool.and_self, Bool.not_true, Bool.not_false, Bool.or_false, Bool.or_self, ne_eq, not_true_eq_false, decide_false]))); (with_reducible refine call_intro (r := ?_) ?_ ?_); rotate_left; (focus (first | exact (l1) | exact (r1))); (conv => whnf))); (try simp only [zY47_1, decide_true, Bool.and_true, Bool.true_and, Bool.and_self, Bool.not_true, Bool.not_false, Bool.or_false, Bool.or_self, ne_eq, not_true_eq_false, decide_false])) | (refine And.intro ?_ ?_ <;> (conv => whnf); (try simp only [zY47_1, decide_true, Bool.and_true, Bool.true_and, Bool.and_self, Bool.not_true, Bool.not_false, Bool.or_false, Bool.or_self, ne_eq, not_true_eq_false, decide_false])))
    (conv => whnf)
    (try simp only [Nat.zero_add])
    repeat ((first | refine V.s1 ?_); (try simp only [Nat.zero_add]))
    exact ⟨2, by omega, by omega, V.wk⟩
  · simp only [ck2]
    (conv => whnf)
    (try simp only [zY47_0, decide_true, Bool.and_true, Bool.true_and, Bool.and_self, Bool.not_true, Bool.not_false, Bool.or_false, Bool.or_self, ne_eq, not_true_eq_false, decide_false])
    repeat ((first | refine V.s1 ?_); (try simp only [zY47_0, decide_true, Bool.and_true, Bool.true_and, Bool.and_self, Bool.not_true, Bool.not_false, Bool.or_false, Bool.or_self, ne_eq, not_true_eq_false, decide_false]))
    refine ⟨(.take 0 (.take 2 (.ev (.cons 1 [2] (.ev (.cons 3 [] (.take 4 (.done)) (.nil))) (.nil))))), [], ⟨by kernel_rfl, by kernel_rfl, by kernel_rfl, by kernel_rfl⟩, ?_⟩
    refine drw_meet [(50, .bool false)] [] ?_ ?_
    · (conv => whnf); (try simp only [zY47_1, decide_true, Bool.and_true, Bool.true_and, Bool.and_self, Bool.not_true, Bool.not_false, Bool.or_false, Bool.or_self, ne_eq, not_true_eq_false, decide_false])
      repeat' (first | exact V.wk | ((with_reducible refine And.intro ?_ draw_nil); (conv => whnf); (try simp only [zY47_1, decide_true, Bool.and_true, Bool.true_and, Bool.and_self, Bool.not_true, Bool.not_false, Bool.or_false, Bool.or_self, ne_eq, not_true_eq_false, decide_false])) | ((with_reducible first | refine draw_split ?_ ?_ | refine nds_split ?_ ?_) <;> (conv => whnf); (try simp only [zY47_1, decide_true, Bool.and_true, Bool.true_and, Bool.and_self, Bool.not_true, Bool.not_false, Bool.or_false, Bool.or_self, ne_eq, not_true_eq_false, decide_false])) | ((first | refine V.s1 ?_ | ((with_reducible refine recheck_and ?_ ?_); (focus ((conv => whnf); (try simp only [zY47_1, decide_true, Bool.and_true, Bool.true_and, Bool.and_self, Bool.not_true, Bool.not_false, Bool.or_false, Bool.or_self, ne_eq, not_true_eq_false, decide_false]); (repeat ((first | refine V.s1 ?_); (try simp only [zY47_1, decide_true, Bool.and_true, Bool.true_and, Bool.and_self, Bool.not_true, Bool.not_false, Bool.or_false, Bool.or_self, ne_eq, not_true_eq_false, decide_false]))); exact ⟨rfl⟩)); (conv => whnf)) | ((try ((with_reducible refine .ext ?_); (conv => whnf); (try simp only [zY47_1, decide_true, Bool.and_true, Bool.true_and, Bool.and_self, Bool.not_true, Bool.not_false, Bool.or_false, Bool.or_self, ne_eq, not_true_eq_false, decide_false]))); (with_reducible refine call_intro (r := ?_) ?_ ?_); rotate_left; (focus (first | exact (l2) | exact (r2))); (conv => whnf))); (try simp only [zY47_1, decide_true, Bool.and_true, Bool.true_and, Bool.and_self, Bool.not_true, Bool.not_false, Bool.or_false, Bool.or_self, ne_eq, not_true_eq_false, decide_false])) | (refine And.intro ?_ ?_ <;> (conv => whnf); (try simp only [zY47_1, decide_true, Bool.and_true, Bool.true_and, Bool.and_self, Bool.not_true, Bool.not_false, Bool.or_false, Bool.or_self, ne_eq, not_true_eq_false, decide_false])))
    (conv => whnf)
    (try simp only [Nat.zero_add])
    repeat ((first | refine V.s1 ?_); (try simp only [Nat.zero_add]))
    exact ⟨3, by omega, by omega, V.wk⟩
  · simp only [ck3]
    (conv => whnf)
    (try simp only [zY47_0, decide_true, Bool.and_true, Bool.true_and, Bool.and_self, Bool.not_true, Bool.not_false, Bool.or_false, Bool.or_self, ne_eq, not_true_eq_false, decide_false])
    repeat ((first | refine V.s1 ?_); (try simp only [zY47_0, decide_true, Bool.and_true, Bool.true_and, Bool.and_self, Bool.not_true, Bool.not_false, Bool.or_false, Bool.or_self, ne_eq, not_true_eq_false, decide_false]))
    refine ⟨(.take 0 (.take 2 (.ev (.cons 1 [2] (.ev (.cons 3 [] (.take 4 (.done)) (.nil))) (.nil))))), [], ⟨by kernel_rfl, by kernel_rfl, by kernel_rfl, by kernel_rfl⟩, ?_⟩
    refine drw_meet [(50, .bool false)] [] ?_ ?_
    · (conv => whnf); (try simp only [zY47_1, decide_true, Bool.and_true, Bool.true_and, Bool.and_self, Bool.not_true, Bool.not_false, Bool.or_false, Bool.or_self, ne_eq, not_true_eq_false, decide_false])
      repeat' (first | exact V.wk | ((with_reducible refine And.intro ?_ draw_nil); (conv => whnf); (try simp only [zY47_1, decide_true, Bool.and_true, Bool.true_and, Bool.and_self, Bool.not_true, Bool.not_false, Bool.or_false, Bool.or_self, ne_eq, not_true_eq_false, decide_false])) | ((with_reducible first | refine draw_split ?_ ?_ | refine nds_split ?_ ?_) <;> (conv => whnf); (try simp only [zY47_1, decide_true, Bool.and_true, Bool.true_and, Bool.and_self, Bool.not_true, Bool.not_false, Bool.or_false, Bool.or_self, ne_eq, not_true_eq_false, decide_false])) | ((first | refine V.s1 ?_ | ((with_reducible refine recheck_and ?_ ?_); (focus ((conv => whnf); (try simp only [zY47_1, decide_true, Bool.and_true, Bool.true_and, Bool.and_self, Bool.not_true, Bool.not_false, Bool.or_false, Bool.or_self, ne_eq, not_true_eq_false, decide_false]); (repeat ((first | refine V.s1 ?_); (try simp only [zY47_1, decide_true, Bool.and_true, Bool.true_and, Bool.and_self, Bool.not_true, Bool.not_false, Bool.or_false, Bool.or_self, ne_eq, not_true_eq_false, decide_false]))); exact ⟨rfl⟩)); (conv => whnf)) | ((try ((with_reducible refine .ext ?_); (conv => whnf); (try simp only [zY47_1, decide_true, Bool.and_true, Bool.true_and, Bool.and_self, Bool.not_true, Bool.not_false, Bool.or_false, Bool.or_self, ne_eq, not_true_eq_false, decide_false]))); (with_reducible refine call_intro (r := ?_) ?_ ?_); rotate_left; (focus (first | exact (l3) | exact (r3))); (conv => whnf))); (try simp only [zY47_1, decide_true, Bool.and_true, Bool.true_and, Bool.and_self, Bool.not_true, Bool.not_false, Bool.or_false, Bool.or_self, ne_eq, not_true_eq_false, decide_false])) | (refine And.intro ?_ ?_ <;> (conv => whnf); (try simp only [zY47_1, decide_true, Bool.and_true, Bool.true_and, Bool.and_self, Bool.not_true, Bool.not_false, Bool.or_false, Bool.or_self, ne_eq, not_true_eq_false, decide_false])))
    (conv => whnf)
    (try simp only [Nat.zero_add])
    repeat ((first | refine V.s1 ?_); (try simp only [Nat.zero_add]))
    exact ⟨4, by omega, by omega, V.wk⟩
  · simp only [ck4]
    (conv => whnf)
    (try simp only [zY47_1, decide_true, Bool.and_true, Bool.true_and, Bool.and_self, Bool.not_true, Bool.not_false, Bool.or_false, Bool.or_self, ne_eq, not_true_eq_false, decide_false])
    repeat ((first | refine V.s1 ?_); (try simp only [zY47_1, decide_true, Bool.and_true, Bool.true_and, Bool.and_self, Bool.not_true, Bool.not_false, Bool.or_false, Bool.or_self, ne_eq, not_true_eq_false, decide_false]))
    refine ⟨(.take 0 (.take 2 (.take 4 (.take 5 (.take 8 (.ev (.cons 1 [8, 5, 4, 2] (.ev (.cons 3 [8, 5, 4] (.ev (.cons 6 [8] (.take 7 (.done)) (.nil))) (.nil))) (.nil)))))))), [], ⟨by kernel_rfl, by kernel_rfl, by kernel_rfl, by kernel_rfl⟩, ?_⟩
    refine drw_meet [(59, .agg [.str a0, .str a1, .str b0, .str b1, .str c0, .str c1]), (60, .int .i64 0)] [] ?_ ?_
    · (conv => whnf); (try simp only [Nat.zero_add])
      repeat' (first | exact V.wk | ((with_reducible refine And.intro ?_ draw_nil); (conv => whnf); (try simp only [Nat.zero_add])) | ((with_reducible first | refine draw_split ?_ ?_ | refine nds_split ?_ ?_) <;> (conv => whnf); (try simp only [Nat.zero_add])) | ((first | refine V.s1 ?_ | ((with_reducible refine recheck_and ?_ ?_); (focus ((conv => whnf); (try simp only [Nat.zero_add]); (repeat ((first | refine V.s1 ?_); (try simp only [Nat.zero_add]))); exact ⟨rfl⟩)); (conv => whnf)) | ((try ((with_reducible refine .ext ?_); (conv => whnf); (try simp only [Nat.zero_add]))); (with_reducible refine call_intro (r := ?_) ?_ ?_); rotate_left; (focus (first | exact (fr) | exact (sh) | exact (od))); (conv => whnf))); (try simp only [Nat.zero_add])) | (refine And.intro ?_ ?_ <;> (conv => whnf); (try simp only [Nat.zero_add])))
    (conv => whnf)
    (try simp only [Nat.zero_add])
    repeat ((first | refine V.s1 ?_); (try simp only [Nat.zero_add]))
    refine lp_any (0) (fun k => k ≤ 3) (fun k => 3 - k) (fun k => [(60, .int .i64 k)]) (fun k => []) ?_ ?_ ?_
    · exact V.wk
    · exact Nat.zero_le _
    intro k hk
    have hk4 : k = 0 ∨ k = 1 ∨ k = 2 ∨ k = 3 := by omega
    rcases hk4 with e | e | e | e
    all_goals subst e
    · simp only [yk0]
      (conv => whnf)
      (try simp only [zY47_1, decide_true, Bool.and_true, Bool.true_and, Bool.and_self, Bool.not_true, Bool.not_false, Bool.or_false, Bool.or_self, ne_eq, not_true_eq_false, decide_false])
      repeat ((first | refine V.s1 ?_ | ((try ((with_reducible refine .ext ?_); (conv => whnf); (try simp only [zY47_1, decide_true, Bool.and_true, Bool.true_and, Bool.and_self, Bool.not_true, Bool.not_false, Bool.or_false, Bool.or_self, ne_eq, not_true_eq_false, decide_false]))); (with_reducible refine call_intro (r := ?_) ?_ ?_); rotate_left; (focus (first | exact (k0) | exact (m0))); (conv => whnf))); (try simp only [zY47_1, decide_true, Bool.and_true, Bool.true_and, Bool.and_self, Bool.not_true, Bool.not_false, Bool.or_false, Bool.or_self, ne_eq, not_true_eq_false, decide_false]))
      exact ⟨1, by omega, by omega, V.wk⟩
    · simp only [ck1]
      (conv => whnf)
      (try simp only [zY47_1, decide_true, Bool.and_true, Bool.true_and, Bool.and_self, Bool.not_true, Bool.not_false, Bool.or_false, Bool.or_self, ne_eq, not_true_eq_false, decide_false])
      repeat ((first | refine V.s1 ?_ | ((try ((with_reducible refine .ext ?_); (conv => whnf); (try simp only [zY47_1, decide_true, Bool.and_true, Bool.true_and, Bool.and_self, Bool.not_true, Bool.not_false, Bool.or_false, Bool.or_self, ne_eq, not_true_eq_false, decide_false]))); (with_reducible refine call_intro (r := ?_) ?_ ?_); rotate_left; (focus (first | exact (k1) | exact (m1))); (conv => whnf))); (try simp only [zY47_1, decide_true, Bool.and_true, Bool.true_and, Bool.and_self, Bool.not_true, Bool.not_false, Bool.or_false, Bool.or_self, ne_eq, not_true_eq_false, decide_false]))
      exact ⟨2, by omega, by omega, V.wk⟩
    · simp only [ck2]
      (conv => whnf)
      (try simp only [zY47_1, decide_true, Bool.and_true, Bool.true_and, Bool.and_self, Bool.not_true, Bool.not_false, Bool.or_false, Bool.or_self, ne_eq, not_true_eq_false, decide_false])
      repeat ((first | refine V.s1 ?_ | ((try ((with_reducible refine .ext ?_); (conv => whnf); (try simp only [zY47_1, decide_true, Bool.and_true, Bool.true_and, Bool.and_self, Bool.not_true, Bool.not_false, Bool.or_false, Bool.or_self, ne_eq, not_true_eq_false, decide_false]))); (with_reducible refine call_intro (r := ?_) ?_ ?_); rotate_left; (focus (first | exact (k2) | exact (m2))); (conv => whnf))); (try simp only [zY47_1, decide_true, Bool.and_true, Bool.true_and, Bool.and_self, Bool.not_true, Bool.not_false, Bool.or_false, Bool.or_self, ne_eq, not_true_eq_false, decide_false]))
      exact ⟨3, by omega, by omega, V.wk⟩
    · simp only [ck3]
      (conv => whnf)
      (try simp only [Nat.zero_add, hm9])
      repeat ((first | refine V.s1 ?_); (try simp only [Nat.zero_add, hm9]))
      refine lp_any (0) (fun k => k ≤ 2) (fun k => 2 - k) (fun k => [(87, .int .i64 k)]) (fun k => []) ?_ ?_ ?_
      · exact V.wk
      · exact Nat.zero_le _
      intro k hk
      have hk4 : k = 0 ∨ k = 1 ∨ k = 2 := by omega
      rcases hk4 with e | e | e
      all_goals subst e
      · simp only [yk0]
        (conv => whnf)
        (try simp only [zY47_1, decide_true, Bool.and_true, Bool.true_and, Bool.and_self, Bool.not_true, Bool.not_false, Bool.or_false, Bool.or_self, ne_eq, not_true_eq_false, decide_false])
        repeat ((first | refine V.s1 ?_ | ((try ((with_reducible refine .ext ?_); (conv => whnf); (try simp only [zY47_1, decide_true, Bool.and_true, Bool.true_and, Bool.and_self, Bool.not_true, Bool.not_false, Bool.or_false, Bool.or_self, ne_eq, not_true_eq_false, decide_false]))); (with_reducible refine call_intro (r := ?_) ?_ ?_); rotate_left; (focus (first | exact (w0) | exact (u0))); (conv => whnf))); (try simp only [zY47_1, decide_true, Bool.and_true, Bool.true_and, Bool.and_self, Bool.not_true, Bool.not_false, Bool.or_false, Bool.or_self, ne_eq, not_true_eq_false, decide_false]))
        exact ⟨1, by omega, by omega, V.wk⟩
      · simp only [ck1]
        (conv => whnf)
        (try simp only [zY47_1, decide_true, Bool.and_true, Bool.true_and, Bool.and_self, Bool.not_true, Bool.not_false, Bool.or_false, Bool.or_self, ne_eq, not_true_eq_false, decide_false])
        repeat ((first | refine V.s1 ?_ | ((try ((with_reducible refine .ext ?_); (conv => whnf); (try simp only [zY47_1, decide_true, Bool.and_true, Bool.true_and, Bool.and_self, Bool.not_true, Bool.not_false, Bool.or_false, Bool.or_self, ne_eq, not_true_eq_false, decide_false]))); (with_reducible refine call_intro (r := ?_) ?_ ?_); rotate_left; (focus (first | exact (w1) | exact (u1))); (conv => whnf))); (try simp only [zY47_1, decide_true, Bool.and_true, Bool.true_and, Bool.and_self, Bool.not_true, Bool.not_false, Bool.or_false, Bool.or_self, ne_eq, not_true_eq_false, decide_false]))
        exact ⟨2, by omega, by omega, V.wk⟩
      · simp only [ck2]
        (conv => whnf)
        (try simp only [Nat.zero_add])
        repeat ((first | refine V.s1 ?_); (try simp only [Nat.zero_add]))
        exact Fin.of rfl
theorem put_bd {f : Nat → Tx} {x : Tx} {p : Nat} (hf : BdS 20 f) (hx : BdX 20 x) : BdS 20 (putF f p x) := fun k => by
  unfold putF
  split
  · exact hx
  · exact hf k
theorem odd20 (s t : List UInt8) : BdX 20 (s.take 20, t.take 20) := odd_bd (by rw [List.length_take]; omega) (by rw [List.length_take]; omega)
theorem nos_bd : BdS 20 noS := fun _ => odd_bd (s := []) (t := []) (by decide) (by decide)
theorem spectrumChecks_c {ds : List Int} (hl : ds.length = 16) (hd : ∀ n ∈ ds, 0 ≤ n ∧ n ≤ 255) {pb pc n d li sm : Int} (sb tb' sc tc : List UInt8) (hpb : 0 ≤ pb ∧ pb ≤ 255) (hpc : 0 ≤ pc ∧ pc ≤ 255) (hn : -32768 ≤ n ∧ n ≤ 32767) (hdd : 0 ≤ d ∧ d ≤ 255) (hsm : 0 ≤ sm ∧ sm ≤ 255) :
    Called Tryz.prog 3 [.iarr .u8 ds, .agg [.int .u8 pb, .str sb, .str tb'], .agg [.int .u8 pc, .str sc, .str tc], .agg [.int .i16 n, .int .u8 d], .int .i64 li, .int .u8 sm] (.bool true) := by
  have da := draft_c hl hd
  have bo := bend_c pb sb tb' (drF ds) hpb
  have co := bend_c pc sc tc (putF (drF ds) (pb % 16).toNat (sb.take 20, tb'.take 20)) hpc
  have b0 : BdS 20 (drF ds) := sp_bd fun k => (dr_q hd k).1
  have b1 := put_bd (p := (pb % 16).toNat) b0 (odd20 sb tb')
  have b2 := put_bd (p := (pc % 16).toNat) b1 (odd20 sc tc)
  obtain ⟨e0, l0, r0⟩ := chk_y b0
  obtain ⟨e1, l1, r1⟩ := chk_y b1
  obtain ⟨e2, l2, r2⟩ := chk_y b2
  obtain ⟨e3, l3, r3⟩ := chk_y nos_bd
  have fr := numFrac_c n d hn hdd
  have sh := numShare_c n d hn hdd
  have od := oddFrac_c sb tb'
  have fn : Fq 20 (numQ n d) := y_small (by omega) (by omega)
  have fs : Fq 20 (shQ n d) := by
    have := shN_bd n d hdd
    exact y_small (by omega) (by omega)
  obtain ⟨g0, h0, k0, m0⟩ := flat_x (xT_bd fn k20)
  obtain ⟨g1, h1, k1, m1⟩ := flat_x (xT_bd fs k20)
  obtain ⟨g2, h2, k2, m2⟩ := flat_x (odd20 sb tb')
  obtain ⟨p0, p1, p2, p3, p4, p5, v0, w0, u0⟩ := whit_y li
  obtain ⟨q0, q1, q2, q3, q4, q5, v1, w1, u1⟩ := whit_y (sm % 9)
  exact checks_t ds hl pb pc n d li sm hsm sb tb' sc tc _ _ _ _ _ _ _ _ _ g0 g1 g2 e0 e1 e2 e3 h0 h1 h2 v0 v1 p0 q0 p1 q1 p2 q2 p3 q3 p4 q4 p5 q5 da bo co l0 r0 l1 r1 l2 r2 l3 r3 fr sh od k0 m0 k1 m1 k2 m2 w0 u0 w1 u1
end Go.Proofs.YtpcpgjcdkgcbpaaGreatDoor
end
