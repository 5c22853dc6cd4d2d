/- What some functions of the program answer at values that mean given lists and numbers, each proved of the program's own code. Conditions: those that each theorem names. -/
import Derived.Test.YtfhmfpneiagakaaT11
set_option linter.unusedSimpArgs false
set_option linter.unusedVariables false
set_option maxHeartbeats 8000000
set_option maxRecDepth 100000
namespace Go.Proofs.Ytfhmfpneiagakaa
open Go Go.V Go.Gr
def upd (lt : Int → Int → Bool) (o v : List Int) : List Int := List.zipWith (fun a b => if lt b a then b else a) o v
def mst (lt : Int → Int → Bool) (data : List Int) (w : Nat) : Nat → List Int
  | 0 => slot data 0 w
  | m + 1 => upd lt (mst lt data w m) (slot data ((m * w : Nat) : Int) w)
theorem lt_c (a b : Int) : Called Try.prog 51 [.int .i64 a, .int .i64 b] (.bool (decide (a < b))) := by
  refine called_of_run tbOk 6 ⟨Try.func51, rfl, rfl, Nat.le_of_ble_eq_true rfl⟩ ?_
  (conv => whnf)
  refine V.st ?_
  exact Fin.of rfl
theorem gt_c (a b : Int) : Called Try.prog 52 [.int .i64 a, .int .i64 b] (.bool (decide (a > b))) := by
  refine called_of_run tbOk 6 ⟨Try.func52, rfl, rfl, Nat.le_of_ble_eq_true rfl⟩ ?_
  (conv => whnf)
  refine V.st ?_
  exact Fin.of rfl
theorem tpoints_c (size : List Int) (out : Int) (data : List Int) : Called Try.prog 50 [gridD size out data] (.fn 54 [] [.ref [.ints .i64 size, .int .i64 out, .ints .i64 data], .ref [.fn 38 [gridD size out data] []]]) := by
  refine called_of_run tbOk 6 ⟨Try.func50, rfl, rfl, Nat.le_of_ble_eq_true rfl⟩ ?_
  (conv => whnf)
  refine V.st ?_
  exact Fin.of rfl
theorem slot_m {data : List Int} {w m n : Nat} (h : data.length = n * w) (hm : m < n) : (slot data ((m * w : Nat) : Int) w).length = w := by
  unfold slot
  rw [Int.toNat_natCast, Int.toNat_natCast]
  simp
  have : (m + 1) * w ≤ n * w := Nat.mul_le_mul_right w hm
  rw [Nat.add_mul] at this
  omega
theorem mst_length {lt : Int → Int → Bool} {data : List Int} {w m n : Nat} (h : data.length = n * w) (hm : m ≤ n) (hn : 0 < n) : (mst lt data w m).length = w := by
  induction m with
  | zero => have := slot_m (m := 0) h hn; simpa [mst] using this
  | succ m ih =>
    unfold mst upd
    rw [List.length_zipWith, ih (by omega), slot_m h (by omega)]
    omega
theorem upd_set {lt : Int → Int → Bool} {o v : List Int} {k : Nat} {a b : Int} (ha : o[k]? = some a) (hb : v[k]? = some b) (hl : o.length = v.length) :
    ((upd lt o v).take k ++ o.drop k).set k (if lt b a then b else a) = (upd lt o v).take (k + 1) ++ o.drop (k + 1) := by
  have h1 := (List.getElem?_eq_some_iff.1 ha)
  have h2 := (List.getElem?_eq_some_iff.1 hb)
  have hul : (upd lt o v).length = o.length := by unfold upd; rw [List.length_zipWith]; omega
  have h3 : ((upd lt o v).take k).length = k := by have := h1.1; rw [List.length_take]; omega
  have h4 : (upd lt o v)[k]? = some (if lt b a then b else a) := by
    unfold upd
    rw [List.getElem?_zipWith, ha, hb]
  rw [List.set_append_right _ _ (by omega), h3, Nat.sub_self, List.drop_eq_getElem_cons h1.1, List.set_cons_zero, List.take_add_one, h4]
  simp
theorem upd_get {lt : Int → Int → Bool} {o v : List Int} {k : Nat} {a : Int} (ha : o[k]? = some a) (hl : o.length = v.length) : ((upd lt o v).take k ++ o.drop k).getD k 0 = a := by
  have h1 := (List.getElem?_eq_some_iff.1 ha)
  have hul : (upd lt o v).length = o.length := by unfold upd; rw [List.length_zipWith]; omega
  have h3 : ((upd lt o v).take k).length = k := by have := h1.1; rw [List.length_take]; omega
  rw [List.getD_eq_getElem?_getD, List.getElem?_append_right (by omega), h3, Nat.sub_self, List.getElem?_drop, Nat.add_zero, ha]
  rfl
theorem upd_same {lt : Int → Int → Bool} {o v : List Int} {k : Nat} {a b : Int} (ha : o[k]? = some a) (hb : v[k]? = some b) (hl : o.length = v.length) (h : lt b a = false) :
    (upd lt o v).take k ++ o.drop k = (upd lt o v).take (k + 1) ++ o.drop (k + 1) := by
  rw [← upd_set ha hb hl, h]
  have h1 := (List.getElem?_eq_some_iff.1 ha)
  have hul : (upd lt o v).length = o.length := by unfold upd; rw [List.length_zipWith]; omega
  have h3 : ((upd lt o v).take k).length = k := by have := h1.1; rw [List.length_take]; omega
  rw [List.set_append_right _ _ (by omega), h3, Nat.sub_self, List.drop_eq_getElem_cons h1.1, List.set_cons_zero, h1.2]
  rfl

theorem most_c (size : List Int) (w : Nat) (data : List Int) (g : Nat) (lt : Int → Int → Bool) (hg : okGrid size w data = true) (hf : ∀ a b, Called Try.prog g [.int .i64 a, .int .i64 b] (.bool (lt a b))) (hirr : ∀ a, lt a a = false) :
    Called Try.prog 49 [.fn 54 [] [.ref [.ints .i64 size, .int .i64 w, .ints .i64 data], .ref [.fn 38 [gridD size w data] []]], .fn g [] []] (.ints .i64 (mst lt data w (PR (size.map Int.toNat)))) := by
  have hG := okGrid_iff hg
  obtain ⟨ns, hn0, hn1, hn2⟩ := nz_of hG.2.2.2.2.1
  have hsl : size.length = ns.length := by rw [hn0]; simp [nz]
  have hpos : ∀ n ∈ ns, 0 < n := fun n hn => by have := hn2 n hn; omega
  have hPR := PR_le (by omega) hn2
  have hPP := PR_pos hpos
  have hprod : prod size = (PR ns : Nat) := by rw [hn0, prod_nz]
  have hdl : data.length = PR ns * w := by
    have := hG.2.2.2.2.2.2.1
    rw [hprod, ← Int.natCast_mul] at this
    omega
  rw [hn1]
  have h1 : 1 ≤ ns.length ∧ ns.length ≤ 4 := by omega
  have hok : ∀ m, okIdx size (ixl ns m) = true := fun m => okIdx_iff.2 ⟨by rw [ixl_length]; omega, fun k n x h1 h2 => by
    rw [hn0] at h1
    simp only [nz, List.getElem?_map, Option.map_eq_some_iff] at h1
    obtain ⟨n', h3, rfl⟩ := h1
    exact ixl_bd hpos h3 h2⟩
  have hvc : ∀ m, m < PR ns → Called Try.prog 38 [gridD size w data, .iarr .i64 (pad4 (ixl ns m))] (.ints .i64 (slot data ((m * w : Nat) : Int) w)) := fun m hm => by
    have hpad := okIdx_pad (hok m) hG.2.1
    have := values_c size w data _ hg hpad.1 hpad.2
    have hpz : pz (size.zip (pad4 (ixl ns m))) = (m : Int) := by
      rw [zip_pad (hok m), hn0]
      have := pz_ixl_aux ns hpos m 0
      rw [Nat.mod_eq_of_lt hm] at this
      unfold pz nz
      simpa using this
    rw [hpz, ← Int.natCast_mul] at this
    exact this
  have hlen : size.length = ns.length := hsl
  refine called_of_run tbOk 6 ⟨Try.func49, rfl, rfl, Nat.le_of_ble_eq_true rfl⟩ ?_
  (conv => whnf)
  refine V.st ?_
  refine ⟨_, _, ⟨Try.func54, rfl, rfl, Nat.le_of_ble_eq_true rfl⟩, ?_⟩
  (conv => whnf)
  refine V.st ?_
  repeat ((try ((with_reducible refine .ext ?_); (conv => whnf))); (with_reducible refine call_intro (r := ?_) ?_ ?_); rotate_left; (focus (first | exact (all_c _))); (conv => whnf); refine V.st ?_)
  refine ⟨_, _, ⟨Try.func55, rfl, rfl, Nat.le_of_ble_eq_true rfl⟩, ?_⟩
  (conv => whnf)
  (conv => whnf)
  (try simp only [Nat.zero_add])
  repeat (first | (refine V.s1 ?_; (try simp only [Nat.zero_add])) | ((with_reducible refine recheck_and ?_ ?_); (focus ((conv => whnf); (try simp only [Nat.zero_add]); (repeat (refine V.s1 ?_; (try simp only [Nat.zero_add]))); exact ⟨rfl⟩)); (conv => whnf); (try simp only [Nat.zero_add])))
  refine lp_go (ns.length) (fun k => True) (fun k => [(10, .int .i64 k)]) (fun k => [(57, .arr .i64 (pad4 ((lastL ns).take k)))]) V.wk ?_ ?_
  · trivial
  intro k hk _
  (conv => whnf)
  refine V.st ?_
  refine Cnd.split (CondB.mk (fun h => ?_) (fun h => ?_))
  · rw [hlen] at h
    simp only [decide_eq_true_eq] at h
    have hk1 : k < ns.length := by omega
    obtain ⟨n, hn⟩ : ∃ n, ns[k]? = some n := ⟨ns[k], List.getElem?_eq_getElem hk1⟩
    have hnb := hn2 n (List.mem_of_getElem? hn)
    have en : size.getD k 0 = n := by rw [hn0]; simp [nz, List.getD_eq_getElem?_getD, hn]
    have hll : (lastL ns)[k]? = some ((n : Int) - 1) := by simp [lastL, hn]
    have hp4 : (pad4 ((lastL ns).take k)).length = 4 := pad4_length (by simp [lastL]; omega)
    have hps := pad4_set hll (by simp [lastL]; omega)
    (conv => whnf)
    (try simp only [en, Int.toNat_natCast, Nat.zero_add, hps])
    repeat (first | (refine V.s1 ?_; (try simp only [en, Int.toNat_natCast, Nat.zero_add, hps])) | ((with_reducible refine recheck_and ?_ ?_); (focus ((conv => whnf); (try simp only [en, Int.toNat_natCast, Nat.zero_add, hps]); (repeat (refine V.s1 ?_; (try simp only [en, Int.toNat_natCast, Nat.zero_add, hps]))); exact ⟨rfl⟩)); (conv => whnf); (try simp only [en, Int.toNat_natCast, Nat.zero_add, hps])))
    exact ⟨k + 1, ⟨by omega, trivial⟩, by omega, V.wk⟩
  · rw [hlen] at h
    simp only [decide_eq_false_iff_not] at h
    have hk1 : k = ns.length := by omega
    subst hk1
    have e0 : (lastL ns).take ns.length = lastL ns := List.take_of_length_le (by simp [lastL])
    rw [e0]
    (conv => whnf)
    refine V.st ?_
    have e1 := ixl_pad0 h1 hn2
    have hp4l : (pad4 (lastL ns)).length = 4 := pad4_length (by simp [lastL]; omega)
    refine lp_any 0 (fun k => k < PR ns) (fun k => PR ns - k) (fun k => []) (fun k => match k with
      | 0 => [(56, .arr .i64 (pad4 (ixl ns 0))), (5, .box [.nil])]
      | m + 1 => [(56, .arr .i64 (pad4 (ixl ns (m + 1)))), (5, .box [.osl 159 0 w]), (159, .arr .i64 (mst lt data w (m + 1)))]) ?_ hPP ?_
    · simp only [e1]
      exact V.wk
    intro m hm
    have hvm := hvc m hm
    have hp4 : (pad4 (ixl ns m)).length = 4 := pad4_length (by rw [ixl_length]; omega)
    have hvl := slot_m hdl hm
    have hml := mst_length (lt := lt) hdl (Nat.le_of_lt hm) hPP
    have hul : (upd lt (mst lt data w m) (slot data ((m * w : Nat) : Int) w)).length = w := by unfold upd; rw [List.length_zipWith]; omega
    cases m with
    | zero =>
      have hm0 : slot data ((0 * w : Nat) : Int) w = mst lt data w 0 := by simp [mst]
      rw [hm0] at hvm hvl hul
      have hvf : upd lt (mst lt data w 0) (mst lt data w 0) = mst lt data w 1 := by
        conv => rhs; unfold mst
        rw [hm0]
      generalize hv : mst lt data w 0 = vs at *
      (conv => whnf)
      refine V.st ?_
      repeat ((try ((with_reducible refine .ext ?_); (conv => whnf))); (with_reducible refine call_intro (r := ?_) ?_ ?_); rotate_left; (focus (first | exact (hvm))); (conv => whnf); refine V.st ?_)
      refine ⟨(.take 0 (.take 1 (.take 2 (.ev (.cons 3 [0] (.ev (.cons 4 [] (.take 5 (.done)) (.nil))) (.nil)))))), ⟨by kernel_rfl, by kernel_rfl, by kernel_rfl⟩, .go ?_⟩
      (conv => whnf)
      refine V.st ?_
      repeat ((try ((with_reducible refine .ext ?_); (conv => whnf))); (with_reducible refine call_intro (r := ?_) ?_ ?_); rotate_left; (focus (first | exact (hvm))); (conv => whnf); refine V.st ?_)
      refine .inl ?_
      (conv => whnf)
      refine ⟨0, _, _, ⟨Try.func12, rfl, rfl, Nat.le_of_ble_eq_true rfl⟩, ?_⟩
      (conv => whnf)
      refine AnyB.mk (fun h => ?_) (fun _ => ?_)
      · have := h rfl
        rw [this] at hvl
        simp at hvl
        omega
      (conv => whnf)
      try refine And.intro (fun _ => ⟨rfl, by simp; omega⟩) ?_
      have hol : vs.length = w := hml
      have he0 : vs = (upd lt vs vs).take 0 ++ vs.drop 0 := by simp
      (conv => whnf)
      (try simp only [Nat.zero_add, Nat.add_zero, List.nil_append, hvl])
      repeat (first | (refine V.s1 ?_; (try simp only [Nat.zero_add, Nat.add_zero, List.nil_append, hvl])) | ((with_reducible refine recheck_and ?_ ?_); (focus ((conv => whnf); (try simp only [Nat.zero_add, Nat.add_zero, List.nil_append, hvl]); (repeat (refine V.s1 ?_; (try simp only [Nat.zero_add, Nat.add_zero, List.nil_append, hvl]))); exact ⟨rfl⟩)); (conv => whnf); (try simp only [Nat.zero_add, Nat.add_zero, List.nil_append, hvl])))
      refine lp_go w (fun _ => True) (fun k => [(17, .int .i64 k)]) (fun k => [(159, .arr .i64 ((upd lt vs vs).take k ++ vs.drop k))]) ?_ trivial ?_
      · rw [← he0]
        exact V.wk
      intro k hk _
      (conv => whnf)
      refine V.st ?_
      refine Cnd.split (CondB.mk (fun hq => ?_) (fun hq => ?_))
      · rw [decide_eq_true_eq] at hq
        have hk1 : k < w := by omega
        obtain ⟨v, hv1, ev⟩ := getxn (xs := vs) (k := k) (by omega)
        obtain ⟨o, ho1, eo⟩ := getxn (xs := vs) (k := k) (by omega)
        have hug := upd_get (lt := lt) (v := vs) ho1 (by omega)
        have hus := upd_set (lt := lt) ho1 hv1 (by omega)
        have hul2 : ((upd lt vs vs).take k ++ vs.drop k).length = w := by simp; omega
        (conv => whnf)
        (try simp only [ev, Int.toNat_natCast, Nat.zero_add])
        repeat (first | (refine V.s1 ?_; (try simp only [ev, Int.toNat_natCast, Nat.zero_add])) | ((with_reducible refine recheck_and ?_ ?_); (focus ((conv => whnf); (try simp only [ev, Int.toNat_natCast, Nat.zero_add]); (repeat (refine V.s1 ?_; (try simp only [ev, Int.toNat_natCast, Nat.zero_add]))); exact ⟨rfl⟩)); (conv => whnf); (try simp only [ev, Int.toNat_natCast, Nat.zero_add])))
        refine ⟨(.take 0 (.take 1 (.take 2 (.take 3 (.take 4 (.take 5 (.ev (.cons 6 [] (.done) (.nil))))))))), ⟨by kernel_rfl, by kernel_rfl, by kernel_rfl⟩, .go ?_⟩
        (conv => whnf)
        (try simp only [ev, hug, Int.toNat_natCast, Nat.zero_add])
        repeat (first | (refine V.s1 ?_; (try simp only [ev, hug, Int.toNat_natCast, Nat.zero_add])) | ((with_reducible refine recheck_and ?_ ?_); (focus ((conv => whnf); (try simp only [ev, hug, Int.toNat_natCast, Nat.zero_add]); (repeat (refine V.s1 ?_; (try simp only [ev, hug, Int.toNat_natCast, Nat.zero_add]))); exact ⟨rfl⟩)); (conv => whnf); (try simp only [ev, hug, Int.toNat_natCast, Nat.zero_add])) | ((try ((with_reducible refine .ext ?_); (conv => whnf); (try simp only [ev, hug, Int.toNat_natCast, Nat.zero_add]))); (with_reducible refine call_intro (r := ?_) ?_ ?_); rotate_left; (focus (first | exact (hf _ _))); (conv => whnf); (try simp only [ev, hug, Int.toNat_natCast, Nat.zero_add])))
        refine cnd_meet [] [(159, .arr .i64 ((upd lt vs vs).take (k + 1) ++ vs.drop (k + 1)))] (CondB.mk (fun hc => ?_) (fun hc => ?_)) ?_
        · rw [hc, if_pos rfl] at hus
          (conv => whnf)
          (try simp only [ev, Int.toNat_natCast, Nat.zero_add, hus])
          repeat (first | (refine V.s1 ?_; (try simp only [ev, Int.toNat_natCast, Nat.zero_add, hus])) | ((with_reducible refine recheck_and ?_ ?_); (focus ((conv => whnf); (try simp only [ev, Int.toNat_natCast, Nat.zero_add, hus]); (repeat (refine V.s1 ?_; (try simp only [ev, Int.toNat_natCast, Nat.zero_add, hus]))); exact ⟨rfl⟩)); (conv => whnf); (try simp only [ev, Int.toNat_natCast, Nat.zero_add, hus])))
          exact V.wk
        · have hsm := upd_same ho1 hv1 (by omega) hc
          rw [← hsm]
          (conv => whnf)
          refine V.st ?_
          exact V.wk
        (conv => whnf)
        refine V.st ?_
        exact ⟨k + 1, ⟨by omega, trivial⟩, by omega, V.wk⟩
      · rw [decide_eq_false_iff_not] at hq
        have hk1 : k = w := by omega
        subst hk1
        have hfin : (upd lt vs vs).take k ++ vs.drop k = mst lt data k 1 := by
          rw [List.take_of_length_le (by omega), List.drop_of_length_le (by omega), List.append_nil]
          exact hvf
        rw [hfin]
        (conv => whnf)
        refine V.st ?_
        refine Cnd.split (CondB.mk (fun hq => ?_) (fun hq => ?_))
        · rw [decide_eq_true_eq] at hq
          have hq2 : ixl ns (0) = lastL ns := pad4_inj (by rw [ixl_length]; simp [lastL]) hq
          have hq3 := mod_last ns hpos (0) hq2
          rw [Nat.mod_eq_of_lt hm] at hq3
          have hq4 : 1 = PR ns := by omega
          have hml3 := mst_length (lt := lt) hdl (Nat.le_of_eq hq4) hPP
          (conv => whnf)
          refine V.st ?_
          rw [List.take_of_length_le (by omega), hq4]
          exact Fin.of rfl
        · rw [decide_eq_false_iff_not] at hq
          have hq2 : ixl ns (0) ≠ lastL ns := fun e => hq (by rw [← e])
          have hil := ixl_length ns (0)
          have hll : (lastL ns).length = ns.length := by simp [lastL]
          (conv => whnf)
          refine V.st ?_
          rw [hlen]
          have e2 : (ixl ns (0)).take ns.length = ixl ns (0) := List.take_of_length_le (by omega)
          refine lp_any (ns.length) (fun k => (1 ≤ k ∧ k ≤ ns.length) ∧ (ixl ns (0)).drop k = (lastL ns).drop k) (fun k => k) (fun k => [(7, .int .i64 ((k : Int) - 1))]) (fun k => [(56, .arr .i64 (pad4 ((ixl ns (0)).take k)))]) ?_ ?_ ?_
          · rw [e2]
            exact V.wk
          · exact ⟨⟨h1.1, Nat.le_refl _⟩, by rw [List.drop_of_length_le (by omega), List.drop_of_length_le (by omega)]⟩
          rintro p ⟨⟨hp1, hp2⟩, hp3⟩
          obtain ⟨p, rfl⟩ : ∃ q, p = q + 1 := ⟨p - 1, by omega⟩
          obtain ⟨x, hx⟩ : ∃ x, (ixl ns (0))[p]? = some x := ⟨_, List.getElem?_eq_getElem (by omega)⟩
          obtain ⟨n, hn⟩ : ∃ n, ns[p]? = some n := ⟨ns[p], List.getElem?_eq_getElem (by omega)⟩
          have hpx := pad4_get hx (by omega : p < p + 1) (by omega)
          have hpl : (lastL ns)[p]? = some ((n : Int) - 1) := by simp [lastL, hn]
          have hpl2 := pad4_get (k := 4) hpl (by omega) (by omega)
          rw [List.take_of_length_le (by omega)] at hpl2
          have hp5 : (pad4 ((ixl ns (0)).take (p + 1))).length = 4 := pad4_length (by simp; omega)
          have e3 : ((p + 1 : Nat) : Int) - 1 = (p : Int) := by omega
          have e4 := pad4_zero hx (by omega)
          (conv => whnf)
          refine V.st ?_
          refine ⟨(.take 0 (.take 1 (.take 2 (.take 3 (.take 4 (.take 5 (.take 6 (.done)))))))), ⟨by kernel_rfl, by kernel_rfl, by kernel_rfl⟩, .go ?_⟩
          (conv => whnf)
          (try simp only [e3, Int.toNat_natCast, Nat.zero_add, hpx, hpl2])
          repeat (first | (refine V.s1 ?_; (try simp only [e3, Int.toNat_natCast, Nat.zero_add, hpx, hpl2])) | ((with_reducible refine recheck_and ?_ ?_); (focus ((conv => whnf); (try simp only [e3, Int.toNat_natCast, Nat.zero_add, hpx, hpl2]); (repeat (refine V.s1 ?_; (try simp only [e3, Int.toNat_natCast, Nat.zero_add, hpx, hpl2]))); exact ⟨rfl⟩)); (conv => whnf); (try simp only [e3, Int.toNat_natCast, Nat.zero_add, hpx, hpl2])))
          refine Cnd.split (CondB.mk (fun hc => ?_) (fun hc => ?_))
          · rw [decide_eq_true_eq] at hc
            have hd : (ixl ns (0)).drop p = (lastL ns).drop p := by
              rw [List.drop_eq_getElem_cons (by omega : p < (ixl ns (0)).length), List.drop_eq_getElem_cons (by omega : p < (lastL ns).length), hp3, (List.getElem?_eq_some_iff.1 hx).2, (List.getElem?_eq_some_iff.1 hpl).2, hc]
            have hp0 : 1 ≤ p := by
              rcases Nat.eq_zero_or_pos p with e | e
              · subst e; exact absurd (by simpa using hd) hq2
              · exact e
            (conv => whnf)
            (try simp only [e3, Int.toNat_natCast, Nat.zero_add, e4])
            repeat (first | (refine V.s1 ?_; (try simp only [e3, Int.toNat_natCast, Nat.zero_add, e4])) | ((with_reducible refine recheck_and ?_ ?_); (focus ((conv => whnf); (try simp only [e3, Int.toNat_natCast, Nat.zero_add, e4]); (repeat (refine V.s1 ?_; (try simp only [e3, Int.toNat_natCast, Nat.zero_add, e4]))); exact ⟨rfl⟩)); (conv => whnf); (try simp only [e3, Int.toNat_natCast, Nat.zero_add, e4])))
            exact ⟨p, ⟨⟨hp0, by omega⟩, hd⟩, by omega, V.wk⟩
          · rw [decide_eq_false_iff_not] at hc
            have hsu := ixl_succ ns hpos (0) p n hn x hx (by rw [hp3]; simp [lastL]) hc
            have e5 := pad4_incr (y := x + 1) hx (by omega) (by omega : (ixl ns (0)).length ≤ 4)
            rw [hil, ← hsu] at e5
            have hxb := ixl_bd hpos hn hx
            have hnb := hn2 n (List.mem_of_getElem? hn)
            have hm1 : 1 < PR ns := by
              rcases Nat.lt_or_ge (1) (PR ns) with e | e
              · exact e
              · exfalso
                exact hq2 (last_mod ns hpos (0) (by rw [Nat.mod_eq_of_lt hm]; omega))
            (conv => whnf)
            (try simp only [e3, Int.toNat_natCast, Nat.zero_add, hpx, e5])
            repeat (first | (refine V.s1 ?_; (try simp only [e3, Int.toNat_natCast, Nat.zero_add, hpx, e5])) | ((with_reducible refine recheck_and ?_ ?_); (focus ((conv => whnf); (try simp only [e3, Int.toNat_natCast, Nat.zero_add, hpx, e5]); (repeat (refine V.s1 ?_; (try simp only [e3, Int.toNat_natCast, Nat.zero_add, hpx, e5]))); exact ⟨rfl⟩)); (conv => whnf); (try simp only [e3, Int.toNat_natCast, Nat.zero_add, hpx, e5])))
            exact ⟨1, hm1, by omega, V.wk⟩
    | succ m =>
      have hvf : upd lt (mst lt data w (m + 1)) (slot data (((m + 1) * w : Nat) : Int) w) = mst lt data w (m + 2) := by
        conv => rhs; unfold mst
      generalize hv : mst lt data w (m + 1) = vs at *
      generalize hv2 : slot data (((m + 1) * w : Nat) : Int) w = ws at *
      (conv => whnf)
      refine V.st ?_
      repeat ((try ((with_reducible refine .ext ?_); (conv => whnf))); (with_reducible refine call_intro (r := ?_) ?_ ?_); rotate_left; (focus (first | exact (hvm))); (conv => whnf); refine V.st ?_)
      refine ⟨(.take 0 (.take 1 (.take 2 (.ev (.cons 3 [0] (.ev (.cons 4 [] (.take 5 (.done)) (.nil))) (.nil)))))), ⟨by kernel_rfl, by kernel_rfl, by kernel_rfl⟩, .go ?_⟩
      (conv => whnf)
      refine V.st ?_
      repeat ((try ((with_reducible refine .ext ?_); (conv => whnf))); (with_reducible refine call_intro (r := ?_) ?_ ?_); rotate_left; (focus (first | exact (hvm))); (conv => whnf); refine V.st ?_)
      have hol : vs.length = w := hml
      have he0 : vs = (upd lt vs ws).take 0 ++ vs.drop 0 := by simp
      (conv => whnf)
      (try simp only [Nat.zero_add, Nat.add_zero, List.nil_append, hvl])
      repeat (first | (refine V.s1 ?_; (try simp only [Nat.zero_add, Nat.add_zero, List.nil_append, hvl])) | ((with_reducible refine recheck_and ?_ ?_); (focus ((conv => whnf); (try simp only [Nat.zero_add, Nat.add_zero, List.nil_append, hvl]); (repeat (refine V.s1 ?_; (try simp only [Nat.zero_add, Nat.add_zero, List.nil_append, hvl]))); exact ⟨rfl⟩)); (conv => whnf); (try simp only [Nat.zero_add, Nat.add_zero, List.nil_append, hvl])))
      refine lp_go w (fun _ => True) (fun k => [(17, .int .i64 k)]) (fun k => [(159, .arr .i64 ((upd lt vs ws).take k ++ vs.drop k))]) ?_ trivial ?_
      · rw [← he0, ← hv]
        exact V.wk
      intro k hk _
      (conv => whnf)
      refine V.st ?_
      refine Cnd.split (CondB.mk (fun hq => ?_) (fun hq => ?_))
      · rw [decide_eq_true_eq] at hq
        have hk1 : k < w := by omega
        obtain ⟨v, hv1, ev⟩ := getxn (xs := ws) (k := k) (by omega)
        obtain ⟨o, ho1, eo⟩ := getxn (xs := vs) (k := k) (by omega)
        have hug := upd_get (lt := lt) (v := ws) ho1 (by omega)
        have hus := upd_set (lt := lt) ho1 hv1 (by omega)
        have hul2 : ((upd lt vs ws).take k ++ vs.drop k).length = w := by simp; omega
        (conv => whnf)
        (try simp only [ev, Int.toNat_natCast, Nat.zero_add])
        repeat (first | (refine V.s1 ?_; (try simp only [ev, Int.toNat_natCast, Nat.zero_add])) | ((with_reducible refine recheck_and ?_ ?_); (focus ((conv => whnf); (try simp only [ev, Int.toNat_natCast, Nat.zero_add]); (repeat (refine V.s1 ?_; (try simp only [ev, Int.toNat_natCast, Nat.zero_add]))); exact ⟨rfl⟩)); (conv => whnf); (try simp only [ev, Int.toNat_natCast, Nat.zero_add])))
        refine ⟨(.take 0 (.take 1 (.take 2 (.take 3 (.take 4 (.take 5 (.ev (.cons 6 [] (.done) (.nil))))))))), ⟨by kernel_rfl, by kernel_rfl, by kernel_rfl⟩, .go ?_⟩
        (conv => whnf)
        (try simp only [ev, hug, Int.toNat_natCast, Nat.zero_add])
        repeat (first | (refine V.s1 ?_; (try simp only [ev, hug, Int.toNat_natCast, Nat.zero_add])) | ((with_reducible refine recheck_and ?_ ?_); (focus ((conv => whnf); (try simp only [ev, hug, Int.toNat_natCast, Nat.zero_add]); (repeat (refine V.s1 ?_; (try simp only [ev, hug, Int.toNat_natCast, Nat.zero_add]))); exact ⟨rfl⟩)); (conv => whnf); (try simp only [ev, hug, Int.toNat_natCast, Nat.zero_add])) | ((try ((with_reducible refine .ext ?_); (conv => whnf); (try simp only [ev, hug, Int.toNat_natCast, Nat.zero_add]))); (with_reducible refine call_intro (r := ?_) ?_ ?_); rotate_left; (focus (first | exact (hf _ _))); (conv => whnf); (try simp only [ev, hug, Int.toNat_natCast, Nat.zero_add])))
        refine cnd_meet [] [(159, .arr .i64 ((upd lt vs ws).take (k + 1) ++ vs.drop (k + 1)))] (CondB.mk (fun hc => ?_) (fun hc => ?_)) ?_
        · rw [hc, if_pos rfl] at hus
          (conv => whnf)
          (try simp only [ev, Int.toNat_natCast, Nat.zero_add, hus])
          repeat (first | (refine V.s1 ?_; (try simp only [ev, Int.toNat_natCast, Nat.zero_add, hus])) | ((with_reducible refine recheck_and ?_ ?_); (focus ((conv => whnf); (try simp only [ev, Int.toNat_natCast, Nat.zero_add, hus]); (repeat (refine V.s1 ?_; (try simp only [ev, Int.toNat_natCast, Nat.zero_add, hus]))); exact ⟨rfl⟩)); (conv => whnf); (try simp only [ev, Int.toNat_natCast, Nat.zero_add, hus])))
          exact V.wk
        · have hsm := upd_same ho1 hv1 (by omega) hc
          rw [← hsm]
          (conv => whnf)
          refine V.st ?_
          exact V.wk
        (conv => whnf)
        refine V.st ?_
        exact ⟨k + 1, ⟨by omega, trivial⟩, by omega, V.wk⟩
      · rw [decide_eq_false_iff_not] at hq
        have hk1 : k = w := by omega
        subst hk1
        have hfin : (upd lt vs ws).take k ++ vs.drop k = mst lt data k (m + 2) := by
          rw [List.take_of_length_le (by omega), List.drop_of_length_le (by omega), List.append_nil]
          exact hvf
        rw [hfin]
        (conv => whnf)
        refine V.st ?_
        refine Cnd.split (CondB.mk (fun hq => ?_) (fun hq => ?_))
        · rw [decide_eq_true_eq] at hq
          have hq2 : ixl ns (m + 1) = lastL ns := pad4_inj (by rw [ixl_length]; simp [lastL]) hq
          have hq3 := mod_last ns hpos (m + 1) hq2
          rw [Nat.mod_eq_of_lt hm] at hq3
          have hq4 : m + 2 = PR ns := by omega
          have hml3 := mst_length (lt := lt) hdl (Nat.le_of_eq hq4) hPP
          (conv => whnf)
          refine V.st ?_
          rw [List.take_of_length_le (by omega), hq4]
          exact Fin.of rfl
        · rw [decide_eq_false_iff_not] at hq
          have hq2 : ixl ns (m + 1) ≠ lastL ns := fun e => hq (by rw [← e])
          have hil := ixl_length ns (m + 1)
          have hll : (lastL ns).length = ns.length := by simp [lastL]
          (conv => whnf)
          refine V.st ?_
          rw [hlen]
          have e2 : (ixl ns (m + 1)).take ns.length = ixl ns (m + 1) := List.take_of_length_le (by omega)
          refine lp_any (ns.length) (fun k => (1 ≤ k ∧ k ≤ ns.length) ∧ (ixl ns (m + 1)).drop k = (lastL ns).drop k) (fun k => k) (fun k => [(7, .int .i64 ((k : Int) - 1))]) (fun k => [(56, .arr .i64 (pad4 ((ixl ns (m + 1)).take k)))]) ?_ ?_ ?_
          · rw [e2]
            exact V.wk
          · exact ⟨⟨h1.1, Nat.le_refl _⟩, by rw [List.drop_of_length_le (by omega), List.drop_of_length_le (by omega)]⟩
          rintro p ⟨⟨hp1, hp2⟩, hp3⟩
          obtain ⟨p, rfl⟩ : ∃ q, p = q + 1 := ⟨p - 1, by omega⟩
          obtain ⟨x, hx⟩ : ∃ x, (ixl ns (m + 1))[p]? = some x := ⟨_, List.getElem?_eq_getElem (by omega)⟩
          obtain ⟨n, hn⟩ : ∃ n, ns[p]? = some n := ⟨ns[p], List.getElem?_eq_getElem (by omega)⟩
          have hpx := pad4_get hx (by omega : p < p + 1) (by omega)
          have hpl : (lastL ns)[p]? = some ((n : Int) - 1) := by simp [lastL, hn]
          have hpl2 := pad4_get (k := 4) hpl (by omega) (by omega)
          rw [List.take_of_length_le (by omega)] at hpl2
          have hp5 : (pad4 ((ixl ns (m + 1)).take (p + 1))).length = 4 := pad4_length (by simp; omega)
          have e3 : ((p + 1 : Nat) : Int) - 1 = (p : Int) := by omega
          have e4 := pad4_zero hx (by omega)
          (conv => whnf)
          refine V.st ?_
          refine ⟨(.take 0 (.take 1 (.take 2 (.take 3 (.take 4 (.take 5 (.take 6 (.done)))))))), ⟨by kernel_rfl, by kernel_rfl, by kernel_rfl⟩, .go ?_⟩
          (conv => whnf)
          (try simp only [e3, Int.toNat_natCast, Nat.zero_add, hpx, hpl2])
          repeat (first | (refine V.s1 ?_; (try simp only [e3, Int.toNat_natCast, Nat.zero_add, hpx, hpl2])) | ((with_reducible refine recheck_and ?_ ?_); (focus ((conv => whnf); (try simp only [e3, Int.toNat_natCast, Nat.zero_add, hpx, hpl2]); (repeat (refine V.s1 ?_; (try simp only [e3, Int.toNat_natCast, Nat.zero_add, hpx, hpl2]))); exact ⟨rfl⟩)); (conv => whnf); (try simp only [e3, Int.toNat_natCast, Nat.zero_add, hpx, hpl2])))
          refine Cnd.split (CondB.mk (fun hc => ?_) (fun hc => ?_))
          · rw [decide_eq_true_eq] at hc
            have hd : (ixl ns (m + 1)).drop p = (lastL ns).drop p := by
              rw [List.drop_eq_getElem_cons (by omega : p < (ixl ns (m + 1)).length), List.drop_eq_getElem_cons (by omega : p < (lastL ns).length), hp3, (List.getElem?_eq_some_iff.1 hx).2, (List.getElem?_eq_some_iff.1 hpl).2, hc]
            have hp0 : 1 ≤ p := by
              rcases Nat.eq_zero_or_pos p with e | e
              · subst e; exact absurd (by simpa using hd) hq2
              · exact e
            (conv => whnf)
            (try simp only [e3, Int.toNat_natCast, Nat.zero_add, e4])
            repeat (first | (refine V.s1 ?_; (try simp only [e3, Int.toNat_natCast, Nat.zero_add, e4])) | ((with_reducible refine recheck_and ?_ ?_); (focus ((conv => whnf); (try simp only [e3, Int.toNat_natCast, Nat.zero_add, e4]); (repeat (refine V.s1 ?_; (try simp only [e3, Int.toNat_natCast, Nat.zero_add, e4]))); exact ⟨rfl⟩)); (conv => whnf); (try simp only [e3, Int.toNat_natCast, Nat.zero_add, e4])))
            exact ⟨p, ⟨⟨hp0, by omega⟩, hd⟩, by omega, V.wk⟩
          · rw [decide_eq_false_iff_not] at hc
            have hsu := ixl_succ ns hpos (m + 1) p n hn x hx (by rw [hp3]; simp [lastL]) hc
            have e5 := pad4_incr (y := x + 1) hx (by omega) (by omega : (ixl ns (m + 1)).length ≤ 4)
            rw [hil, ← hsu] at e5
            have hxb := ixl_bd hpos hn hx
            have hnb := hn2 n (List.mem_of_getElem? hn)
            have hm1 : m + 2 < PR ns := by
              rcases Nat.lt_or_ge (m + 2) (PR ns) with e | e
              · exact e
              · exfalso
                exact hq2 (last_mod ns hpos (m + 1) (by rw [Nat.mod_eq_of_lt hm]; omega))
            (conv => whnf)
            (try simp only [e3, Int.toNat_natCast, Nat.zero_add, hpx, e5])
            repeat (first | (refine V.s1 ?_; (try simp only [e3, Int.toNat_natCast, Nat.zero_add, hpx, e5])) | ((with_reducible refine recheck_and ?_ ?_); (focus ((conv => whnf); (try simp only [e3, Int.toNat_natCast, Nat.zero_add, hpx, e5]); (repeat (refine V.s1 ?_; (try simp only [e3, Int.toNat_natCast, Nat.zero_add, hpx, e5]))); exact ⟨rfl⟩)); (conv => whnf); (try simp only [e3, Int.toNat_natCast, Nat.zero_add, hpx, e5])))
            exact ⟨m + 2, hm1, by omega, V.wk⟩
end Go.Proofs.Ytfhmfpneiagakaa
