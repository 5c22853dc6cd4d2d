/- What some functions of the program answer at values that mean given lists, texts and numbers, each proved of the program's own code: part 36. Conditions: those that each theorem names. -/
import Derived.Test.YtgjgpdceghjajaaGreatDoorSimplexKnownH35
import Derived.Test.YtgjgpdceghjajaaGreatDoorSimplexKnownH31
import Derived.Test.YtgjgpdceghjajaaGreatDoorSimplexKnownH14
set_option linter.unusedSimpArgs false
set_option linter.unusedVariables false
set_option maxHeartbeats 8000000
set_option maxRecDepth 100000
section
namespace Go.Proofs.YtgjgpdceghjajaaGreatDoor
open Go Go.V Go.Gr
def upd (lt : Int → Int → Bool) (o v : List Int) : List Int := List.zipWith (fun a b => if lt b a then b else a) o v
def mst (lt : Int → Int → Bool) (data : List Int) (w : Nat) : Nat → List Int
 | 0 => slot data 0 w
 | m + 1 => upd lt (mst lt data w m) (slot data ((m * w : Nat) : Int) w)
theorem lt_c (a b : Int) : Called Tryz.prog 53 [.int .i64 a, .int .i64 b] (.bool (decide (a < b))) := by
 refine jaa tbOk 6 ⟨Tryz.func53, rfl, rfl, jhy rfl⟩ ?_
 (conv => whnf)
 refine V.st ?_
 exact Fin.of rfl
theorem gt_c (a b : Int) : Called Tryz.prog 54 [.int .i64 a, .int .i64 b] (.bool (decide (a > b))) := by
 refine jaa tbOk 6 ⟨Tryz.func54, rfl, rfl, jhy rfl⟩ ?_
 (conv => whnf)
 refine V.st ?_
 exact Fin.of rfl
theorem tpoints_c (size : List Int) (out : Int) (data : List Int) : Called Tryz.prog 52 [gridD size out data] (.fn 92 [] [.ref [.ints .i64 size, .int .i64 out, .ints .i64 data], .ref [.fn 40 [gridD size out data] []]]) := by
 refine jaa tbOk 6 ⟨Tryz.func52, rfl, rfl, jhy rfl⟩ ?_
 (conv => whnf)
 refine V.st ?_
 exact Fin.of rfl
theorem jfR {data : List Int} {w m n : Nat} (h : data.length = n * w) (hm : m < n) : (slot data ((m * w : Nat) : Int) w).length = w := by
 unfold slot
 rw [jhD, jhD]
 simp
 have : (m + 1) * w ≤ n * w := Nat.mul_le_mul_right w hm
 rw [Nat.add_mul] at this
 omega
theorem jcC {lt : Int → Int → Bool} {data : List Int} {w m n : Nat} (h : data.length = n * w) (hm : m ≤ n) (hn : 0 < n) : (mst lt data w m).length = w := by
 induction m with
 | zero => have := jfR (m := 0) h hn; simpa [mst] using this
 | succ m ih =>
  unfold mst upd
  rw [List.length_zipWith, ih (by omega), jfR h (by omega)]
  omega
theorem jff {lt : Int → Int → Bool} {o v : List Int} {k : Nat} {a b : Int} (ha : o[k]? = some a) (hb : v[k]? = some b) (hl : o.length = v.length) :
  ((upd lt o v).take k ++ o.drop k).set k (if lt b a then b else a) = (upd lt o v).take (k + 1) ++ o.drop (k + 1) := by
 have h1 := (List.getElem?_eq_some_iff.1 ha)
 have h2 := (List.getElem?_eq_some_iff.1 hb)
 have hul : (upd lt o v).length = o.length := by unfold upd; rw [List.length_zipWith]; omega
 have h3 : ((upd lt o v).take k).length = k := by have := h1.1; rw [List.length_take]; omega
 have h4 : (upd lt o v)[k]? = some (if lt b a then b else a) := by
  unfold upd
  rw [List.getElem?_zipWith, ha, hb]
 rw [List.set_append_right _ _ (by omega), h3, Nat.sub_self, List.drop_eq_getElem_cons h1.1, List.set_cons_zero, List.take_add_one, h4]
 simp
theorem jgm {lt : Int → Int → Bool} {o v : List Int} {k : Nat} {a : Int} (ha : o[k]? = some a) (hl : o.length = v.length) : ((upd lt o v).take k ++ o.drop k).getD k 0 = a := by
 have h1 := (List.getElem?_eq_some_iff.1 ha)
 have hul : (upd lt o v).length = o.length := by unfold upd; rw [List.length_zipWith]; omega
 have h3 : ((upd lt o v).take k).length = k := by have := h1.1; rw [List.length_take]; omega
 rw [List.getD_eq_getElem?_getD, List.getElem?_append_right (by omega), h3, Nat.sub_self, List.getElem?_drop, Nat.add_zero, ha]
 rfl
theorem upd_same {lt : Int → Int → Bool} {o v : List Int} {k : Nat} {a b : Int} (ha : o[k]? = some a) (hb : v[k]? = some b) (hl : o.length = v.length) (h : lt b a = false) :
  (upd lt o v).take k ++ o.drop k = (upd lt o v).take (k + 1) ++ o.drop (k + 1) := by
 rw [← jff ha hb hl, h]
 have h1 := (List.getElem?_eq_some_iff.1 ha)
 have hul : (upd lt o v).length = o.length := by unfold upd; rw [List.length_zipWith]; omega
 have h3 : ((upd lt o v).take k).length = k := by have := h1.1; rw [List.length_take]; omega
 rw [List.set_append_right _ _ (by omega), h3, Nat.sub_self, List.drop_eq_getElem_cons h1.1, List.set_cons_zero, h1.2]
 rfl
theorem jhd : type_of% @jhD ∧ type_of% @jhC := ⟨@jhD, @jhC⟩
theorem most_c (size : List Int) (w : Nat) (data : List Int) (g : Nat) (lt : Int → Int → Bool) (hg : jan size w data = true) (hf : ∀ a b, Called Tryz.prog g [.int .i64 a, .int .i64 b] (.bool (lt a b))) (hirr : ∀ a, lt a a = false) :
    Called Tryz.prog 51 [.fn 92 [] [.ref [.ints .i64 size, .int .i64 w, .ints .i64 data], .ref [.fn 40 [gridD size w data] []]], .fn g [] []] (.ints .i64 (mst lt data w (PR (size.map Int.toNat)))) := by
  have hG := jbh hg
  obtain ⟨ns, hn0, hn1, hn2⟩ := nz_of hG.2.2.2.2.1
  have hsl : size.length = ns.length := by rw [hn0]; simp [nz]
  have hpos : ∀ n ∈ ns, 0 < n := fun n hn => by have := hn2 n hn; omega
  have hPR := PR_le (by omega) hn2
  have hPP := jdG hpos
  have hprod : prod size = (PR ns : Nat) := by rw [hn0, jgy]
  have hdl : data.length = PR ns * w := by
    have := hG.2.2.2.2.2.2.1
    rw [hprod, ← jhM] at this
    omega
  rw [hn1]
  have h1 : 1 ≤ ns.length ∧ ns.length ≤ 4 := by omega
  have hok : ∀ m, okIdx size (ixl ns m) = true := fun m => jbn.2 ⟨by rw [jau]; omega, fun k n x h1 h2 => by
    rw [hn0] at h1
    simp only [nz, List.getElem?_map, Option.map_eq_some_iff] at h1
    obtain ⟨n', h3, rfl⟩ := h1
    exact jdC hpos h3 h2⟩
  have hvc : ∀ m, m < PR ns → Called Tryz.prog 40 [gridD size w data, .iarr .i64 (pad4 (ixl ns m))] (.ints .i64 (slot data ((m * w : Nat) : Int) w)) := fun m hm => by
    have hpad := jef (hok m) hG.2.1
    have := values_c size w data _ hg hpad.1 hpad.2
    have hpz : pz (size.zip (pad4 (ixl ns m))) = (m : Int) := by
      rw [zip_pad (hok m), hn0]
      have := pz_ixl_aux ns hpos m 0
      rw [jhH hm] at this
      unfold pz nz
      simpa using this
    rw [hpz, ← jhM] at this
    exact this
  have hlen : size.length = ns.length := hsl
  refine jaa tbOk 6 ⟨Tryz.func51, rfl, rfl, jhy rfl⟩ ?_
  (conv => whnf)
  refine V.st ?_
  refine ⟨_, _, ⟨Tryz.func92, rfl, rfl, jhy rfl⟩, ?_⟩
  (conv => whnf)
  refine V.st ?_
  repeat ((try ((with_reducible refine .ext ?_); (conv => whnf))); (with_reducible refine jab (r := ?_) ?_ ?_); rotate_left; (focus (first | exact (all_c _))); (conv => whnf); refine V.st ?_)
  refine ⟨_, _, ⟨Tryz.func116, rfl, rfl, jhy rfl⟩, ?_⟩
  (conv => whnf)
  (conv => whnf)
  (try simp only [jhC])
  repeat ((first | refine V.s1 ?_); (try simp only [jhC]))
  refine lp_go (ns.length) (fun k => True) (fun k => [(10, .int .i64 k)]) (fun k => [(57, .arr .i64 (pad4 ((lastL ns).take k)))]) V.wk ?_ ?_
  · trivial
  intro k hk _
  (conv => whnf)
  refine V.st ?_
  refine Cnd.split (CondB.mk (fun h => ?_) (fun h => ?_))
  · rw [hlen] at h
    simp only [decide_eq_true_eq] at h
    have hk1 : k < ns.length := by omega
    obtain ⟨n, hn⟩ : ∃ n, ns[k]? = some n := ⟨ns[k], List.getElem?_eq_getElem hk1⟩
    have hnb := hn2 n (List.mem_of_getElem? hn)
    have en : size.getD k 0 = n := by rw [hn0]; simp [nz, List.getD_eq_getElem?_getD, hn]
    have hll : (lastL ns)[k]? = some ((n : Int) - 1) := by simp [lastL, hn]
    have hp4 : (pad4 ((lastL ns).take k)).length = 4 := jap (by simp [lastL]; omega)
    have hps := jdO hll (by simp [lastL]; omega)
    (conv => whnf)
    (try simp only [jhd, en, hps])
    repeat ((first | refine V.s1 ?_); (try simp only [jhd, en, hps]))
    exact ⟨k + 1, ⟨by omega, trivial⟩, by omega, V.wk⟩
  · rw [hlen] at h
    simp only [decide_eq_false_iff_not] at h
    have hk1 : k = ns.length := by omega
    subst hk1
    have e0 : (lastL ns).take ns.length = lastL ns := List.take_of_length_le (by simp [lastL])
    rw [e0]
    (conv => whnf)
    refine V.st ?_
    have e1 := jfA h1 hn2
    have hp4l : (pad4 (lastL ns)).length = 4 := jap (by simp [lastL]; omega)
    refine jah 0 (fun k => k < PR ns) (fun k => PR ns - k) (fun k => []) (fun k => match k with
      | 0 => [(56, .arr .i64 (pad4 (ixl ns 0))), (5, .box [.nil])]
      | m + 1 => [(56, .arr .i64 (pad4 (ixl ns (m + 1)))), (5, .box [.osl 159 0 w]), (159, .arr .i64 (mst lt data w (m + 1)))]) ?_ hPP ?_
    · simp only [e1]
      exact V.wk
    intro m hm
    have hvm := hvc m hm
    have hp4 : (pad4 (ixl ns m)).length = 4 := jap (by rw [jau]; omega)
    have hvl := jfR hdl hm
    have hml := jcC (lt := lt) hdl (Nat.le_of_lt hm) hPP
    have hul : (upd lt (mst lt data w m) (slot data ((m * w : Nat) : Int) w)).length = w := by unfold upd; rw [List.length_zipWith]; omega
    cases m with
    | zero =>
      have hm0 : slot data ((0 * w : Nat) : Int) w = mst lt data w 0 := by simp [mst]
      rw [hm0] at hvm hvl hul
      have hvf : upd lt (mst lt data w 0) (mst lt data w 0) = mst lt data w 1 := by
        conv => rhs; unfold mst
        rw [hm0]
      generalize hv : mst lt data w 0 = vs at *
      (conv => whnf)
      refine V.st ?_
      repeat ((try ((with_reducible refine .ext ?_); (conv => whnf))); (with_reducible refine jab (r := ?_) ?_ ?_); rotate_left; (focus (first | exact (hvm))); (conv => whnf); refine V.st ?_)
      refine ⟨(.take 0 (.take 1 (.take 2 (.ev (.cons 3 [0] (.ev (.cons 4 [] (.take 5 (.done)) (.nil))) (.nil)))))), [], ⟨by kernel_rfl, by kernel_rfl, by kernel_rfl, by kernel_rfl⟩, .go (jag ?_)⟩
      (conv => whnf)
      refine V.st ?_
      repeat ((try ((with_reducible refine .ext ?_); (conv => whnf))); (with_reducible refine jab (r := ?_) ?_ ?_); rotate_left; (focus (first | exact (hvm))); (conv => whnf); refine V.st ?_)
      refine .inl ?_
      (conv => whnf)
      refine ⟨0, _, _, ⟨Tryz.func19, rfl, rfl, jhy rfl⟩, ?_⟩
      (conv => whnf)
      refine AnyB.mk (fun h => ?_) (fun _ => ?_)
      · have := h rfl
        rw [this] at hvl
        simp at hvl
        omega
      (conv => whnf)
      try refine And.intro (fun _ => ⟨rfl, by simp; omega⟩) ?_
      have hol : vs.length = w := hml
      have he0 : vs = (upd lt vs vs).take 0 ++ vs.drop 0 := by simp
      (conv => whnf)
      (try simp only [jhC, Nat.add_zero, List.nil_append, hvl])
      repeat ((first | refine V.s1 ?_); (try simp only [jhC, Nat.add_zero, List.nil_append, hvl]))
      refine lp_go w (fun _ => True) (fun k => [(17, .int .i64 k)]) (fun k => [(159, .arr .i64 ((upd lt vs vs).take k ++ vs.drop k))]) ?_ trivial ?_
      · rw [← he0]
        exact V.wk
      intro k hk _
      (conv => whnf)
      refine V.st ?_
      refine Cnd.split (CondB.mk (fun hq => ?_) (fun hq => ?_))
      · rw [decide_eq_true_eq] at hq
        have hk1 : k < w := by omega
        obtain ⟨v, hv1, ev⟩ := getxn (xs := vs) (k := k) (by omega)
        obtain ⟨o, ho1, eo⟩ := getxn (xs := vs) (k := k) (by omega)
        have hug := jgm (lt := lt) (v := vs) ho1 (by omega)
        have hus := jff (lt := lt) ho1 hv1 (by omega)
        have hul2 : ((upd lt vs vs).take k ++ vs.drop k).length = w := by simp; omega
        (conv => whnf)
        (try simp only [jhd, ev])
        repeat ((first | refine V.s1 ?_); (try simp only [jhd, ev]))
        refine ⟨(.take 0 (.take 1 (.take 2 (.take 3 (.take 4 (.take 5 (.ev (.cons 6 [] (.done) (.nil))))))))), [], ⟨by kernel_rfl, by kernel_rfl, by kernel_rfl, by kernel_rfl⟩, .go (jag ?_)⟩
        (conv => whnf)
        (try simp only [jhd, ev, hug])
        repeat ((first | refine V.s1 ?_ | ((try ((with_reducible refine .ext ?_); (conv => whnf); (try simp only [jhd, ev, hug]))); (with_reducible refine jab (r := ?_) ?_ ?_); rotate_left; (focus (first | exact (hf _ _))); (conv => whnf))); (try simp only [jhd, ev, hug]))
        refine jcI [] [(159, .arr .i64 ((upd lt vs vs).take (k + 1) ++ vs.drop (k + 1)))] (CondB.mk (fun hc => ?_) (fun hc => ?_)) ?_
        · rw [hc, if_pos rfl] at hus
          (conv => whnf)
          (try simp only [jhd, ev, hus])
          repeat ((first | refine V.s1 ?_); (try simp only [jhd, ev, hus]))
          exact V.wk
        · have hsm := upd_same ho1 hv1 (by omega) hc
          rw [← hsm]
          (conv => whnf)
          refine V.st ?_
          exact V.wk
        (conv => whnf)
        refine V.st ?_
        exact ⟨k + 1, ⟨by omega, trivial⟩, by omega, V.wk⟩
      · rw [decide_eq_false_iff_not] at hq
        have hk1 : k = w := by omega
        subst hk1
        have hfin : (upd lt vs vs).take k ++ vs.drop k = mst lt data k 1 := by
          rw [List.take_of_length_le (by omega), List.drop_of_length_le (by omega), List.append_nil]
          exact hvf
        rw [hfin]
        (conv => whnf)
        refine V.st ?_
        refine Cnd.split (CondB.mk (fun hq => ?_) (fun hq => ?_))
        · rw [decide_eq_true_eq] at hq
          have hq2 : ixl ns (0) = lastL ns := jdP (by rw [jau]; simp [lastL]) hq
          have hq3 := jc9 ns hpos (0) hq2
          rw [jhH hm] at hq3
          have hq4 : 1 = PR ns := by omega
          have hml3 := jcC (lt := lt) hdl (Nat.le_of_eq hq4) hPP
          (conv => whnf)
          refine V.st ?_
          rw [List.take_of_length_le (by omega), hq4]
          exact Fin.of rfl
        · rw [decide_eq_false_iff_not] at hq
          have hq2 : ixl ns (0) ≠ lastL ns := fun e => hq (by rw [← e])
          have hil := jau ns (0)
          have hll : (lastL ns).length = ns.length := by simp [lastL]
          (conv => whnf)
          refine V.st ?_
          rw [hlen]
          have e2 : (ixl ns (0)).take ns.length = ixl ns (0) := List.take_of_length_le (by omega)
          refine jah (ns.length) (fun k => (1 ≤ k ∧ k ≤ ns.length) ∧ (ixl ns (0)).drop k = (lastL ns).drop k) (fun k => k) (fun k => [(7, .int .i64 ((k : Int) - 1))]) (fun k => [(56, .arr .i64 (pad4 ((ixl ns (0)).take k)))]) ?_ ?_ ?_
          · rw [e2]
            exact V.wk
          · exact ⟨⟨h1.1, jhE _⟩, by rw [List.drop_of_length_le (by omega), List.drop_of_length_le (by omega)]⟩
          rintro p ⟨⟨hp1, hp2⟩, hp3⟩
          obtain ⟨p, rfl⟩ : ∃ q, p = q + 1 := ⟨p - 1, by omega⟩
          obtain ⟨x, hx⟩ : ∃ x, (ixl ns (0))[p]? = some x := ⟨_, List.getElem?_eq_getElem (by omega)⟩
          obtain ⟨n, hn⟩ : ∃ n, ns[p]? = some n := ⟨ns[p], List.getElem?_eq_getElem (by omega)⟩
          have hpx := jbl hx (by omega : p < p + 1) (by omega)
          have hpl : (lastL ns)[p]? = some ((n : Int) - 1) := by simp [lastL, hn]
          have hpl2 := jbl (k := 4) hpl (by omega) (by omega)
          rw [List.take_of_length_le (by omega)] at hpl2
          have hp5 : (pad4 ((ixl ns (0)).take (p + 1))).length = 4 := jap (by simp; omega)
          have e3 : ((p + 1 : Nat) : Int) - 1 = (p : Int) := by omega
          have e4 := jc8 hx (by omega)
          (conv => whnf)
          refine V.st ?_
          refine ⟨(.take 0 (.take 1 (.take 2 (.take 3 (.take 4 (.take 5 (.take 6 (.done)))))))), [], ⟨by kernel_rfl, by kernel_rfl, by kernel_rfl, by kernel_rfl⟩, .go (jag ?_)⟩
          (conv => whnf)
          (try simp only [jhd, e3, hpx, hpl2])
          repeat ((first | refine V.s1 ?_); (try simp only [jhd, e3, hpx, hpl2]))
          refine Cnd.split (CondB.mk (fun hc => ?_) (fun hc => ?_))
          · rw [decide_eq_true_eq] at hc
            have hd : (ixl ns (0)).drop p = (lastL ns).drop p := by
              rw [List.drop_eq_getElem_cons (by omega : p < (ixl ns (0)).length), List.drop_eq_getElem_cons (by omega : p < (lastL ns).length), hp3, (List.getElem?_eq_some_iff.1 hx).2, (List.getElem?_eq_some_iff.1 hpl).2, hc]
            have hp0 : 1 ≤ p := by
              rcases jhF p with e | e
              · subst e; exact absurd (by simpa using hd) hq2
              · exact e
            (conv => whnf)
            (try simp only [jhd, e3, e4])
            repeat ((first | refine V.s1 ?_); (try simp only [jhd, e3, e4]))
            exact ⟨p, ⟨⟨hp0, by omega⟩, hd⟩, by omega, V.wk⟩
          · rw [decide_eq_false_iff_not] at hc
            have hsu := jdS ns hpos (0) p n hn x hx (by rw [hp3]; simp [lastL]) hc
            have e5 := jcp (y := x + 1) hx (by omega) (by omega : (ixl ns (0)).length ≤ 4)
            rw [hil, ← hsu] at e5
            have hxb := jdC hpos hn hx
            have hnb := hn2 n (List.mem_of_getElem? hn)
            have hm1 : 1 < PR ns := by
              rcases jhK (1) (PR ns) with e | e
              · exact e
              · exfalso
                exact hq2 (jdc ns hpos (0) (by rw [jhH hm]; omega))
            (conv => whnf)
            (try simp only [jhd, e3, hpx, e5])
            repeat ((first | refine V.s1 ?_); (try simp only [jhd, e3, hpx, e5]))
            exact ⟨1, hm1, by omega, V.wk⟩
    | succ m =>
      have hvf : upd lt (mst lt data w (m + 1)) (slot data (((m + 1) * w : Nat) : Int) w) = mst lt data w (m + 2) := by
        conv => rhs; unfold mst
      generalize hv : mst lt data w (m + 1) = vs at *
      generalize hv2 : slot data (((m + 1) * w : Nat) : Int) w = ws at *
      (conv => whnf)
      refine V.st ?_
      repeat ((try ((with_reducible refine .ext ?_); (conv => whnf))); (with_reducible refine jab (r := ?_) ?_ ?_); rotate_left; (focus (first | exact (hvm))); (conv => whnf); refine V.st ?_)
      refine ⟨(.take 0 (.take 1 (.take 2 (.ev (.cons 3 [0] (.ev (.cons 4 [] (.take 5 (.done)) (.nil))) (.nil)))))), [], ⟨by kernel_rfl, by kernel_rfl, by kernel_rfl, by kernel_rfl⟩, .go (jag ?_)⟩
      (conv => whnf)
      refine V.st ?_
      repeat ((try ((with_reducible refine .ext ?_); (conv => whnf))); (with_reducible refine jab (r := ?_) ?_ ?_); rotate_left; (focus (first | exact (hvm))); (conv => whnf); refine V.st ?_)
      have hol : vs.length = w := hml
      have he0 : vs = (upd lt vs ws).take 0 ++ vs.drop 0 := by simp
      (conv => whnf)
      (try simp only [jhC, Nat.add_zero, List.nil_append, hvl])
      repeat ((first | refine V.s1 ?_); (try simp only [jhC, Nat.add_zero, List.nil_append, hvl]))
      refine lp_go w (fun _ => True) (fun k => [(17, .int .i64 k)]) (fun k => [(159, .arr .i64 ((upd lt vs ws).take k ++ vs.drop k))]) ?_ trivial ?_
      · rw [← he0, ← hv]
        exact V.wk
      intro k hk _
      (conv => whnf)
      refine V.st ?_
      refine Cnd.split (CondB.mk (fun hq => ?_) (fun hq => ?_))
      · rw [decide_eq_true_eq] at hq
        have hk1 : k < w := by omega
        obtain ⟨v, hv1, ev⟩ := getxn (xs := ws) (k := k) (by omega)
        obtain ⟨o, ho1, eo⟩ := getxn (xs := vs) (k := k) (by omega)
        have hug := jgm (lt := lt) (v := ws) ho1 (by omega)
        have hus := jff (lt := lt) ho1 hv1 (by omega)
        have hul2 : ((upd lt vs ws).take k ++ vs.drop k).length = w := by simp; omega
        (conv => whnf)
        (try simp only [jhd, ev])
        repeat ((first | refine V.s1 ?_); (try simp only [jhd, ev]))
        refine ⟨(.take 0 (.take 1 (.take 2 (.take 3 (.take 4 (.take 5 (.ev (.cons 6 [] (.done) (.nil))))))))), [], ⟨by kernel_rfl, by kernel_rfl, by kernel_rfl, by kernel_rfl⟩, .go (jag ?_)⟩
        (conv => whnf)
        (try simp only [jhd, ev, hug])
        repeat ((first | refine V.s1 ?_ | ((try ((with_reducible refine .ext ?_); (conv => whnf); (try simp only [jhd, ev, hug]))); (with_reducible refine jab (r := ?_) ?_ ?_); rotate_left; (focus (first | exact (hf _ _))); (conv => whnf))); (try simp only [jhd, ev, hug]))
        refine jcI [] [(159, .arr .i64 ((upd lt vs ws).take (k + 1) ++ vs.drop (k + 1)))] (CondB.mk (fun hc => ?_) (fun hc => ?_)) ?_
        · rw [hc, if_pos rfl] at hus
          (conv => whnf)
          (try simp only [jhd, ev, hus])
          repeat ((first | refine V.s1 ?_); (try simp only [jhd, ev, hus]))
          exact V.wk
        · have hsm := upd_same ho1 hv1 (by omega) hc
          rw [← hsm]
          (conv => whnf)
          refine V.st ?_
          exact V.wk
        (conv => whnf)
        refine V.st ?_
        exact ⟨k + 1, ⟨by omega, trivial⟩, by omega, V.wk⟩
      · rw [decide_eq_false_iff_not] at hq
        have hk1 : k = w := by omega
        subst hk1
        have hfin : (upd lt vs ws).take k ++ vs.drop k = mst lt data k (m + 2) := by
          rw [List.take_of_length_le (by omega), List.drop_of_length_le (by omega), List.append_nil]
          exact hvf
        rw [hfin]
        (conv => whnf)
        refine V.st ?_
        refine Cnd.split (CondB.mk (fun hq => ?_) (fun hq => ?_))
        · rw [decide_eq_true_eq] at hq
          have hq2 : ixl ns (m + 1) = lastL ns := jdP (by rw [jau]; simp [lastL]) hq
          have hq3 := jc9 ns hpos (m + 1) hq2
          rw [jhH hm] at hq3
          have hq4 : m + 2 = PR ns := by omega
          have hml3 := jcC (lt := lt) hdl (Nat.le_of_eq hq4) hPP
          (conv => whnf)
          refine V.st ?_
          rw [List.take_of_length_le (by omega), hq4]
          exact Fin.of rfl
        · rw [decide_eq_false_iff_not] at hq
          have hq2 : ixl ns (m + 1) ≠ lastL ns := fun e => hq (by rw [← e])
          have hil := jau ns (m + 1)
          have hll : (lastL ns).length = ns.length := by simp [lastL]
          (conv => whnf)
          refine V.st ?_
          rw [hlen]
          have e2 : (ixl ns (m + 1)).take ns.length = ixl ns (m + 1) := List.take_of_length_le (by omega)
          refine jah (ns.length) (fun k => (1 ≤ k ∧ k ≤ ns.length) ∧ (ixl ns (m + 1)).drop k = (lastL ns).drop k) (fun k => k) (fun k => [(7, .int .i64 ((k : Int) - 1))]) (fun k => [(56, .arr .i64 (pad4 ((ixl ns (m + 1)).take k)))]) ?_ ?_ ?_
          · rw [e2]
            exact V.wk
          · exact ⟨⟨h1.1, jhE _⟩, by rw [List.drop_of_length_le (by omega), List.drop_of_length_le (by omega)]⟩
          rintro p ⟨⟨hp1, hp2⟩, hp3⟩
          obtain ⟨p, rfl⟩ : ∃ q, p = q + 1 := ⟨p - 1, by omega⟩
          obtain ⟨x, hx⟩ : ∃ x, (ixl ns (m + 1))[p]? = some x := ⟨_, List.getElem?_eq_getElem (by omega)⟩
          obtain ⟨n, hn⟩ : ∃ n, ns[p]? = some n := ⟨ns[p], List.getElem?_eq_getElem (by omega)⟩
          have hpx := jbl hx (by omega : p < p + 1) (by omega)
          have hpl : (lastL ns)[p]? = some ((n : Int) - 1) := by simp [lastL, hn]
          have hpl2 := jbl (k := 4) hpl (by omega) (by omega)
          rw [List.take_of_length_le (by omega)] at hpl2
          have hp5 : (pad4 ((ixl ns (m + 1)).take (p + 1))).length = 4 := jap (by simp; omega)
          have e3 : ((p + 1 : Nat) : Int) - 1 = (p : Int) := by omega
          have e4 := jc8 hx (by omega)
          (conv => whnf)
          refine V.st ?_
          refine ⟨(.take 0 (.take 1 (.take 2 (.take 3 (.take 4 (.take 5 (.take 6 (.done)))))))), [], ⟨by kernel_rfl, by kernel_rfl, by kernel_rfl, by kernel_rfl⟩, .go (jag ?_)⟩
          (conv => whnf)
          (try simp only [jhd, e3, hpx, hpl2])
          repeat ((first | refine V.s1 ?_); (try simp only [jhd, e3, hpx, hpl2]))
          refine Cnd.split (CondB.mk (fun hc => ?_) (fun hc => ?_))
          · rw [decide_eq_true_eq] at hc
            have hd : (ixl ns (m + 1)).drop p = (lastL ns).drop p := by
              rw [List.drop_eq_getElem_cons (by omega : p < (ixl ns (m + 1)).length), List.drop_eq_getElem_cons (by omega : p < (lastL ns).length), hp3, (List.getElem?_eq_some_iff.1 hx).2, (List.getElem?_eq_some_iff.1 hpl).2, hc]
            have hp0 : 1 ≤ p := by
              rcases jhF p with e | e
              · subst e; exact absurd (by simpa using hd) hq2
              · exact e
            (conv => whnf)
            (try simp only [jhd, e3, e4])
            repeat ((first | refine V.s1 ?_); (try simp only [jhd, e3, e4]))
            exact ⟨p, ⟨⟨hp0, by omega⟩, hd⟩, by omega, V.wk⟩
          · rw [decide_eq_false_iff_not] at hc
            have hsu := jdS ns hpos (m + 1) p n hn x hx (by rw [hp3]; simp [lastL]) hc
            have e5 := jcp (y := x + 1) hx (by omega) (by omega : (ixl ns (m + 1)).length ≤ 4)
            rw [hil, ← hsu] at e5
            have hxb := jdC hpos hn hx
            have hnb := hn2 n (List.mem_of_getElem? hn)
            have hm1 : m + 2 < PR ns := by
              rcases jhK (m + 2) (PR ns) with e | e
              · exact e
              · exfalso
                exact hq2 (jdc ns hpos (m + 1) (by rw [jhH hm]; omega))
            (conv => whnf)
            (try simp only [jhd, e3, hpx, e5])
            repeat ((first | refine V.s1 ?_); (try simp only [jhd, e3, hpx, e5]))
            exact ⟨m + 2, hm1, by omega, V.wk⟩
theorem rl_mst {lt : Int → Int → Bool} {data : List Int} {w n : Nat} (h : data.length = n * w) (hw : 0 < w) : ∀ m, m ≤ n → rl lt data w (m * w) = mst lt data w m := by
 intro m
 induction m with
 | zero => intro _; simp [rl, mst]
 | succ m ih =>
  intro hm
  have ih := ih (by omega)
  have hwl : w ≤ data.length := by rw [h]; exact Nat.le_mul_of_pos_left _ (by omega)
  have hR := jd6 (lt := lt) hwl (m * w)
  have hS := jfR h (by omega : m < n)
  have key : ∀ k, k ≤ w → rl lt data w (m * w + k) = (upd lt (rl lt data w (m * w)) (slot data ((m * w : Nat) : Int) w)).take k ++ (rl lt data w (m * w)).drop k := by
   intro k
   induction k with
   | zero => intro _; simp
   | succ k ihk =>
    intro hk
    have ihk := ihk (by omega)
    have e1 : (m * w + k) % w = k := by
     rw [Nat.add_comm, Nat.add_mul_mod_self_right, jhH (by omega)]
    obtain ⟨a, ha⟩ : ∃ a, (rl lt data w (m * w))[k]? = some a := ⟨_, List.getElem?_eq_getElem (by omega)⟩
    obtain ⟨b, hb⟩ : ∃ b, (slot data ((m * w : Nat) : Int) w)[k]? = some b := ⟨_, List.getElem?_eq_getElem (by omega)⟩
    have hb2 : data.getD (m * w + k) 0 = b := by
     have := hb
     unfold slot at this
     rw [jhD, jhD, List.getElem?_take_of_lt (by omega), List.getElem?_drop] at this
     rw [List.getD_eq_getElem?_getD, this]; rfl
    have hug := jgm (lt := lt) (v := slot data ((m * w : Nat) : Int) w) ha (by omega)
    have hus := jff (lt := lt) ha hb (by omega)
    rw [← hus, ← Nat.add_assoc]
    conv => lhs; unfold rl
    rw [e1, ihk, hb2, hug]
  have hk := key w (jhE _)
  have hul : (upd lt (rl lt data w (m * w)) (slot data ((m * w : Nat) : Int) w)).length = w := by unfold upd; rw [List.length_zipWith]; omega
  rw [Nat.add_mul, Nat.one_mul, hk, List.take_of_length_le (by omega), List.drop_of_length_le (by omega), List.append_nil, ih]
  rfl
theorem range_c (size : List Int) (out : Int) (data : List Int) (hs : size.length ≤ 281474976710656) (hd : data.length ≤ 281474976710656) :
  Called Tryz.prog 25 [gridD size out data] (.tup [.ints .i64 (if jan size out data then rl (fun a b => decide (a < b)) data out.toNat data.length else []), .ints .i64 (if jan size out data then rl (fun a b => decide (a > b)) data out.toNat data.length else []), .int .i64 (if jan size out data then 0 else 100)]) := by
 refine jaa tbOk 6 ⟨Tryz.func25, rfl, rfl, jhy rfl⟩ ?_
 (conv => whnf)
 refine V.st ?_
 repeat ((try ((with_reducible refine .ext ?_); (conv => whnf))); (with_reducible refine jab (r := ?_) ?_ ?_); rotate_left; (focus (first | exact (jch _ _ _ hs hd))); (conv => whnf); refine V.st ?_)
 cases hg : jan size out data with
 | false =>
  refine Cnd.split (CondB.mk (fun h => ?_) (fun h => ?_))
  ·(conv => whnf)
   refine V.st ?_
   exact Fin.tup ⟨Fin.nil _, Fin.nil _, Fin.of rfl, trivial⟩
  ·simp at h
 | true =>
  have hG := jbh hg
  obtain ⟨w, rfl⟩ : ∃ w : Nat, out = w := ⟨out.toNat, by omega⟩
  obtain ⟨ns, hn0, hn1, hn2⟩ := nz_of hG.2.2.2.2.1
  have hprod : prod size = (PR ns : Nat) := by rw [hn0, jgy]
  have hdl : data.length = PR ns * w := by
   have := hG.2.2.2.2.2.2.1
   rw [hprod, ← jhM] at this
   omega
  have e1 := rl_mst (lt := fun a b => decide (a < b)) hdl (by omega) (PR ns) (jhE _)
  have e2 := rl_mst (lt := fun a b => decide (a > b)) hdl (by omega) (PR ns) (jhE _)
  rw [← hdl] at e1 e2
  have m1 := most_c size w data 53 (fun a b => decide (a < b)) hg lt_c (fun a => by simp)
  have m2 := most_c size w data 54 (fun a b => decide (a > b)) hg gt_c (fun a => by simp)
  rw [hn1, ← e1] at m1
  rw [hn1, ← e2] at m2
  refine Cnd.split (CondB.mk (fun h => ?_) (fun h => ?_))
  ·simp at h
  (conv => whnf)
  refine V.st ?_
  repeat ((try ((with_reducible refine .ext ?_); (conv => whnf))); (with_reducible refine jab (r := ?_) ?_ ?_); rotate_left; (focus (first | exact (tpoints_c _ _ _) | exact (m1) | exact (m2))); (conv => whnf); refine V.st ?_)
  exact Fin.of rfl
theorem pzf (ns : List Nat) (x : List Int) (p : Int) : x.length = ns.length → ((nz ns).zip x).foldl (fun p a => p * a.1 + a.2) p = p * (PR ns : Int) + pz ((nz ns).zip x) := by
 induction ns generalizing x p with
 | nil => intro _; simp [pz, nz, PR]
 | cons n r ih =>
  intro hl
  cases x with
  | nil => simp at hl
  | cons a s =>
   have hl' : s.length = r.length := by simpa using hl
   simp only [nz, List.map_cons, List.zip_cons_cons, List.foldl_cons, pz, PR]
   have e1 := ih s (p * (n : Int) + a) hl'
   have e2 := ih s (0 * (n : Int) + a) hl'
   simp only [nz] at e1 e2
   rw [e1, e2]
   simp only [jhM, jhX, jhP, Int.zero_mul, Int.zero_add]
   omega
theorem pz_cons (n : Nat) (r : List Nat) (a : Int) (s : List Int) (h : s.length = r.length) : pz ((nz (n :: r)).zip (a :: s)) = a * (PR r : Int) + pz ((nz r).zip s) := by
 have := pzf r s a h
 unfold pz at this ⊢
 simp only [nz, List.map_cons, List.zip_cons_cons, List.foldl_cons, Int.zero_mul, Int.zero_add] at this ⊢
 exact this
theorem ixl_pz : ∀ (ns : List Nat) (x : List Int), okIdx (nz ns) x = true → (0 ≤ pz ((nz ns).zip x) ∧ pz ((nz ns).zip x) < PR ns) ∧ ixl ns (pz ((nz ns).zip x)).toNat = x
 | [], x, h => by
  have h1 := (jbn.1 h).1
  simp [nz] at h1
  subst h1
  simp [pz, nz, PR, ixl]
 | n :: r, [], h => by
  have h1 := (jbn.1 h).1
  simp [nz] at h1
 | n :: r, a :: s, h => by
  obtain ⟨h1, h2⟩ := jbn.1 h
  have hl : s.length = r.length := by simpa [nz] using h1
  have ha := h2 0 n a (by simp [nz]) rfl
  have hr : okIdx (nz r) s = true := jbn.2 ⟨by simpa [nz] using hl, fun k n' x' g1 g2 => h2 (k + 1) n' x' (by simpa [nz] using g1) (by simpa using g2)⟩
  obtain ⟨⟨i1, i2⟩, i3⟩ := ixl_pz r s hr
  rw [pz_cons n r a s hl]
  have hpos : ∀ y ∈ r, 0 < y := fun y hy => by
   obtain ⟨k, hk⟩ := List.getElem?_of_mem hy
   have hk2 : k < s.length := by have := (List.getElem?_eq_some_iff.1 hk).1; omega
   have := h2 (k + 1) y s[k] (by simp [nz, hk]) (by simp [hk2])
   omega
  have hP := jdG hpos
  generalize pz ((nz r).zip s) = q at *
  obtain ⟨q, rfl⟩ : ∃ m : Nat, q = m := ⟨q.toNat, by omega⟩
  obtain ⟨a, rfl⟩ : ∃ m : Nat, a = m := ⟨a.toNat, by omega⟩
  have e : ((a : Int) * (PR r : Int) + (q : Int)) = ((a * PR r + q : Nat) : Int) := by simp
  have hq : q < PR r := by omega
  have han : a < n := by omega
  rw [e, jhD] at *
  refine ⟨⟨by omega, ?_⟩, ?_⟩
  ·have : a * PR r + q < (a + 1) * PR r := by rw [Nat.add_mul]; omega
   have h5 : (a + 1) * PR r ≤ n * PR r := Nat.mul_le_mul_right _ han
   rw [PR]
   omega
  ·have e1 : (a * PR r + q) / PR r = a := by
    rw [jhG, Nat.mul_add_div hP, Nat.div_eq_of_lt hq, Nat.add_zero]
   have e2 : ixl r (a * PR r + q) = s := by
    rw [← jgO r hpos, jhG, Nat.mul_add_mod, jgO r hpos]
    exact i3
   simp only [ixl, e1, e2, jhH han]
structure Ord (lt : Int → Int → Bool) : Prop where
 irr : ∀ a, lt a a = false
 tr : ∀ a b c, lt b a = false → lt c b = false → lt c a = false
 anti : ∀ a b, lt a b = false → lt b a = false → a = b
 asym : ∀ a b, lt a b = true → lt b a = false
theorem ord_lt : Ord fun a b => decide (a < b) := ⟨fun a => by simp, fun a b c h1 h2 => by simp at *; omega, fun a b h1 h2 => by simp at *; omega, fun a b h => by simp at *; omega⟩
theorem ord_gt : Ord fun a b => decide (a > b) := ⟨fun a => by simp, fun a b c h1 h2 => by simp at *; omega, fun a b h1 h2 => by simp at *; omega, fun a b h => by simp at *; omega⟩
def col (data : List Int) (w m k : Nat) : Int := (slot data ((m * w : Nat) : Int) w).getD k 0
theorem updGet {lt : Int → Int → Bool} {o v : List Int} {k : Nat} (h1 : k < o.length) (h2 : k < v.length) : (upd lt o v).getD k 0 = if lt (v.getD k 0) (o.getD k 0) then v.getD k 0 else o.getD k 0 := by
 unfold upd
 simp [List.getD_eq_getElem?_getD, List.getElem?_zipWith, h1, h2]
theorem mst_spec {lt : Int → Int → Bool} (O : Ord lt) {data : List Int} {w n : Nat} (h : data.length = n * w) {k : Nat} (hk : k < w) : ∀ m, m ≤ n → 0 < n →
  (∀ j, j < m → lt (col data w j k) ((mst lt data w m).getD k 0) = false) ∧ ∃ j, j < max m 1 ∧ (mst lt data w m).getD k 0 = col data w j k := by
 intro m
 induction m with
 | zero => intro _ _; exact ⟨fun j hj => by omega, 0, by omega, by simp [mst, col]⟩
 | succ m ih =>
  intro hm hn
  obtain ⟨h1, j, hj, h2⟩ := ih (by omega) hn
  have hl1 := jcC (lt := lt) h (by omega : m ≤ n) hn
  have hl2 := jfR h (by omega : m < n)
  have hu := updGet (lt := lt) (o := mst lt data w m) (v := slot data ((m * w : Nat) : Int) w) (k := k) (by omega) (by omega)
  have hc : (slot data ((m * w : Nat) : Int) w).getD k 0 = col data w m k := rfl
  rw [hc] at hu
  simp only [mst]
  rw [hu]
  cases hb : lt (col data w m k) ((mst lt data w m).getD k 0) with
  | true =>
   rw [if_pos rfl]
   refine ⟨fun i hi => ?_, m, by omega, rfl⟩
   by_cases him : i = m
   ·subst him; exact O.irr _
   ·have h3 := h1 i (by omega)
    cases hc2 : lt (col data w i k) (col data w m k) with
    | false => rfl
    | true =>
     have h4 := O.asym _ _ hb
     rw [O.tr _ _ _ h4 h3] at hc2
     cases hc2
  | false =>
   rw [if_neg (by simp)]
   refine ⟨fun i hi => ?_, j, by omega, h2⟩
   by_cases him : i = m
   ·subst him; exact hb
   ·exact h1 i (by omega)
def sg (ns : List Nat) (a b m : Nat) : Nat := (pz ((nz ns).zip (swp (ixl (swn ns a b) m) a b))).toNat
end Go.Proofs.YtgjgpdceghjajaaGreatDoor
end
section
namespace Go.Proofs.YtgjgpdceghjajaaGreatDoor
open Go Go.V Go.Gr Go.Nb
theorem nz_ofz {zs : List Int} (h : ∀ z ∈ zs, 0 ≤ z) : nz (zs.map Int.toNat) = zs := by
 unfold nz
 rw [List.map_map]
 conv => rhs; rw [← List.map_id zs]
 exact List.map_congr_left fun z hz => Int.toNat_of_nonneg (h z hz)
def loL (out : Int) (data : List Int) : List Int := rl (fun a b => decide (a < b)) data out.toNat data.length
def hiL (out : Int) (data : List Int) : List Int := rl (fun a b => decide (a > b)) data out.toNat data.length
theorem rng_ok {zs : List Int} {out : Int} {data : List Int} (hg : jan zs out data = true) : data.length = PR (zs.map Int.toNat) * out.toNat ∧ 0 < PR (zs.map Int.toNat) ∧ (loL out data).length = out.toNat ∧ (hiL out data).length = out.toNat := by
 have og := jaI hg
 have e := nz_ofz (zs := zs) fun z hz => by have := og.2.1 z hz; omega
 have p := jgy (zs.map Int.toNat)
 rw [e] at p
 have h1 : (data.length : Int) = ((PR (zs.map Int.toNat) * out.toNat : Nat) : Int) := by
  rw [og.2.2.1.2, p, jhM, Int.toNat_of_nonneg (by omega)]
 have h2 : data.length = PR (zs.map Int.toNat) * out.toNat := by exact_mod_cast h1
 have h3 : 0 < PR (zs.map Int.toNat) := by
  have : ∀ l : List Int, (∀ z ∈ l, 2 ≤ z ∧ z ≤ 9) → 0 < prod l := fun l hl => by
   have g : ∀ (l : List Int) (a : Int), 0 < a → (∀ z ∈ l, 2 ≤ z ∧ z ≤ 9) → 0 < l.foldl (· * ·) a := by
    intro l
    induction l with
    | nil => exact fun a ha _ => ha
    | cons z l ih => exact fun a ha hz => ih (a * z) (Int.mul_pos ha (by have := hz z (List.mem_cons_self ..); omega)) fun y hy => hz y (List.mem_cons_of_mem _ hy)
   exact g l 1 (by decide) hl
  have := this zs og.2.1
  omega
 have h4 : out.toNat ≤ data.length := by
  rw [h2]
  exact Nat.le_mul_of_pos_left _ h3
 exact ⟨h2, h3, jd6 h4 _, jd6 h4 _⟩
theorem col_bd {data : List Int} (h : ∀ v ∈ data, 0 ≤ v ∧ v ≤ 65535) (w m k : Nat) : 0 ≤ col data w m k ∧ col data w m k ≤ 65535 := jck h _ _ _
theorem jd5 {zs : List Int} {out : Int} {data : List Int} (hg : jan zs out data = true) {j : Nat} (hj : j < out.toNat) :
  (0 ≤ (loL out data).getD j 0 ∧ (loL out data).getD j 0 ≤ 65535) ∧ (0 ≤ (hiL out data).getD j 0 ∧ (hiL out data).getD j 0 ≤ 65535) ∧
  ∀ xs, okIdx zs xs = true → (loL out data).getD j 0 ≤ (slot data (pz (zs.zip xs) * out) out).getD j 0 ∧ (slot data (pz (zs.zip xs) * out) out).getD j 0 ≤ (hiL out data).getD j 0 := by
 have og := jaI hg
 have r := rng_ok hg
 have s1 := mst_spec ord_lt r.1 hj (PR (zs.map Int.toNat)) (jhE _) r.2.1
 have s2 := mst_spec ord_gt r.1 hj (PR (zs.map Int.toNat)) (jhE _) r.2.1
 have e1 := rl_mst (lt := fun a b => decide (a < b)) r.1 (by omega) (PR (zs.map Int.toNat)) (jhE _)
 have e2 := rl_mst (lt := fun a b => decide (a > b)) r.1 (by omega) (PR (zs.map Int.toNat)) (jhE _)
 rw [← r.1] at e1 e2
 rw [← e1] at s1
 rw [← e2] at s2
 refine ⟨?_, ?_, fun xs hx => ?_⟩
 ·obtain ⟨_, m, _, e⟩ := s1
  show 0 ≤ (rl _ data out.toNat data.length).getD j 0 ∧ (rl _ data out.toNat data.length).getD j 0 ≤ 65535
  rw [e]
  exact col_bd og.2.2.2 _ _ _
 ·obtain ⟨_, m, _, e⟩ := s2
  show 0 ≤ (rl _ data out.toNat data.length).getD j 0 ∧ (rl _ data out.toNat data.length).getD j 0 ≤ 65535
  rw [e]
  exact col_bd og.2.2.2 _ _ _
 ·have e := nz_ofz (zs := zs) fun z hz => by have := og.2.1 z hz; omega
  have ip := ixl_pz (zs.map Int.toNat) xs (by rw [e]; exact hx)
  rw [e] at ip
  have em : pz (zs.zip xs) * out = (((pz (zs.zip xs)).toNat * out.toNat : Nat) : Int) := by
   rw [jhM, Int.toNat_of_nonneg ip.1.1, Int.toNat_of_nonneg (by omega)]
  have hm : (pz (zs.zip xs)).toNat < PR (zs.map Int.toNat) := by omega
  have a1 := s1.1 _ hm
  have a2 := s2.1 _ hm
  have ec : (slot data (pz (zs.zip xs) * out) out).getD j 0 = col data out.toNat (pz (zs.zip xs)).toNat j := by
   unfold col
   rw [em, show ((out.toNat : Nat) : Int) = out from by omega]
  rw [ec]
  simp only [decide_eq_false_iff_not] at a1 a2
  unfold loL hiL
  omega
theorem range_q {zs : List Int} {out : Int} {data : List Int} (hg : jan zs out data = true) (hl : zs.length ≤ 4) : Called Tryz.prog 25 [gridD zs out data] (.tup [.ints .i64 (loL out data), .ints .i64 (hiL out data), .int .i64 0]) := by
 have og := jaI hg
 have c := range_c zs out data (by omega) (by omega)
 rw [hg] at c
 exact c
def clI (v : Int) : Int := min (max v 0) 1000000000000
def midB (b : Int × Int) : Rat := Rat.divInt (clI b.1 + clI b.2) 2000000000000
def halB (b : Int × Int) : Rat := Rat.divInt (clI b.2 - clI b.1) 2000000000000
def bce (B : Nat → Int × Int) : Nat → List D
 | 0 => []
 | k + 1 => bce B k ++ [.int .i64 (B k).1, .int .i64 (B k).2]
def slB (B : Nat → Int × Int) (n : Nat) : D := .slf 2 n (fun j => List.take 2 (List.drop (j * 2) (bce B n)))
theorem jbQ (v : Int) : 0 ≤ clI v ∧ clI v ≤ 1000000000000 := by unfold clI; omega
theorem clI_mono {a b : Int} (h : a ≤ b) : clI a ≤ clI b := by unfold clI; omega
theorem jg6 {b : Int × Int} (h : vb b.1 b.2 = true) : Called Tryz.prog 57 [.agg [.int .i64 b.1, .int .i64 b.2], .int .i64 0, .int .i64 1000000000000] (.tup [.agg [.int .i64 (clI b.1), .int .i64 (clI b.2)], .int .i64 0]) := by
 have c := clamp_b b.1 b.2 0 1000000000000
 have v := jbq.1 h
 have b1 := jbQ b.1
 have b2 := jbQ b.2
 have m := clI_mono v.2.1
 rw [if_pos h, if_pos (jbq.2 (by omega))] at c
 have e : mk (min (max b.1 0) 1000000000000) (min (max b.2 0) 1000000000000) = (clI b.1, clI b.2, 0) := by
  unfold mk
  rw [if_pos (jbq.2 (by unfold clI at *; omega))]
  rfl
 rw [e] at c
 exact c
theorem divQ (a : Int) : Rat.divInt a 2000000000000 = (a : Rat) / 2000000000000 := by
 rw [Rat.divInt_eq_div]
 rfl
theorem divF (a : Int) : Rat.divInt a 65535 = (a : Rat) / 65535 := by
 rw [Rat.divInt_eq_div]
 rfl
theorem fq_mid (b : Int × Int) : Fq 14 (midB b) := by
 have b1 := jbQ b.1
 have b2 := jbQ b.2
 exact jaZ (n := 14) (d := 2000000000000) (by decide) (by omega) (by decide)
theorem fq_hal (b : Int × Int) : Fq 14 (halB b) := by
 have b1 := jbQ b.1
 have b2 := jbQ b.2
 exact jaZ (n := 14) (d := 2000000000000) (by decide) (by omega) (by decide)
theorem hal_bd {b : Int × Int} (h : vb b.1 b.2 = true) : 0 ≤ halB b ∧ halB b ≤ 1 := by
 have b1 := jbQ b.1
 have b2 := jbQ b.2
 have m := clI_mono (jbq.1 h).2.1
 unfold halB
 rw [divQ]
 have g1 : (0 : Rat) ≤ ((clI b.2 - clI b.1 : Int) : Rat) := by exact_mod_cast (show (0 : Int) ≤ clI b.2 - clI b.1 by omega)
 have g2 : ((clI b.2 - clI b.1 : Int) : Rat) ≤ ((1000000000000 : Int) : Rat) := Rat.intCast_le_intCast.2 (by omega)
 rw [show ((1000000000000 : Int) : Rat) = 1000000000000 from rfl] at g2
 constructor <;> grind
theorem fq_full {v : Int} (h : 0 ≤ v ∧ v ≤ 65535) : Fq 10 (Rat.divInt v 65535) := jaZ (n := 10) (d := 65535) (by decide) (by omega) (by decide)
def sprQ (zs data : List Int) (out : Int) (n : Nat) (X : Nat → Int × Int) (j : Nat) : Rat := smF (fun i => (((outS zs data out zs.length j).getD i 0 : Int) : Rat) * halB (X i)) (n - 1) / 65535
theorem spr_term {st : List Int} {n i : Nat} {b : Int × Int} (hs : rowOk n st) (h : vb b.1 b.2 = true) : 0 ≤ ((st.getD i 0 : Int) : Rat) * halB b ∧ ((st.getD i 0 : Int) : Rat) * halB b ≤ 600000 := by
 have g := hal_bd h
 have s := hs.2 i
 have s0 : (0 : Rat) ≤ ((st.getD i 0 : Int) : Rat) := by exact_mod_cast s.1
 have s1 : ((st.getD i 0 : Int) : Rat) ≤ ((600000 : Int) : Rat) := Rat.intCast_le_intCast.2 s.2
 rw [show ((600000 : Int) : Rat) = 600000 from rfl] at s1
 have m1 := Rat.mul_le_mul_of_nonneg_left g.2 s0
 have m0 := Rat.mul_le_mul_of_nonneg_left g.1 s0
 constructor <;> grind
theorem smF_bd {P : Nat → Rat} {n : Nat} (h : ∀ i, i ≤ n → 0 ≤ P i ∧ P i ≤ 600000) : ∀ k, k ≤ n → 0 ≤ smF P k ∧ smF P k ≤ 600000 * (((k + 1 : Nat) : Int) : Rat)
 | 0, hk => by
  have := h 0 hk
  simp only [smF]
  rw [show (((0 + 1 : Nat) : Int) : Rat) = 1 from rfl]
  constructor <;> grind
 | k + 1, hk => by
  have a := smF_bd h k (by omega)
  have b := h (k + 1) hk
  simp only [smF]
  rw [show (((k + 1 + 1 : Nat) : Int) : Rat) = (((k + 1 : Nat) : Int) : Rat) + 1 by rw [Int.natCast_add, Rat.intCast_add]; rfl]
  constructor <;> grind
theorem fq_ev2 {x0 x1 : Rat} {z0 z1 out : Int} {data : List Int} (hg : jan [z0, z1] out data = true) (h0 : Fq 40 x0) (h1 : Fq 40 x1) (j : Nat) : Fq 376 (evQ [z0, z1] out data x0 x1 0 j) := by
 have og := jaI hg
 have s0 := og.2.1 z0 (by simp)
 have f0 := jbF h0 (by decide) s0
 have s1 := og.2.1 z1 (by simp)
 have f1 := jbF h1 (by decide) s1
 have fr : ∀ k, Fq 43 (rqN (spR z0 x0) (spR z1 x1) 0 k) := fq_rq f0 f1 jgU
 rw [ev2_sm s0.1 s1.1]
 have fm : ∀ k, Fq 92 ((fun k => wqN (rqN (spR z0 x0) (spR z1 x1) 0) (ord2 (spR z0 x0) (spR z1 x1)) 2 k * (((slot data (pz ([z0, z1].zip ((atK [spB z0 x0, spB z1 x1, 0, 0] (ord2 (spR z0 x0) (spR z1 x1)) k).take 2)) * out) out).getD j 0 : Int) : Rat)) k) := fun k => (fq_wq fr _ 2 k).mul (jaW (n := 5) (by have := jck og.2.2.2 (pz ([z0, z1].zip ((atK [spB z0 x0, spB z1 x1, 0, 0] (ord2 (spR z0 x0) (spR z1 x1)) k).take 2)) * out) out j; omega) (by omega))
 have s := fq_sm fm 2
 have q := s.div (jaW (n := 5) (z := 65535) jbb (by decide)) jcF
 rw [show ((65535 : Int) : Rat) = 65535 from rfl] at q
 exact q.mono (by decide)
theorem ev_in2 {x0 x1 : Rat} {z0 z1 out : Int} {data : List Int} (hg : jan [z0, z1] out data = true) {j : Nat} (hj : j < out.toNat) : Rat.divInt ((loL out data).getD j 0) 65535 ≤ evQ [z0, z1] out data x0 x1 0 j ∧ evQ [z0, z1] out data x0 x1 0 j ≤ Rat.divInt ((hiL out data).getD j 0) 65535 := by
 have og := jaI hg
 have rb := jd5 hg hj
 have s0 := og.2.1 z0 (by simp)
 have s1 := og.2.1 z1 (by simp)
 have b := ev_bd (s0 := z0) (s1 := z1) (s2 := 2) (v := gvF [z0, z1] out data j) (m := (((loL out data).getD j 0 : Int) : Rat)) (M := (((hiL out data).getD j 0 : Int) : Rat)) (by omega) (fun i k l hi hk hl => by
  have g := rb.2.2 [i, k] (by simp [okIdx]; omega)
  exact ⟨Rat.intCast_le_intCast.2 g.1, Rat.intCast_le_intCast.2 g.2⟩) x0 x1 0
 rw [divF, divF]
 show _ ≤ evF z0 z1 2 (gvF [z0, z1] out data j) x0 x1 0 / 65535 ∧ evF z0 z1 2 (gvF [z0, z1] out data j) x0 x1 0 / 65535 ≤ _
 constructor <;> grind
theorem fq_ev3 {x0 x1 x2 : Rat} {z0 z1 z2 out : Int} {data : List Int} (hg : jan [z0, z1, z2] out data = true) (h0 : Fq 40 x0) (h1 : Fq 40 x1) (h2 : Fq 40 x2) (j : Nat) : Fq 376 (evQ [z0, z1, z2] out data x0 x1 x2 j) := by
 have og := jaI hg
 have s0 := og.2.1 z0 (by simp)
 have f0 := jbF h0 (by decide) s0
 have s1 := og.2.1 z1 (by simp)
 have f1 := jbF h1 (by decide) s1
 have s2 := og.2.1 z2 (by simp)
 have f2 := jbF h2 (by decide) s2
 have fr : ∀ k, Fq 43 (rqN (spR z0 x0) (spR z1 x1) (spR z2 x2) k) := fq_rq f0 f1 f2
 rw [ev3_sm s0.1 s1.1 s2.1]
 have fm : ∀ k, Fq 92 ((fun k => wqN (rqN (spR z0 x0) (spR z1 x1) (spR z2 x2)) (ord3 (spR z0 x0) (spR z1 x1) (spR z2 x2)) 3 k * (((slot data (pz ([z0, z1, z2].zip ((atK [spB z0 x0, spB z1 x1, spB z2 x2, 0] (ord3 (spR z0 x0) (spR z1 x1) (spR z2 x2)) k).take 3)) * out) out).getD j 0 : Int) : Rat)) k) := fun k => (fq_wq fr _ 3 k).mul (jaW (n := 5) (by have := jck og.2.2.2 (pz ([z0, z1, z2].zip ((atK [spB z0 x0, spB z1 x1, spB z2 x2, 0] (ord3 (spR z0 x0) (spR z1 x1) (spR z2 x2)) k).take 3)) * out) out j; omega) (by omega))
 have s := fq_sm fm 3
 have q := s.div (jaW (n := 5) (z := 65535) jbb (by decide)) jcF
 rw [show ((65535 : Int) : Rat) = 65535 from rfl] at q
 exact q.mono (by decide)
theorem ev_in3 {x0 x1 x2 : Rat} {z0 z1 z2 out : Int} {data : List Int} (hg : jan [z0, z1, z2] out data = true) {j : Nat} (hj : j < out.toNat) : Rat.divInt ((loL out data).getD j 0) 65535 ≤ evQ [z0, z1, z2] out data x0 x1 x2 j ∧ evQ [z0, z1, z2] out data x0 x1 x2 j ≤ Rat.divInt ((hiL out data).getD j 0) 65535 := by
 have og := jaI hg
 have rb := jd5 hg hj
 have s0 := og.2.1 z0 (by simp)
 have s1 := og.2.1 z1 (by simp)
 have s2 := og.2.1 z2 (by simp)
 have b := ev_bd (s0 := z0) (s1 := z1) (s2 := z2) (v := gvF [z0, z1, z2] out data j) (m := (((loL out data).getD j 0 : Int) : Rat)) (M := (((hiL out data).getD j 0 : Int) : Rat)) (by omega) (fun i k l hi hk hl => by
  have g := rb.2.2 [i, k, l] (by simp [okIdx]; omega)
  exact ⟨Rat.intCast_le_intCast.2 g.1, Rat.intCast_le_intCast.2 g.2⟩) x0 x1 x2
 rw [divF, divF]
 show _ ≤ evF z0 z1 z2 (gvF [z0, z1, z2] out data j) x0 x1 x2 / 65535 ∧ evF z0 z1 z2 (gvF [z0, z1, z2] out data j) x0 x1 x2 / 65535 ≤ _
 constructor <;> grind
end Go.Proofs.YtgjgpdceghjajaaGreatDoor
end
