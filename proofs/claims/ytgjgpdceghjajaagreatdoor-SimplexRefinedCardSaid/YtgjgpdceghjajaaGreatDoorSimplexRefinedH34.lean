/- What functions of the program answer at given values, part 34. Conditions: those that each theorem names. -/
import Derived.Test.YtgjgpdceghjajaaGreatDoorSimplexRefinedH33
import Derived.Test.YtgjgpdceghjajaaGreatDoorSimplexRefinedH31
import Derived.Test.YtgjgpdceghjajaaGreatDoorSimplexRefinedH13
import Derived.Test.YtgjgpdceghjajaaGreatDoorSimplexRefinedH29
set_option linter.unusedSimpArgs false
set_option linter.unusedVariables false
set_option maxHeartbeats 8000000
set_option maxRecDepth 100000
section
namespace Go.Proofs.YtgjgpdceghjajaaGreatDoor
open Go Go.V Go.Gr
def nsD (ds : List Int) : List Nat := if ds = [] then [2] else (ds.take 3).map fun x => (2 + x % 3).toNat
def wD (o : Int) : Nat := (1 + o % 3).toNat
def draftD (ds : List Int) (o : Int) (vals : List Int) (sm : Bool) : D := .agg [.ints .u8 ds, .int .u8 o, .ints .u16 vals, .bool sm]
def dData (ds : List Int) (o : Int) (vals : List Int) (sm : Bool) : List Int := flat (nsD ds) (mkF vals sm (nsD ds) (wD o)) (PR (nsD ds))
theorem nsD_bd (ds : List Int) : (1 ≤ (nsD ds).length ∧ (nsD ds).length ≤ 3) ∧ ∀ n ∈ nsD ds, 2 ≤ n ∧ n ≤ 4 := by
 unfold nsD
 split
 ·simp
 ·rename_i h
  have : 0 < ds.length := List.length_pos_iff.2 h
  refine ⟨by simp; omega, fun n hn => ?_⟩
  obtain ⟨x, _, rfl⟩ := List.mem_map.1 hn
  omega
theorem wD_bd (o : Int) : 1 ≤ wD o ∧ wD o ≤ 3 := by unfold wD; omega
theorem nz_nsD {ds : List Int} (h : ds ≠ []) : (ds.take 3).map (fun x => 2 + x % 3) = nz (nsD ds) := by
 unfold nsD nz
 rw [if_neg h, List.map_map]
 refine List.map_congr_left fun x _ => ?_
 simp
 omega
theorem draft_c (ds : List Int) (o : Int) (vals : List Int) (sm : Bool) (hd : ∀ v ∈ ds, 0 ≤ v ∧ v ≤ 255) (hdl : ds.length ≤ 281474976710656) (ho : 0 ≤ o ∧ o ≤ 255) (hv : ∀ v ∈ vals, 0 ≤ v ∧ v ≤ 65535) (hvl : vals.length ≤ 281474976710656) :
  Called Tryz.prog 11 [draftD ds o vals sm] (gridD (nz (nsD ds)) (wD o) (dData ds o vals sm)) := by
 have hb := nsD_bd ds
 have hwb := wD_bd o
 have hmade := made_c ds o vals sm (nsD ds) (wD o) hv hvl (by omega) (fun n hn => by have := hb.2 n hn; omega) (by omega)
 have hwD : 1 + o % 3 = (wD o : Int) := by unfold wD; omega
 refine V.en tbOk Tryz.func11 ?_
 refine V.r0 @jif ?_
 refine Lp.ghostSlot 26 3 .i64 (by decide) ?_
 (conv => whnf)
 refine jac (0) (fun k => k ≤ ds.length ∧ k ≤ 3) (fun k => 3 - k) (fun k => [(4, .int .i64 k), (3, .osl 26 0 ((ds.take k).map fun x => 2 + x % 3).length)]) (fun k => [(26, .arr .i64 ((ds.take k).map fun x => 2 + x % 3))]) ?_ ?_ ?_
 ·exact V.wk
 ·omega
 intro k hk
 (conv => whnf)
 refine V.st ?_
 refine V.br (fun hq => ?_) (fun hq => ?_)
 ·simp only [jh9, decide_eq_true_eq] at hq
  obtain ⟨x, hx, ex⟩ := getxn (xs := ds) (k := k) (by omega)
  have hxb := hd x (jiO hx)
  have hst : (ds.take k).map (fun x => 2 + x % 3) ++ [2 + x % 3] = (ds.take (k + 1)).map fun x => 2 + x % 3 := by
   rw [ji9, hx]; simp
  have hst2 : ((ds.take k).map fun x => 2 + x % 3).length + 1 = ((ds.take (k + 1)).map fun x => 2 + x % 3).length := by rw [← hst]; simp
  have hml : ((ds.take k).map fun x => 2 + x % 3).length ≤ 3 := by simp; omega
  refine V.r0 (V.a2 @jih ex) ?_
  try refine And.intro (fun _ => ⟨trivial, by simp; omega⟩) ?_
  refine V.r0 (V.a8 @jif @ji3 @List.take_succ_cons.{0} @List.take_zero.{0} @jiY @List.length_nil.{0} hst hst2) ?_
  exact ⟨k + 1, by omega, by omega, V.wk⟩
 ·have hq2 : ¬ ((k : Int) < ds.length ∧ (k : Int) < 3) := by
   intro h
   rw [decide_eq_true h.1, decide_eq_true h.2] at hq
   cases hq
  have htk : ds.take k = ds.take 3 := by
   rcases jip k 3 with h | h
   ·rw [jiZ (by omega), jiZ (by omega)]
   ·congr 1; omega
  have hml : ((ds.take 3).map fun x => 2 + x % 3).length ≤ 3 := by simp; omega
  rw [htk]
  (conv => whnf)
  refine V.st ?_
  by_cases hds : ds = []
  ·subst hds
   have hnd : nsD [] = [2] := rfl
   refine V.br (fun hq3 => ?_) (fun hq3 => ?_)
   ·refine V.r1 (V.a5 hwD @List.take_succ_cons.{0} @List.take_zero.{0} @jif @ji3) hmade ?_
    exact Fin.of rfl
   ·simp at hq3
  ·have hnd := nz_nsD hds
   have hlp : 0 < ds.length := List.length_pos_iff.2 hds
   refine V.br (fun hq3 => ?_) (fun hq3 => ?_)
   ·simp at hq3
    exact absurd hq3 hds
   ·rw [hnd] at hml ⊢
    refine V.r1 (V.a2 hwD @jja) hmade ?_
    exact Fin.of rfl
theorem jeW {ns : List Nat} {f : Nat → List Int} {w m : Nat} (h : ∀ j, (f j).length = w) : (flat ns f m).length = m * w := by
 induction m with
 | zero => simp [flat]
 | succ m ih => rw [ja3, jiP, ih, h, Nat.add_mul, Nat.one_mul]
theorem mem_flat {ns : List Nat} {f : Nat → List Int} {m : Nat} {x : Int} (h : x ∈ flat ns f m) : ∃ j, j < m ∧ x ∈ f j := by
 unfold flat at h
 rw [List.mem_flatMap] at h
 obtain ⟨j, h1, h2⟩ := h
 exact ⟨j, List.mem_range.1 h1, h2⟩
theorem draft_ok (ds : List Int) (o : Int) (vals : List Int) (sm : Bool) (hv : ∀ v ∈ vals, 0 ≤ v ∧ v ≤ 65535) : jal (nz (nsD ds)) (wD o) (dData ds o vals sm) = true := by
 have hb := nsD_bd ds
 have hwb := wD_bd o
 have hl : (dData ds o vals sm).length = PR (nsD ds) * wD o := jeW fun j => by simp [mkF]
 have hP : PR (nsD ds) ≤ 64 := by
  have hbb : ∀ l : List Nat, (∀ n ∈ l, 2 ≤ n ∧ n ≤ 4) → PR l ≤ 4 ^ l.length := by
   intro l
   induction l with
   | nil => intro _; decide
   | cons x l ih =>
    intro hl
    have h3 := ih fun n hn => hl n (by simp [hn])
    have h4 := hl x (by simp)
    rw [PR, jiY, Nat.pow_succ, jil]
    exact Nat.mul_le_mul h3 h4.2
  exact jiq (hbb _ hb.2) (jiy (by omega) hb.1.2)
 have hl2 : PR (nsD ds) * wD o ≤ 64 * 3 := Nat.mul_le_mul hP hwb.2
 unfold jal
 have e1 : (nz (nsD ds)).length = (nsD ds).length := by simp [nz]
 have e2 : (nz (nsD ds)).all (fun n => decide (2 ≤ n ∧ n ≤ 9)) = true := by
  rw [jiI]
  intro x hx
  obtain ⟨n, hn, rfl⟩ := List.mem_map.1 hx
  have := hb.2 n hn
  simp; omega
 have e3 : (dData ds o vals sm).all (fun v => decide (0 ≤ v ∧ v ≤ 65535)) = true := by
  rw [jiI]
  intro x hx
  obtain ⟨j, _, hj⟩ := mem_flat hx
  unfold mkF at hj
  obtain ⟨k, _, rfl⟩ := List.mem_map.1 hj
  have := mkV_bd (sm := sm) (w := wD o) (m := j) (k := k) hv hb.1.1 (fun n hn => by have := hb.2 n hn; omega)
  simpa using this
 rw [e2, e3, jdL]
 simp only [Bool.and_true, jh9, decide_eq_true_eq]
 refine ⟨⟨by omega, by omega⟩, by omega, ?_⟩
 rw [hl]; simp
theorem all_c (xs : List Int) : Called Tryz.prog 72 [.ints .i64 xs] (.fn 116 [] [.ref [.ints .i64 xs]]) := by
 refine V.en tbOk Tryz.func72 ?_
 (conv => whnf)
 refine V.st ?_
 exact Fin.same _
theorem nz_of {size : List Int} (h : size.all (fun n => decide (2 ≤ n ∧ n ≤ 9)) = true) : ∃ ns : List Nat, size = nz ns ∧ size.map Int.toNat = ns ∧ ∀ n ∈ ns, 2 ≤ n ∧ n ≤ 9 := by
 rw [jiI] at h
 refine ⟨size.map Int.toNat, ?_, rfl, fun n hn => ?_⟩
 ·unfold nz
  rw [List.map_map]
  refine List.ext_getElem (by simp) fun k h1 h2 => ?_
  have := h size[k] (jiN h1)
  simp at this ⊢
  omega
 ·obtain ⟨x, hx, rfl⟩ := List.mem_map.1 hn
  have := h x hx
  simp at this
  omega
def upd (lt : Int → Int → Bool) (o v : List Int) : List Int := List.zipWith (fun a b => if lt b a then b else a) o v
def mst (lt : Int → Int → Bool) (data : List Int) (w : Nat) : Nat → List Int
 | 0 => slot data 0 w
 | m + 1 => upd lt (mst lt data w m) (slot data ((m * w : Nat) : Int) w)
theorem lt_c (a b : Int) : Called Tryz.prog 53 [.int .i64 a, .int .i64 b] (.bool (decide (a < b))) := by
 refine V.en tbOk Tryz.func53 ?_
 (conv => whnf)
 refine V.st ?_
 exact Fin.of rfl
theorem gt_c (a b : Int) : Called Tryz.prog 54 [.int .i64 a, .int .i64 b] (.bool (decide (a > b))) := by
 refine V.en tbOk Tryz.func54 ?_
 (conv => whnf)
 refine V.st ?_
 exact Fin.of rfl
theorem tpoints_c (size : List Int) (out : Int) (data : List Int) : Called Tryz.prog 52 [gridD size out data] (.fn 92 [] [.ref [.ints .i64 size, .int .i64 out, .ints .i64 data], .ref [.fn 40 [gridD size out data] []]]) := by
 refine V.en tbOk Tryz.func52 ?_
 (conv => whnf)
 refine V.st ?_
 exact Fin.of rfl
theorem jgu {data : List Int} {w m n : Nat} (h : data.length = n * w) (hm : m < n) : (slot data ((m * w : Nat) : Int) w).length = w := by
 unfold slot
 rw [jih, jih]
 simp
 have : (m + 1) * w ≤ n * w := Nat.mul_le_mul_right w hm
 rw [Nat.add_mul] at this
 omega
theorem jcN {lt : Int → Int → Bool} {data : List Int} {w m n : Nat} (h : data.length = n * w) (hm : m ≤ n) (hn : 0 < n) : (mst lt data w m).length = w := by
 induction m with
 | zero => have := jgu (m := 0) h hn; simpa [mst] using this
 | succ m ih =>
  unfold mst upd
  rw [List.length_zipWith, ih (by omega), jgu h (by omega)]
  omega
theorem jfQ {lt : Int → Int → Bool} {o v : List Int} {k : Nat} {a b : Int} (ha : o[k]? = some a) (hb : v[k]? = some b) (hl : o.length = v.length) :
  ((upd lt o v).take k ++ o.drop k).set k (if lt b a then b else a) = (upd lt o v).take (k + 1) ++ o.drop (k + 1) := by
 have h1 := (jiT.1 ha)
 have h2 := (jiT.1 hb)
 have hul : (upd lt o v).length = o.length := by unfold upd; rw [List.length_zipWith]; omega
 have h3 : ((upd lt o v).take k).length = k := by have := h1.1; rw [jiQ]; omega
 have h4 : (upd lt o v)[k]? = some (if lt b a then b else a) := by
  unfold upd
  rw [List.getElem?_zipWith, ha, hb]
 rw [List.set_append_right _ _ (by omega), h3, Nat.sub_self, ji2 h1.1, List.set_cons_zero, ji9, h4]
 simp
theorem jgX {lt : Int → Int → Bool} {o v : List Int} {k : Nat} {a : Int} (ha : o[k]? = some a) (hl : o.length = v.length) : ((upd lt o v).take k ++ o.drop k).getD k 0 = a := by
 have h1 := (jiT.1 ha)
 have hul : (upd lt o v).length = o.length := by unfold upd; rw [List.length_zipWith]; omega
 have h3 : ((upd lt o v).take k).length = k := by have := h1.1; rw [jiQ]; omega
 rw [jiJ, List.getElem?_append_right (by omega), h3, Nat.sub_self, List.getElem?_drop, Nat.add_zero, ha]
 rfl
theorem upd_same {lt : Int → Int → Bool} {o v : List Int} {k : Nat} {a b : Int} (ha : o[k]? = some a) (hb : v[k]? = some b) (hl : o.length = v.length) (h : lt b a = false) :
  (upd lt o v).take k ++ o.drop k = (upd lt o v).take (k + 1) ++ o.drop (k + 1) := by
 rw [← jfQ ha hb hl, h]
 have h1 := (jiT.1 ha)
 have hul : (upd lt o v).length = o.length := by unfold upd; rw [List.length_zipWith]; omega
 have h3 : ((upd lt o v).take k).length = k := by have := h1.1; rw [jiQ]; omega
 rw [List.set_append_right _ _ (by omega), h3, Nat.sub_self, ji2 h1.1, List.set_cons_zero, h1.2]
 rfl
theorem jhT : type_of% @jih ∧ type_of% @jif := ⟨@jih, @jif⟩
theorem most_c (size : List Int) (w : Nat) (data : List Int) (g : Nat) (lt : Int → Int → Bool) (hg : jal size w data = true) (hf : ∀ a b, Called Tryz.prog g [.int .i64 a, .int .i64 b] (.bool (lt a b))) (hirr : ∀ a, lt a a = false) :
    Called Tryz.prog 51 [.fn 92 [] [.ref [.ints .i64 size, .int .i64 w, .ints .i64 data], .ref [.fn 40 [gridD size w data] []]], .fn g [] []] (.ints .i64 (mst lt data w (PR (size.map Int.toNat)))) := by
  have hG := jbo hg
  obtain ⟨ns, hn0, hn1, hn2⟩ := nz_of hG.2.2.2.2.1
  have hsl : size.length = ns.length := by rw [hn0]; simp [nz]
  have hpos : ∀ n ∈ ns, 0 < n := fun n hn => by have := hn2 n hn; omega
  have hPR := PR_le (by omega) hn2
  have hPP := jct hpos
  have hprod : prod size = (PR ns : Nat) := by rw [hn0, jdL]
  have hdl : data.length = PR ns * w := by
    have := hG.2.2.2.2.2.2.1
    rw [hprod, ← jis] at this
    omega
  rw [hn1]
  have h1 : 1 ≤ ns.length ∧ ns.length ≤ 4 := by omega
  have hok : ∀ m, okIdx size (ixl ns m) = true := fun m => jbg.2 ⟨by rw [jaj]; omega, fun k n x h1 h2 => by
    rw [hn0] at h1
    simp only [nz, List.getElem?_map, Option.map_eq_some_iff] at h1
    obtain ⟨n', h3, rfl⟩ := h1
    exact jcs hpos h3 h2⟩
  have hvc : ∀ m, m < PR ns → Called Tryz.prog 40 [gridD size w data, .iarr .i64 (pad4 (ixl ns m))] (.ints .i64 (slot data ((m * w : Nat) : Int) w)) := fun m hm => by
    have hpad := jeJ (hok m) hG.2.1
    have := values_c size w data _ hg hpad.1 hpad.2
    have hpz : pz (size.zip (pad4 (ixl ns m))) = (m : Int) := by
      rw [zip_pad (hok m), hn0]
      have := jft ns hpos m 0
      rw [jim hm] at this
      unfold pz nz
      simpa using this
    rw [hpz, ← jis] at this
    exact this
  have hlen : size.length = ns.length := hsl
  refine V.en tbOk Tryz.func51 ?_
  (conv => whnf)
  refine V.st ?_
  refine ⟨_, _, ⟨Tryz.func92, rfl, rfl, jia rfl⟩, ?_⟩
  (conv => whnf)
  refine V.st ?_
  repeat ((try ((with_reducible refine .ext ?_); (conv => whnf))); (with_reducible refine jaa (r := ?_) ?_ ?_); rotate_left; (focus (first | exact (all_c _))); (conv => whnf); refine V.st ?_)
  refine ⟨_, _, ⟨Tryz.func116, rfl, rfl, jia rfl⟩, ?_⟩
  refine V.r0 @jif ?_
  refine lp_go (ns.length) (fun k => True) (fun k => [(10, .int .i64 k)]) (fun k => [(57, .arr .i64 (pad4 ((lastL ns).take k)))]) V.wk ?_ ?_
  · trivial
  intro k hk _
  (conv => whnf)
  refine V.st ?_
  refine V.br (fun h => ?_) (fun h => ?_)
  · rw [hlen] at h
    simp only [decide_eq_true_eq] at h
    have hk1 : k < ns.length := by omega
    obtain ⟨n, hn⟩ : ∃ n, ns[k]? = some n := ⟨ns[k], jiM hk1⟩
    have hnb := hn2 n (jiO hn)
    have en : size.getD k 0 = n := by rw [hn0]; simp [nz, jiJ, hn]
    have hll : (lastL ns)[k]? = some ((n : Int) - 1) := by simp [lastL, hn]
    have hp4 : (pad4 ((lastL ns).take k)).length = 4 := jao (by simp [lastL]; omega)
    have hps := jdp hll (by simp [lastL]; omega)
    refine V.r0 (V.a3 jhT @en hps) ?_
    exact ⟨k + 1, ⟨by omega, trivial⟩, by omega, V.wk⟩
  · rw [hlen] at h
    simp only [decide_eq_false_iff_not] at h
    have hk1 : k = ns.length := by omega
    subst hk1
    have e0 : (lastL ns).take ns.length = lastL ns := jiZ (by simp [lastL])
    rw [e0]
    (conv => whnf)
    refine V.st ?_
    have e1 := jem h1 hn2
    have hp4l : (pad4 (lastL ns)).length = 4 := jao (by simp [lastL]; omega)
    refine jac 0 (fun k => k < PR ns) (fun k => PR ns - k) (fun k => []) (fun k => match k with
      | 0 => [(56, .arr .i64 (pad4 (ixl ns 0))), (5, .box [.nil])]
      | m + 1 => [(56, .arr .i64 (pad4 (ixl ns (m + 1)))), (5, .box [.osl 159 0 w]), (159, .arr .i64 (mst lt data w (m + 1)))]) ?_ hPP ?_
    · simp only [e1]
      exact V.wk
    intro m hm
    have hvm := hvc m hm
    have hp4 : (pad4 (ixl ns m)).length = 4 := jao (by rw [jaj]; omega)
    have hvl := jgu hdl hm
    have hml := jcN (lt := lt) hdl (Nat.le_of_lt hm) hPP
    have hul : (upd lt (mst lt data w m) (slot data ((m * w : Nat) : Int) w)).length = w := by unfold upd; rw [List.length_zipWith]; omega
    cases m with
    | zero =>
      have hm0 : slot data ((0 * w : Nat) : Int) w = mst lt data w 0 := by simp [mst]
      rw [hm0] at hvm hvl hul
      have hvf : upd lt (mst lt data w 0) (mst lt data w 0) = mst lt data w 1 := by
        conv => rhs; unfold mst
        rw [hm0]
      generalize hv : mst lt data w 0 = vs at *
      (conv => whnf)
      refine V.st ?_
      repeat ((try ((with_reducible refine .ext ?_); (conv => whnf))); (with_reducible refine jaa (r := ?_) ?_ ?_); rotate_left; (focus (first | exact (hvm))); (conv => whnf); refine V.st ?_)
      refine ⟨(V.tk [0,1,2] (V.e1 3 [0] (V.e1 4 [] (V.tk [5] .done)))), [], V.pok, .go (jad ?_)⟩
      (conv => whnf)
      refine V.st ?_
      repeat ((try ((with_reducible refine .ext ?_); (conv => whnf))); (with_reducible refine jaa (r := ?_) ?_ ?_); rotate_left; (focus (first | exact (hvm))); (conv => whnf); refine V.st ?_)
      refine .inl ?_
      (conv => whnf)
      refine ⟨0, _, _, ⟨Tryz.func19, rfl, rfl, jia rfl⟩, ?_⟩
      (conv => whnf)
      refine AnyB.mk (fun h => ?_) (fun _ => ?_)
      · have := h rfl
        rw [this] at hvl
        simp at hvl
        omega
      (conv => whnf)
      try refine And.intro (fun _ => ⟨rfl, by simp; omega⟩) ?_
      have hol : vs.length = w := hml
      have he0 : vs = (upd lt vs vs).take 0 ++ vs.drop 0 := by simp
      refine V.r0 (V.a4 @jif @Nat.add_zero @List.nil_append.{0} hvl) ?_
      refine lp_go w (fun _ => True) (fun k => [(17, .int .i64 k)]) (fun k => [(159, .arr .i64 ((upd lt vs vs).take k ++ vs.drop k))]) ?_ trivial ?_
      · rw [← he0]
        exact V.wk
      intro k hk _
      (conv => whnf)
      refine V.st ?_
      refine V.br (fun hq => ?_) (fun hq => ?_)
      · rw [decide_eq_true_eq] at hq
        have hk1 : k < w := by omega
        obtain ⟨v, hv1, ev⟩ := getxn (xs := vs) (k := k) (by omega)
        obtain ⟨o, ho1, eo⟩ := getxn (xs := vs) (k := k) (by omega)
        have hug := jgX (lt := lt) (v := vs) ho1 (by omega)
        have hus := jfQ (lt := lt) ho1 hv1 (by omega)
        have hul2 : ((upd lt vs vs).take k ++ vs.drop k).length = w := by simp; omega
        refine V.r0 (V.a2 jhT ev) ?_
        refine ⟨(V.tk [0,1,2,3,4,5] (V.e1 6 [] .done)), [], V.pok, .go (jad ?_)⟩
        (conv => whnf)
        (try simp only [jhT, ev, hug])
        repeat ((first | refine V.s1 ?_ | ((try ((with_reducible refine .ext ?_); (conv => whnf); (try simp only [jhT, ev, hug]))); (with_reducible refine jaa (r := ?_) ?_ ?_); rotate_left; (focus (first | exact (hf _ _))); (conv => whnf))); (try simp only [jhT, ev, hug]))
        refine ja7 [] [(159, .arr .i64 ((upd lt vs vs).take (k + 1) ++ vs.drop (k + 1)))] (CondB.mk (fun hc => ?_) (fun hc => ?_)) ?_
        · rw [hc, if_pos rfl] at hus
          refine V.r0 (V.a3 jhT ev hus) ?_
          exact V.wk
        · have hsm := upd_same ho1 hv1 (by omega) hc
          rw [← hsm]
          (conv => whnf)
          refine V.st ?_
          exact V.wk
        (conv => whnf)
        refine V.st ?_
        exact ⟨k + 1, ⟨by omega, trivial⟩, by omega, V.wk⟩
      · rw [decide_eq_false_iff_not] at hq
        have hk1 : k = w := by omega
        subst hk1
        have hfin : (upd lt vs vs).take k ++ vs.drop k = mst lt data k 1 := by
          rw [jiZ (by omega), ji0 (by omega), List.append_nil]
          exact hvf
        rw [hfin]
        (conv => whnf)
        refine V.st ?_
        refine V.br (fun hq => ?_) (fun hq => ?_)
        · rw [decide_eq_true_eq] at hq
          have hq2 : ixl ns (0) = lastL ns := jdq (by rw [jaj]; simp [lastL]) hq
          have hq3 := jcO ns hpos (0) hq2
          rw [jim hm] at hq3
          have hq4 : 1 = PR ns := by omega
          have hml3 := jcN (lt := lt) hdl (Nat.le_of_eq hq4) hPP
          (conv => whnf)
          refine V.st ?_
          rw [jiZ (by omega), hq4]
          exact Fin.of rfl
        · rw [decide_eq_false_iff_not] at hq
          have hq2 : ixl ns (0) ≠ lastL ns := fun e => hq (by rw [← e])
          have hil := jaj ns (0)
          have hll : (lastL ns).length = ns.length := by simp [lastL]
          (conv => whnf)
          refine V.st ?_
          rw [hlen]
          have e2 : (ixl ns (0)).take ns.length = ixl ns (0) := jiZ (by omega)
          refine jac (ns.length) (fun k => (1 ≤ k ∧ k ≤ ns.length) ∧ (ixl ns (0)).drop k = (lastL ns).drop k) (fun k => k) (fun k => [(7, .int .i64 ((k : Int) - 1))]) (fun k => [(56, .arr .i64 (pad4 ((ixl ns (0)).take k)))]) ?_ ?_ ?_
          · rw [e2]
            exact V.wk
          · exact ⟨⟨h1.1, jii _⟩, by rw [ji0 (by omega), ji0 (by omega)]⟩
          rintro p ⟨⟨hp1, hp2⟩, hp3⟩
          obtain ⟨p, rfl⟩ : ∃ q, p = q + 1 := ⟨p - 1, by omega⟩
          obtain ⟨x, hx⟩ : ∃ x, (ixl ns (0))[p]? = some x := ⟨_, jiM (by omega)⟩
          obtain ⟨n, hn⟩ : ∃ n, ns[p]? = some n := ⟨ns[p], jiM (by omega)⟩
          have hpx := jaX hx (by omega : p < p + 1) (by omega)
          have hpl : (lastL ns)[p]? = some ((n : Int) - 1) := by simp [lastL, hn]
          have hpl2 := jaX (k := 4) hpl (by omega) (by omega)
          rw [jiZ (by omega)] at hpl2
          have hp5 : (pad4 ((ixl ns (0)).take (p + 1))).length = 4 := jao (by simp; omega)
          have e3 : ((p + 1 : Nat) : Int) - 1 = (p : Int) := by omega
          have e4 := jcB hx (by omega)
          (conv => whnf)
          refine V.st ?_
          refine ⟨(V.tk [0,1,2,3,4,5,6] .done), [], V.pok, .go (jad ?_)⟩
          refine V.r0 (V.a4 jhT e3 hpx hpl2) ?_
          refine V.br (fun hc => ?_) (fun hc => ?_)
          · rw [decide_eq_true_eq] at hc
            have hd : (ixl ns (0)).drop p = (lastL ns).drop p := by
              rw [ji2 (by omega : p < (ixl ns (0)).length), ji2 (by omega : p < (lastL ns).length), hp3, (jiT.1 hx).2, (jiT.1 hpl).2, hc]
            have hp0 : 1 ≤ p := by
              rcases jij p with e | e
              · subst e; exact absurd (by simpa using hd) hq2
              · exact e
            refine V.r0 (V.a3 jhT e3 e4) ?_
            exact ⟨p, ⟨⟨hp0, by omega⟩, hd⟩, by omega, V.wk⟩
          · rw [decide_eq_false_iff_not] at hc
            have hsu := jdv ns hpos (0) p n hn x hx (by rw [hp3]; simp [lastL]) hc
            have e5 := jb6 (y := x + 1) hx (by omega) (by omega : (ixl ns (0)).length ≤ 4)
            rw [hil, ← hsu] at e5
            have hxb := jcs hpos hn hx
            have hnb := hn2 n (jiO hn)
            have hm1 : 1 < PR ns := by
              rcases jip (1) (PR ns) with e | e
              · exact e
              · exfalso
                exact hq2 (jcQ ns hpos (0) (by rw [jim hm]; omega))
            refine V.r0 (V.a4 jhT e3 hpx e5) ?_
            exact ⟨1, hm1, by omega, V.wk⟩
    | succ m =>
      have hvf : upd lt (mst lt data w (m + 1)) (slot data (((m + 1) * w : Nat) : Int) w) = mst lt data w (m + 2) := by
        conv => rhs; unfold mst
      generalize hv : mst lt data w (m + 1) = vs at *
      generalize hv2 : slot data (((m + 1) * w : Nat) : Int) w = ws at *
      (conv => whnf)
      refine V.st ?_
      repeat ((try ((with_reducible refine .ext ?_); (conv => whnf))); (with_reducible refine jaa (r := ?_) ?_ ?_); rotate_left; (focus (first | exact (hvm))); (conv => whnf); refine V.st ?_)
      refine ⟨(V.tk [0,1,2] (V.e1 3 [0] (V.e1 4 [] (V.tk [5] .done)))), [], V.pok, .go (jad ?_)⟩
      (conv => whnf)
      refine V.st ?_
      repeat ((try ((with_reducible refine .ext ?_); (conv => whnf))); (with_reducible refine jaa (r := ?_) ?_ ?_); rotate_left; (focus (first | exact (hvm))); (conv => whnf); refine V.st ?_)
      have hol : vs.length = w := hml
      have he0 : vs = (upd lt vs ws).take 0 ++ vs.drop 0 := by simp
      refine V.r0 (V.a4 @jif @Nat.add_zero @List.nil_append.{0} hvl) ?_
      refine lp_go w (fun _ => True) (fun k => [(17, .int .i64 k)]) (fun k => [(159, .arr .i64 ((upd lt vs ws).take k ++ vs.drop k))]) ?_ trivial ?_
      · rw [← he0, ← hv]
        exact V.wk
      intro k hk _
      (conv => whnf)
      refine V.st ?_
      refine V.br (fun hq => ?_) (fun hq => ?_)
      · rw [decide_eq_true_eq] at hq
        have hk1 : k < w := by omega
        obtain ⟨v, hv1, ev⟩ := getxn (xs := ws) (k := k) (by omega)
        obtain ⟨o, ho1, eo⟩ := getxn (xs := vs) (k := k) (by omega)
        have hug := jgX (lt := lt) (v := ws) ho1 (by omega)
        have hus := jfQ (lt := lt) ho1 hv1 (by omega)
        have hul2 : ((upd lt vs ws).take k ++ vs.drop k).length = w := by simp; omega
        refine V.r0 (V.a2 jhT ev) ?_
        refine ⟨(V.tk [0,1,2,3,4,5] (V.e1 6 [] .done)), [], V.pok, .go (jad ?_)⟩
        (conv => whnf)
        (try simp only [jhT, ev, hug])
        repeat ((first | refine V.s1 ?_ | ((try ((with_reducible refine .ext ?_); (conv => whnf); (try simp only [jhT, ev, hug]))); (with_reducible refine jaa (r := ?_) ?_ ?_); rotate_left; (focus (first | exact (hf _ _))); (conv => whnf))); (try simp only [jhT, ev, hug]))
        refine ja7 [] [(159, .arr .i64 ((upd lt vs ws).take (k + 1) ++ vs.drop (k + 1)))] (CondB.mk (fun hc => ?_) (fun hc => ?_)) ?_
        · rw [hc, if_pos rfl] at hus
          refine V.r0 (V.a3 jhT ev hus) ?_
          exact V.wk
        · have hsm := upd_same ho1 hv1 (by omega) hc
          rw [← hsm]
          (conv => whnf)
          refine V.st ?_
          exact V.wk
        (conv => whnf)
        refine V.st ?_
        exact ⟨k + 1, ⟨by omega, trivial⟩, by omega, V.wk⟩
      · rw [decide_eq_false_iff_not] at hq
        have hk1 : k = w := by omega
        subst hk1
        have hfin : (upd lt vs ws).take k ++ vs.drop k = mst lt data k (m + 2) := by
          rw [jiZ (by omega), ji0 (by omega), List.append_nil]
          exact hvf
        rw [hfin]
        (conv => whnf)
        refine V.st ?_
        refine V.br (fun hq => ?_) (fun hq => ?_)
        · rw [decide_eq_true_eq] at hq
          have hq2 : ixl ns (m + 1) = lastL ns := jdq (by rw [jaj]; simp [lastL]) hq
          have hq3 := jcO ns hpos (m + 1) hq2
          rw [jim hm] at hq3
          have hq4 : m + 2 = PR ns := by omega
          have hml3 := jcN (lt := lt) hdl (Nat.le_of_eq hq4) hPP
          (conv => whnf)
          refine V.st ?_
          rw [jiZ (by omega), hq4]
          exact Fin.of rfl
        · rw [decide_eq_false_iff_not] at hq
          have hq2 : ixl ns (m + 1) ≠ lastL ns := fun e => hq (by rw [← e])
          have hil := jaj ns (m + 1)
          have hll : (lastL ns).length = ns.length := by simp [lastL]
          (conv => whnf)
          refine V.st ?_
          rw [hlen]
          have e2 : (ixl ns (m + 1)).take ns.length = ixl ns (m + 1) := jiZ (by omega)
          refine jac (ns.length) (fun k => (1 ≤ k ∧ k ≤ ns.length) ∧ (ixl ns (m + 1)).drop k = (lastL ns).drop k) (fun k => k) (fun k => [(7, .int .i64 ((k : Int) - 1))]) (fun k => [(56, .arr .i64 (pad4 ((ixl ns (m + 1)).take k)))]) ?_ ?_ ?_
          · rw [e2]
            exact V.wk
          · exact ⟨⟨h1.1, jii _⟩, by rw [ji0 (by omega), ji0 (by omega)]⟩
          rintro p ⟨⟨hp1, hp2⟩, hp3⟩
          obtain ⟨p, rfl⟩ : ∃ q, p = q + 1 := ⟨p - 1, by omega⟩
          obtain ⟨x, hx⟩ : ∃ x, (ixl ns (m + 1))[p]? = some x := ⟨_, jiM (by omega)⟩
          obtain ⟨n, hn⟩ : ∃ n, ns[p]? = some n := ⟨ns[p], jiM (by omega)⟩
          have hpx := jaX hx (by omega : p < p + 1) (by omega)
          have hpl : (lastL ns)[p]? = some ((n : Int) - 1) := by simp [lastL, hn]
          have hpl2 := jaX (k := 4) hpl (by omega) (by omega)
          rw [jiZ (by omega)] at hpl2
          have hp5 : (pad4 ((ixl ns (m + 1)).take (p + 1))).length = 4 := jao (by simp; omega)
          have e3 : ((p + 1 : Nat) : Int) - 1 = (p : Int) := by omega
          have e4 := jcB hx (by omega)
          (conv => whnf)
          refine V.st ?_
          refine ⟨(V.tk [0,1,2,3,4,5,6] .done), [], V.pok, .go (jad ?_)⟩
          refine V.r0 (V.a4 jhT e3 hpx hpl2) ?_
          refine V.br (fun hc => ?_) (fun hc => ?_)
          · rw [decide_eq_true_eq] at hc
            have hd : (ixl ns (m + 1)).drop p = (lastL ns).drop p := by
              rw [ji2 (by omega : p < (ixl ns (m + 1)).length), ji2 (by omega : p < (lastL ns).length), hp3, (jiT.1 hx).2, (jiT.1 hpl).2, hc]
            have hp0 : 1 ≤ p := by
              rcases jij p with e | e
              · subst e; exact absurd (by simpa using hd) hq2
              · exact e
            refine V.r0 (V.a3 jhT e3 e4) ?_
            exact ⟨p, ⟨⟨hp0, by omega⟩, hd⟩, by omega, V.wk⟩
          · rw [decide_eq_false_iff_not] at hc
            have hsu := jdv ns hpos (m + 1) p n hn x hx (by rw [hp3]; simp [lastL]) hc
            have e5 := jb6 (y := x + 1) hx (by omega) (by omega : (ixl ns (m + 1)).length ≤ 4)
            rw [hil, ← hsu] at e5
            have hxb := jcs hpos hn hx
            have hnb := hn2 n (jiO hn)
            have hm1 : m + 2 < PR ns := by
              rcases jip (m + 2) (PR ns) with e | e
              · exact e
              · exfalso
                exact hq2 (jcQ ns hpos (m + 1) (by rw [jim hm]; omega))
            refine V.r0 (V.a4 jhT e3 hpx e5) ?_
            exact ⟨m + 2, hm1, by omega, V.wk⟩
theorem rl_mst {lt : Int → Int → Bool} {data : List Int} {w n : Nat} (h : data.length = n * w) (hw : 0 < w) : ∀ m, m ≤ n → rl lt data w (m * w) = mst lt data w m := by
 intro m
 induction m with
 | zero => intro _; simp [rl, mst]
 | succ m ih =>
  intro hm
  have ih := ih (by omega)
  have hwl : w ≤ data.length := by rw [h]; exact Nat.le_mul_of_pos_left _ (by omega)
  have hR := jeB (lt := lt) hwl (m * w)
  have hS := jgu h (by omega : m < n)
  have key : ∀ k, k ≤ w → rl lt data w (m * w + k) = (upd lt (rl lt data w (m * w)) (slot data ((m * w : Nat) : Int) w)).take k ++ (rl lt data w (m * w)).drop k := by
   intro k
   induction k with
   | zero => intro _; simp
   | succ k ihk =>
    intro hk
    have ihk := ihk (by omega)
    have e1 : (m * w + k) % w = k := by
     rw [Nat.add_comm, Nat.add_mul_mod_self_right, jim (by omega)]
    obtain ⟨a, ha⟩ : ∃ a, (rl lt data w (m * w))[k]? = some a := ⟨_, jiM (by omega)⟩
    obtain ⟨b, hb⟩ : ∃ b, (slot data ((m * w : Nat) : Int) w)[k]? = some b := ⟨_, jiM (by omega)⟩
    have hb2 : data.getD (m * w + k) 0 = b := by
     have := hb
     unfold slot at this
     rw [jih, jih, ji8 (by omega), List.getElem?_drop] at this
     rw [jiJ, this]; rfl
    have hug := jgX (lt := lt) (v := slot data ((m * w : Nat) : Int) w) ha (by omega)
    have hus := jfQ (lt := lt) ha hb (by omega)
    rw [← hus, ← Nat.add_assoc]
    conv => lhs; unfold rl
    rw [e1, ihk, hb2, hug]
  have hk := key w (jii _)
  have hul : (upd lt (rl lt data w (m * w)) (slot data ((m * w : Nat) : Int) w)).length = w := by unfold upd; rw [List.length_zipWith]; omega
  rw [Nat.add_mul, Nat.one_mul, hk, jiZ (by omega), ji0 (by omega), List.append_nil, ih]
  rfl
theorem range_c (size : List Int) (out : Int) (data : List Int) (hs : size.length ≤ 281474976710656) (hd : data.length ≤ 281474976710656) :
  Called Tryz.prog 25 [gridD size out data] (.tup [.ints .i64 (if jal size out data then rl (fun a b => decide (a < b)) data out.toNat data.length else []), .ints .i64 (if jal size out data then rl (fun a b => decide (a > b)) data out.toNat data.length else []), .int .i64 (if jal size out data then 0 else 100)]) := by
 refine V.en tbOk Tryz.func25 ?_
 (conv => whnf)
 refine V.st ?_
 repeat ((try ((with_reducible refine .ext ?_); (conv => whnf))); (with_reducible refine jaa (r := ?_) ?_ ?_); rotate_left; (focus (first | exact (jb1 _ _ _ hs hd))); (conv => whnf); refine V.st ?_)
 cases hg : jal size out data with
 | false =>
  refine V.br (fun h => ?_) (fun h => ?_)
  ·(conv => whnf)
   refine V.st ?_
   exact Fin.tup ⟨Fin.nil _, Fin.nil _, Fin.of rfl, trivial⟩
  ·simp at h
 | true =>
  have hG := jbo hg
  obtain ⟨w, rfl⟩ : ∃ w : Nat, out = w := ⟨out.toNat, by omega⟩
  obtain ⟨ns, hn0, hn1, hn2⟩ := nz_of hG.2.2.2.2.1
  have hprod : prod size = (PR ns : Nat) := by rw [hn0, jdL]
  have hdl : data.length = PR ns * w := by
   have := hG.2.2.2.2.2.2.1
   rw [hprod, ← jis] at this
   omega
  have e1 := rl_mst (lt := fun a b => decide (a < b)) hdl (by omega) (PR ns) (jii _)
  have e2 := rl_mst (lt := fun a b => decide (a > b)) hdl (by omega) (PR ns) (jii _)
  rw [← hdl] at e1 e2
  have m1 := most_c size w data 53 (fun a b => decide (a < b)) hg lt_c (fun a => by simp)
  have m2 := most_c size w data 54 (fun a b => decide (a > b)) hg gt_c (fun a => by simp)
  rw [hn1, ← e1] at m1
  rw [hn1, ← e2] at m2
  refine V.br (fun h => ?_) (fun h => ?_)
  ·simp at h
  (conv => whnf)
  refine V.st ?_
  repeat ((try ((with_reducible refine .ext ?_); (conv => whnf))); (with_reducible refine jaa (r := ?_) ?_ ?_); rotate_left; (focus (first | exact (tpoints_c _ _ _) | exact (m1) | exact (m2))); (conv => whnf); refine V.st ?_)
  exact Fin.of rfl
theorem take_slot {data : List Int} {w n : Nat} : data.take (n * w) ++ slot data ((n * w : Nat) : Int) w = data.take ((n + 1) * w) := by
 unfold slot
 rw [jih, jih, Nat.add_mul, Nat.one_mul, List.take_add]
theorem ixl_ok {ns : List Nat} {m : Nat} (hp : ∀ n ∈ ns, 0 < n) : okIdx (nz ns) (ixl ns m) = true :=
 jbg.2 ⟨by rw [jaj]; simp [nz], fun k n x h1 h2 => by
  simp only [nz, List.getElem?_map, Option.map_eq_some_iff] at h1
  obtain ⟨n', h3, rfl⟩ := h1
  exact jcs hp h3 h2⟩
theorem pzf (ns : List Nat) (x : List Int) (p : Int) : x.length = ns.length → ((nz ns).zip x).foldl (fun p a => p * a.1 + a.2) p = p * (PR ns : Int) + pz ((nz ns).zip x) := by
 induction ns generalizing x p with
 | nil => intro _; simp [pz, nz, PR]
 | cons n r ih =>
  intro hl
  cases x with
  | nil => simp at hl
  | cons a s =>
   have hl' : s.length = r.length := by simpa using hl
   simp only [nz, List.map_cons, List.zip_cons_cons, List.foldl_cons, pz, PR]
   have e1 := ih s (p * (n : Int) + a) hl'
   have e2 := ih s (0 * (n : Int) + a) hl'
   simp only [nz] at e1 e2
   rw [e1, e2]
   simp only [jis, jiD, jiv, Int.zero_mul, Int.zero_add]
   omega
theorem pz_cons (n : Nat) (r : List Nat) (a : Int) (s : List Int) (h : s.length = r.length) : pz ((nz (n :: r)).zip (a :: s)) = a * (PR r : Int) + pz ((nz r).zip s) := by
 have := pzf r s a h
 unfold pz at this ⊢
 simp only [nz, List.map_cons, List.zip_cons_cons, List.foldl_cons, Int.zero_mul, Int.zero_add] at this ⊢
 exact this
theorem ixl_pz : ∀ (ns : List Nat) (x : List Int), okIdx (nz ns) x = true → (0 ≤ pz ((nz ns).zip x) ∧ pz ((nz ns).zip x) < PR ns) ∧ ixl ns (pz ((nz ns).zip x)).toNat = x
 | [], x, h => by
  have h1 := (jbg.1 h).1
  simp [nz] at h1
  subst h1
  simp [pz, nz, PR, ixl]
 | n :: r, [], h => by
  have h1 := (jbg.1 h).1
  simp [nz] at h1
 | n :: r, a :: s, h => by
  obtain ⟨h1, h2⟩ := jbg.1 h
  have hl : s.length = r.length := by simpa [nz] using h1
  have ha := h2 0 n a (by simp [nz]) rfl
  have hr : okIdx (nz r) s = true := jbg.2 ⟨by simpa [nz] using hl, fun k n' x' g1 g2 => h2 (k + 1) n' x' (by simpa [nz] using g1) (by simpa using g2)⟩
  obtain ⟨⟨i1, i2⟩, i3⟩ := ixl_pz r s hr
  rw [pz_cons n r a s hl]
  have hpos : ∀ y ∈ r, 0 < y := fun y hy => by
   obtain ⟨k, hk⟩ := List.getElem?_of_mem hy
   have hk2 : k < s.length := by have := (jiT.1 hk).1; omega
   have := h2 (k + 1) y s[k] (by simp [nz, hk]) (by simp [hk2])
   omega
  have hP := jct hpos
  generalize pz ((nz r).zip s) = q at *
  obtain ⟨q, rfl⟩ : ∃ m : Nat, q = m := ⟨q.toNat, by omega⟩
  obtain ⟨a, rfl⟩ : ∃ m : Nat, a = m := ⟨a.toNat, by omega⟩
  have e : ((a : Int) * (PR r : Int) + (q : Int)) = ((a * PR r + q : Nat) : Int) := by simp
  have hq : q < PR r := by omega
  have han : a < n := by omega
  rw [e, jih] at *
  refine ⟨⟨by omega, ?_⟩, ?_⟩
  ·have : a * PR r + q < (a + 1) * PR r := by rw [Nat.add_mul]; omega
   have h5 : (a + 1) * PR r ≤ n * PR r := Nat.mul_le_mul_right _ han
   rw [PR]
   omega
  ·have e1 : (a * PR r + q) / PR r = a := by
    rw [jil, Nat.mul_add_div hP, Nat.div_eq_of_lt hq, Nat.add_zero]
   have e2 : ixl r (a * PR r + q) = s := by
    rw [← jhq r hpos, jil, Nat.mul_add_mod, jhq r hpos]
    exact i3
   simp only [ixl, e1, e2, jim han]
theorem jeU {ns : List Nat} {f : Nat → List Int} {n w : Nat} (hf : ∀ j, j < n → (f j).length = w) : ∀ m, m < n → slot (flat ns f n) ((m * w : Nat) : Int) w = f m := by
 have key : ∀ t, t ≤ n → (flat ns f t).length = t * w := by
  intro t
  induction t with
  | zero => intro _; simp [flat]
  | succ t ih => intro ht; rw [ja3, jiP, ih (by omega), hf t (by omega), Nat.add_mul, Nat.one_mul]
 induction n with
 | zero => intro m hm; omega
 | succ n ih =>
  intro m hm
  rw [ja3]
  have kn := key n (by omega)
  unfold slot
  rw [jih, jih]
  by_cases hmn : m = n
  ·subst hmn
   rw [jiX (by omega), ji0 (by omega), List.nil_append]
   exact jiZ (by rw [hf m (by omega)]; exact jii _)
  ·have ih := ih (fun j hj => hf j (by omega)) (fun t ht => key t (by omega)) m (by omega)
   unfold slot at ih
   rw [jih, jih] at ih
   have h5 : (m + 1) * w ≤ n * w := Nat.mul_le_mul_right _ (by omega)
   rw [Nat.add_mul, Nat.one_mul] at h5
   rw [jiX (by omega), jiW (by rw [ji7]; omega)]
   exact ih
theorem jeV {ns : List Nat} {data : List Int} {n w : Nat} (h : data.length = n * w) {f : Nat → List Int} (hf : ∀ m, m < n → f m = slot data ((m * w : Nat) : Int) w) : flat ns f n = data := by
 have key : ∀ t, t ≤ n → flat ns f t = data.take (t * w) := by
  intro t
  induction t with
  | zero => intro _; simp [flat]
  | succ t ih => intro ht; rw [ja3, ih (by omega), hf t (by omega), take_slot]
 rw [key n (jii _), ← h, jja]
theorem jeX {ns : List Nat} {f : Nat → List Int} {n w : Nat} (hf : ∀ j, j < n → (f j).length = w) : (flat ns f n).length = n * w := by
 induction n with
 | zero => simp [flat]
 | succ n ih => rw [ja3, jiP, ih (fun j hj => hf j (by omega)), hf n (by omega), Nat.add_mul, Nat.one_mul]
structure Ord (lt : Int → Int → Bool) : Prop where
 irr : ∀ a, lt a a = false
 tr : ∀ a b c, lt b a = false → lt c b = false → lt c a = false
 anti : ∀ a b, lt a b = false → lt b a = false → a = b
 asym : ∀ a b, lt a b = true → lt b a = false
theorem ord_lt : Ord fun a b => decide (a < b) := ⟨fun a => by simp, fun a b c h1 h2 => by simp at *; omega, fun a b h1 h2 => by simp at *; omega, fun a b h => by simp at *; omega⟩
theorem ord_gt : Ord fun a b => decide (a > b) := ⟨fun a => by simp, fun a b c h1 h2 => by simp at *; omega, fun a b h1 h2 => by simp at *; omega, fun a b h => by simp at *; omega⟩
def col (data : List Int) (w m k : Nat) : Int := (slot data ((m * w : Nat) : Int) w).getD k 0
theorem updGet {lt : Int → Int → Bool} {o v : List Int} {k : Nat} (h1 : k < o.length) (h2 : k < v.length) : (upd lt o v).getD k 0 = if lt (v.getD k 0) (o.getD k 0) then v.getD k 0 else o.getD k 0 := by
 unfold upd
 simp [jiJ, List.getElem?_zipWith, h1, h2]
theorem mst_spec {lt : Int → Int → Bool} (O : Ord lt) {data : List Int} {w n : Nat} (h : data.length = n * w) {k : Nat} (hk : k < w) : ∀ m, m ≤ n → 0 < n →
  (∀ j, j < m → lt (col data w j k) ((mst lt data w m).getD k 0) = false) ∧ ∃ j, j < max m 1 ∧ (mst lt data w m).getD k 0 = col data w j k := by
 intro m
 induction m with
 | zero => intro _ _; exact ⟨fun j hj => by omega, 0, by omega, by simp [mst, col]⟩
 | succ m ih =>
  intro hm hn
  obtain ⟨h1, j, hj, h2⟩ := ih (by omega) hn
  have hl1 := jcN (lt := lt) h (by omega : m ≤ n) hn
  have hl2 := jgu h (by omega : m < n)
  have hu := updGet (lt := lt) (o := mst lt data w m) (v := slot data ((m * w : Nat) : Int) w) (k := k) (by omega) (by omega)
  have hc : (slot data ((m * w : Nat) : Int) w).getD k 0 = col data w m k := rfl
  rw [hc] at hu
  simp only [mst]
  rw [hu]
  cases hb : lt (col data w m k) ((mst lt data w m).getD k 0) with
  | true =>
   rw [if_pos rfl]
   refine ⟨fun i hi => ?_, m, by omega, rfl⟩
   by_cases him : i = m
   ·subst him; exact O.irr _
   ·have h3 := h1 i (by omega)
    cases hc2 : lt (col data w i k) (col data w m k) with
    | false => rfl
    | true =>
     have h4 := O.asym _ _ hb
     rw [O.tr _ _ _ h4 h3] at hc2
     cases hc2
  | false =>
   rw [if_neg (by simp)]
   refine ⟨fun i hi => ?_, j, by omega, h2⟩
   by_cases him : i = m
   ·subst him; exact hb
   ·exact h1 i (by omega)
def sg (ns : List Nat) (a b m : Nat) : Nat := (pz ((nz ns).zip (swp (ixl (swn ns a b) m) a b))).toNat
end Go.Proofs.YtgjgpdceghjajaaGreatDoor
end
section
namespace Go.Proofs.YtgjgpdceghjajaaGreatDoor
open Go Go.V Go.Gr Go.Nb
theorem nz_ofz {zs : List Int} (h : ∀ z ∈ zs, 0 ≤ z) : nz (zs.map Int.toNat) = zs := by
 unfold nz
 rw [List.map_map]
 conv => rhs; rw [← List.map_id zs]
 exact List.map_congr_left fun z hz => jig (h z hz)
def loL (out : Int) (data : List Int) : List Int := rl (fun a b => decide (a < b)) data out.toNat data.length
def hiL (out : Int) (data : List Int) : List Int := rl (fun a b => decide (a > b)) data out.toNat data.length
theorem jgx {zs : List Int} {out : Int} {data : List Int} (hg : jal zs out data = true) : data.length = PR (zs.map Int.toNat) * out.toNat ∧ 0 < PR (zs.map Int.toNat) ∧ (loL out data).length = out.toNat ∧ (hiL out data).length = out.toNat := by
 have og := jat hg
 have e := nz_ofz (zs := zs) fun z hz => by have := og.2.1 z hz; omega
 have p := jdL (zs.map Int.toNat)
 rw [e] at p
 have h1 : (data.length : Int) = ((PR (zs.map Int.toNat) * out.toNat : Nat) : Int) := by
  rw [og.2.2.1.2, p, jis, jig (by omega)]
 have h2 : data.length = PR (zs.map Int.toNat) * out.toNat := by exact_mod_cast h1
 have h3 : 0 < PR (zs.map Int.toNat) := by
  have : ∀ l : List Int, (∀ z ∈ l, 2 ≤ z ∧ z ≤ 9) → 0 < prod l := fun l hl => by
   have g : ∀ (l : List Int) (a : Int), 0 < a → (∀ z ∈ l, 2 ≤ z ∧ z ≤ 9) → 0 < l.foldl (· * ·) a := by
    intro l
    induction l with
    | nil => exact fun a ha _ => ha
    | cons z l ih => exact fun a ha hz => ih (a * z) (Int.mul_pos ha (by have := hz z (List.mem_cons_self ..); omega)) fun y hy => hz y (List.mem_cons_of_mem _ hy)
   exact g l 1 (by decide) hl
  have := this zs og.2.1
  omega
 have h4 : out.toNat ≤ data.length := by
  rw [h2]
  exact Nat.le_mul_of_pos_left _ h3
 exact ⟨h2, h3, jeB h4 _, jeB h4 _⟩
theorem col_bd {data : List Int} (h : ∀ v ∈ data, 0 ≤ v ∧ v ≤ 65535) (w m k : Nat) : 0 ≤ col data w m k ∧ col data w m k ≤ 65535 := jbI h _ _ _
theorem jdk {zs : List Int} {out : Int} {data : List Int} (hg : jal zs out data = true) {j : Nat} (hj : j < out.toNat) :
  (0 ≤ (loL out data).getD j 0 ∧ (loL out data).getD j 0 ≤ 65535) ∧ (0 ≤ (hiL out data).getD j 0 ∧ (hiL out data).getD j 0 ≤ 65535) ∧
  ∀ xs, okIdx zs xs = true → (loL out data).getD j 0 ≤ (slot data (pz (zs.zip xs) * out) out).getD j 0 ∧ (slot data (pz (zs.zip xs) * out) out).getD j 0 ≤ (hiL out data).getD j 0 := by
 have og := jat hg
 have r := jgx hg
 have s1 := mst_spec ord_lt r.1 hj (PR (zs.map Int.toNat)) (jii _) r.2.1
 have s2 := mst_spec ord_gt r.1 hj (PR (zs.map Int.toNat)) (jii _) r.2.1
 have e1 := rl_mst (lt := fun a b => decide (a < b)) r.1 (by omega) (PR (zs.map Int.toNat)) (jii _)
 have e2 := rl_mst (lt := fun a b => decide (a > b)) r.1 (by omega) (PR (zs.map Int.toNat)) (jii _)
 rw [← r.1] at e1 e2
 rw [← e1] at s1
 rw [← e2] at s2
 refine ⟨?_, ?_, fun xs hx => ?_⟩
 ·obtain ⟨_, m, _, e⟩ := s1
  show 0 ≤ (rl _ data out.toNat data.length).getD j 0 ∧ (rl _ data out.toNat data.length).getD j 0 ≤ 65535
  rw [e]
  exact col_bd og.2.2.2 _ _ _
 ·obtain ⟨_, m, _, e⟩ := s2
  show 0 ≤ (rl _ data out.toNat data.length).getD j 0 ∧ (rl _ data out.toNat data.length).getD j 0 ≤ 65535
  rw [e]
  exact col_bd og.2.2.2 _ _ _
 ·have e := nz_ofz (zs := zs) fun z hz => by have := og.2.1 z hz; omega
  have ip := ixl_pz (zs.map Int.toNat) xs (by rw [e]; exact hx)
  rw [e] at ip
  have em : pz (zs.zip xs) * out = (((pz (zs.zip xs)).toNat * out.toNat : Nat) : Int) := by
   rw [jis, jig ip.1.1, jig (by omega)]
  have hm : (pz (zs.zip xs)).toNat < PR (zs.map Int.toNat) := by omega
  have a1 := s1.1 _ hm
  have a2 := s2.1 _ hm
  have ec : (slot data (pz (zs.zip xs) * out) out).getD j 0 = col data out.toNat (pz (zs.zip xs)).toNat j := by
   unfold col
   rw [em, show ((out.toNat : Nat) : Int) = out from by omega]
  rw [ec]
  simp only [decide_eq_false_iff_not] at a1 a2
  unfold loL hiL
  omega
theorem range_q {zs : List Int} {out : Int} {data : List Int} (hg : jal zs out data = true) (hl : zs.length ≤ 4) : Called Tryz.prog 25 [gridD zs out data] (.tup [.ints .i64 (loL out data), .ints .i64 (hiL out data), .int .i64 0]) := by
 have og := jat hg
 have c := range_c zs out data (by omega) (by omega)
 rw [hg] at c
 exact c
end Go.Proofs.YtgjgpdceghjajaaGreatDoor
end
