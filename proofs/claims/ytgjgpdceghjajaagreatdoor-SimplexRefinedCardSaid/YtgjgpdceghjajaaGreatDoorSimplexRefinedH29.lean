/- What functions of the program answer at given values, part 29. Conditions: those that each theorem names. -/
import Derived.Test.YtgjgpdceghjajaaGreatDoorSimplexRefinedH28
import Derived.Test.YtgjgpdceghjajaaGreatDoorSimplexRefinedH26
import Derived.Test.YtgjgpdceghjajaaGreatDoorSimplexRefinedH13
set_option linter.unusedSimpArgs false
set_option linter.unusedVariables false
set_option maxHeartbeats 8000000
set_option maxRecDepth 100000
section
namespace Go.Proofs.YtgjgpdceghjajaaGreatDoor
open Go Go.V
def gridD (size : List Int) (out : Int) (data : List Int) : D := .agg [.ints .i64 size, .int .i64 out, .ints .i64 data]
def jal (size : List Int) (out : Int) (data : List Int) : Bool :=
 decide (1 ≤ size.length ∧ size.length ≤ 4) && decide (1 ≤ out ∧ out ≤ 4) && size.all (fun n => decide (2 ≤ n ∧ n ≤ 9)) && decide ((data.length : Int) ≤ 4096 ∧ (data.length : Int) = prod size * out) && data.all fun v => decide (0 ≤ v ∧ v ≤ 65535)
theorem jhd {size : List Int} {out : Int} {data : List Int} {k : Nat} {x : Int} (hx : size[k]? = some x) (h : ¬ (2 ≤ x ∧ x ≤ 9)) : jal size out data = false := by
 have hm : x ∈ size := jiO hx
 have : size.all (fun n => decide (2 ≤ n ∧ n ≤ 9)) = false := by
  rw [List.all_eq_false]; exact ⟨x, hm, by simpa using h⟩
 unfold jal; rw [this]; simp only [Bool.and_false, Bool.false_and]
theorem jhe {size : List Int} {out : Int} {data : List Int} {k : Nat} {x : Int} (hx : data[k]? = some x) (h : ¬ (0 ≤ x ∧ x ≤ 65535)) : jal size out data = false := by
 have hm : x ∈ data := jiO hx
 have : data.all (fun v => decide (0 ≤ v ∧ v ≤ 65535)) = false := by
  rw [List.all_eq_false]; exact ⟨x, hm, by simpa using h⟩
 unfold jal; rw [this]; simp only [Bool.and_false, Bool.false_and]
theorem jf3 {size : List Int} (hall : size.all (fun n => decide (2 ≤ n ∧ n ≤ 9)) = true) (k : Nat) : 0 ≤ prod (size.take k) ∧ (size.length ≤ 4 → prod (size.take k) ≤ 6561) ∧ (size.length ≤ 4 → InR .i64 (prod (size.take k))) := by
 have hb : ∀ l : List Int, (∀ n ∈ l, 2 ≤ n ∧ n ≤ 9) → ∀ a : Int, 0 ≤ a → 0 ≤ l.foldl (· * ·) a ∧ l.foldl (· * ·) a ≤ a * 9 ^ l.length := by
  intro l
  induction l with
  | nil => intro _ a ha; simp; exact ha
  | cons x l ih =>
   intro hl a ha
   have hx := hl x (by simp)
   have h1 : 0 ≤ a * x := jie ha (by omega)
   have h2 := ih (fun n hn => hl n (by simp [hn])) (a * x) h1
   refine ⟨h2.1, Int.le_trans h2.2 ?_⟩
   have h3 : a * x ≤ a * 9 := jiw hx.2 ha
   have h4 : a * x * 9 ^ l.length ≤ a * 9 * 9 ^ l.length := jin h3 (Int.pow_nonneg (by omega))
   have h5 : a * 9 ^ (x :: l).length = a * 9 * 9 ^ l.length := by
    rw [jiY, Int.pow_succ, jiu _ 9, ← jiv]
   rw [h5]; exact h4
 simp only [jiI, decide_eq_true_eq] at hall
 have h1 := hb (size.take k) (fun n hn => hall n (jiV hn)) 1 (by omega)
 have h2 : size.length ≤ 4 → prod (size.take k) ≤ 6561 := by
  intro h
  refine Int.le_trans h1.2 ?_
  have : (size.take k).length ≤ 4 := by simp; omega
  generalize (size.take k).length = m at this
  match m, this with
  | 0, _ => decide
  | 1, _ => decide
  | 2, _ => decide
  | 3, _ => decide
  | 4, _ => decide
  | m + 5, h => omega
 refine ⟨h1.1, h2, fun h => ?_⟩
 have h3 := h2 h
 have h4 := h1.1
 simp only [V.InR, lo, hi]
 simp only [prod] at *
 omega
theorem prodm_bd {size : List Int} {out : Int} (hall : size.all (fun n => decide (2 ≤ n ∧ n ≤ 9)) = true) (h1 : size.length ≤ 4) (h2 : 1 ≤ out ∧ out ≤ 4) : InR .i64 (prod size * out) := by
 have h3 := jf3 hall size.length
 rw [jja] at h3
 have h4 : prod size ≤ 6561 := h3.2.1 h1
 have h5 : 0 ≤ prod size * out := jie h3.1 (by omega)
 have h6 : prod size * out ≤ 6561 * 4 := Int.mul_le_mul h4 h2.2 (by omega) (by omega)
 simp only [V.InR, lo, hi]; omega
theorem jb1 (size : List Int) (out : Int) (data : List Int) (hs : size.length ≤ 281474976710656) (hd : data.length ≤ 281474976710656) :
  Called Tryz.prog 37 [gridD size out data] (.int .i64 (if jal size out data then 0 else 100)) := by
 refine V.en tbOk Tryz.func37 ?_
 (conv => whnf)
 refine V.st ?_
 repeat ((try ((with_reducible refine .ext ?_); (conv => whnf))); (with_reducible refine jaa (r := ?_) ?_ ?_); rotate_left; (focus (first | exact (jec _ _ _))); (conv => whnf); refine V.st ?_)
 refine V.br (fun h => ?_) (fun h => ?_)
 ·(conv => whnf)
  refine V.st ?_
  refine Fin.of ?_
  have : jal size out data = false := by
   simp only [jal]
   simp at h
   simp
   omega
  rw [this]; rfl
 have h1 : 1 ≤ size.length ∧ size.length ≤ 4 ∧ 1 ≤ out ∧ out ≤ 4 := by
  simp at h; omega
 clear h
 (conv => whnf)
 refine V.st ?_
 refine lp_inv size.length (fun k => (size.take k).all (fun n => decide (2 ≤ n ∧ n ≤ 9)) = true) (fun k => [(1, .box 1 0), (19, .ints .i64 size), (20, .int .i64 size.length), (21, .int .i64 k)]) (fun _ => [(1, .box [.ints .i64 size, .int .i64 out, .ints .i64 data])]) ?_ rfl ?_
 ·exact Wk.of ⟨rfl, rfl, rfl, rfl, trivial⟩ ⟨rfl, trivial⟩
 intro k hk hI
 (conv => whnf)
 refine V.st ?_
 refine V.br (fun h => ?_) (fun h => ?_)
 ·simp only [decide_eq_true_eq] at h
  obtain ⟨x, hx1⟩ : ∃ x, size[k]? = some x := ⟨size[k], jiM (by omega)⟩
  have ex := V.getD_toNat size k x hx1
  (conv => whnf)
  refine V.st ?_
  repeat ((try ((with_reducible refine .ext ?_); (conv => whnf))); (with_reducible refine jaa (r := ?_) ?_ ?_); rotate_left; (focus (first | exact (jec _ _ _))); (conv => whnf); refine V.st ?_)
  rw [ex]
  refine V.br (fun h => ?_) (fun h => ?_)
  ·(conv => whnf)
   refine V.st ?_
   refine Fin.of ?_
   rw [jhd hx1 (by simp at h; omega)]; rfl
  ·(conv => whnf)
   refine V.st ?_
   exact ⟨k + 1, ⟨by omega, by rw [ji9, List.all_append, hI, hx1]; simp at h ⊢; omega⟩, by omega, Wk.of ⟨rfl, rfl, rfl, rfl, trivial⟩ ⟨rfl, trivial⟩⟩
 ·(conv => whnf)
  refine V.st ?_
  simp only [decide_eq_false_iff_not] at h
  have hall : size.all (fun n => decide (2 ≤ n ∧ n ≤ 9)) = true := by rw [← hI, jiZ (by omega)]
  have hp := jf3 hall
  have hm := prodm_bd hall h1.2.1 h1.2.2
  refine ⟨(V.tk [0,1,2,3,4,5,6,7,8,9,11,12] (V.e1 10 [12,11,7,6,5] (V.tk [13,14,15] .done))), [], V.pok, .go (jad ?_)⟩
  (conv => whnf)
  refine V.st ?_
  repeat ((try ((with_reducible refine .ext ?_); (conv => whnf))); (with_reducible refine jaa (r := ?_) ?_ ?_); rotate_left; (focus (first | exact (product_c _ (fun k _ => (hp k).2.2 h1.2.1) hs))); (conv => whnf); refine V.st ?_)
  refine V.br (fun h => ?_) (fun h => ?_)
  ·(conv => whnf)
   refine V.st ?_
   refine Fin.of ?_
   have : jal size out data = false := by
    unfold jal
    have : (decide ((data.length : Int) ≤ 4096 ∧ (data.length : Int) = prod size * out)) = false := by simp at h ⊢; omega
    rw [this]; simp
   rw [this]; rfl
  have h2 : (data.length : Int) ≤ 4096 ∧ (data.length : Int) = prod size * out := by simp at h; omega
  clear h
  (conv => whnf)
  refine V.st ?_
  refine lp_inv data.length (fun k => (data.take k).all (fun v => decide (0 ≤ v ∧ v ≤ 65535)) = true) (fun k => [(1, .box 1 0), (46, .ints .i64 data), (47, .int .i64 data.length), (48, .int .i64 k)]) (fun _ => [(1, .box [.ints .i64 size, .int .i64 out, .ints .i64 data])]) ?_ rfl ?_
  ·exact Wk.of ⟨rfl, rfl, rfl, rfl, trivial⟩ ⟨rfl, trivial⟩
  intro k hk hI
  (conv => whnf)
  refine V.st ?_
  refine V.br (fun h => ?_) (fun h => ?_)
  ·simp only [decide_eq_true_eq] at h
   obtain ⟨x, hx1⟩ : ∃ x, data[k]? = some x := ⟨data[k], jiM (by omega)⟩
   have ex := V.getD_toNat data k x hx1
   (conv => whnf)
   refine V.st ?_
   repeat ((try ((with_reducible refine .ext ?_); (conv => whnf))); (with_reducible refine jaa (r := ?_) ?_ ?_); rotate_left; (focus (first | exact (jec _ _ _))); (conv => whnf); refine V.st ?_)
   rw [ex]
   refine V.br (fun h => ?_) (fun h => ?_)
   ·(conv => whnf)
    refine V.st ?_
    refine Fin.of ?_
    rw [jhe hx1 (by simp at h; omega)]; rfl
   ·(conv => whnf)
    refine V.st ?_
    exact ⟨k + 1, ⟨by omega, by rw [ji9, List.all_append, hI, hx1]; simp at h ⊢; omega⟩, by omega, Wk.of ⟨rfl, rfl, rfl, rfl, trivial⟩ ⟨rfl, trivial⟩⟩
  ·(conv => whnf)
   refine V.st ?_
   simp only [decide_eq_false_iff_not] at h
   have hall2 : data.all (fun v => decide (0 ≤ v ∧ v ≤ 65535)) = true := by rw [← hI, jiZ (by omega)]
   have : jal size out data = true := by
    unfold jal
    rw [hall, hall2]; simp; omega
   refine Fin.of ?_
   rw [this]; rfl
theorem same_c (s1 : List Int) (o1 : Int) (d1 : List Int) (s2 : List Int) (o2 : Int) (d2 : List Int) (h1 : s1.length ≤ 281474976710656) (h2 : d1.length ≤ 281474976710656) (h3 : s2.length ≤ 281474976710656) (h4 : d2.length ≤ 281474976710656) :
  Called Tryz.prog 36 [gridD s1 o1 d1, gridD s2 o2 d2] (.bool (decide (s1 = s2 ∧ o1 = o2 ∧ d1 = d2))) := by
 refine V.en tbOk Tryz.func36 ?_
 (conv => whnf)
 refine V.st ?_
 repeat ((try ((with_reducible refine .ext ?_); (conv => whnf))); (with_reducible refine jaa (r := ?_) ?_ ?_); rotate_left; (focus (first | exact (jcp _ _ h1 h3) | exact (jcp _ _ h2 h4))); (conv => whnf); refine V.st ?_)
 refine Fin.of ?_
 congr 1
 by_cases a : s1 = s2 <;> by_cases b : o1 = o2 <;> by_cases c : d1 = d2 <;> simp [a, b, c]
def pz (z : List (Int × Int)) : Int := z.foldl (fun p a => p * a.1 + a.2) 0
def okIdx (size xs : List Int) : Bool := decide (xs.length = size.length) && (size.zip xs).all fun a => decide (0 ≤ a.2 ∧ a.2 ≤ a.1 - 1)
def pad4 (xs : List Int) : List Int := xs ++ List.replicate (4 - xs.length) 0
theorem jao {xs : List Int} (h : xs.length ≤ 4) : (pad4 xs).length = 4 := by simp [pad4]; omega
theorem jdp {xs : List Int} {k : Nat} {x : Int} (h : xs[k]? = some x) (hl : xs.length ≤ 4) : (pad4 (xs.take k)).set k x = pad4 (xs.take (k + 1)) := by
 have hk : k < xs.length := (jiT.1 h).1
 refine List.ext_getElem? fun j => ?_
 rw [List.getElem?_set]
 have h1 : (xs.take k).length = k := by simp; omega
 have h2 : (xs.take (k + 1)).length = k + 1 := by simp; omega
 have hp : (pad4 (xs.take k)).length = 4 := jao (by omega)
 by_cases e : k = j
 ·subst e
  rw [if_pos rfl, if_pos (by omega)]
  unfold pad4
  rw [jiS (by omega), ji8 (by omega), h]
 ·rw [if_neg e]
  unfold pad4
  rw [h1, h2]
  by_cases hj : j < k
  ·rw [jiS (by omega), jiS (by omega), ji8 hj, ji8 (by omega)]
  ·rw [List.getElem?_append_right (by omega), List.getElem?_append_right (by omega), h1, h2]
   simp only [List.getElem?_replicate]
   by_cases hj4 : j < 4
   ·rw [if_pos (by omega), if_pos (by omega)]
   ·rw [if_neg (by omega), if_neg (by omega)]
theorem pz_bd_aux (z : List (Int × Int)) : ∀ (p q : Int), (∀ a ∈ z, 0 ≤ a.2 ∧ a.2 ≤ a.1 - 1) → 0 ≤ p → p + 1 ≤ q →
  0 ≤ z.foldl (fun p a => p * a.1 + a.2) p ∧ z.foldl (fun p a => p * a.1 + a.2) p + 1 ≤ (z.map (·.1)).foldl (· * ·) q := by
 induction z with
 | nil => intro p q _ h1 h2; exact ⟨h1, h2⟩
 | cons a z ih =>
  intro p q h h1 h2
  have ha := h a (by simp)
  simp only [List.foldl_cons, List.map_cons]
  have h3 : 0 ≤ p * a.1 := jie h1 (by omega)
  have h4 : (p + 1) * a.1 ≤ q * a.1 := jin h2 (by omega)
  rw [jiD] at h4
  exact ih _ _ (fun b hb => h b (by simp [hb])) (by omega) (by omega)
theorem pz_bd {z : List (Int × Int)} (h : ∀ a ∈ z, 0 ≤ a.2 ∧ a.2 ≤ a.1 - 1) : 0 ≤ pz z ∧ pz z + 1 ≤ prod (z.map (·.1)) := pz_bd_aux z 0 1 h (by omega) (by omega)
theorem jbg {size xs : List Int} : okIdx size xs = true ↔ xs.length = size.length ∧ ∀ (k : Nat) (n x : Int), size[k]? = some n → xs[k]? = some x → 0 ≤ x ∧ x ≤ n - 1 := by
 unfold okIdx
 rw [jh9, decide_eq_true_eq, jiI]
 constructor
 ·rintro ⟨h1, h2⟩
  refine ⟨h1, fun k n x hn hx => ?_⟩
  have := h2 (n, x) (jiO (i := k) (by rw [List.getElem?_zip_eq_some]; exact ⟨hn, hx⟩))
  simpa using this
 ·rintro ⟨h1, h2⟩
  refine ⟨h1, fun a ha => ?_⟩
  obtain ⟨k, hk⟩ := List.getElem?_of_mem ha
  rw [List.getElem?_zip_eq_some] at hk
  simpa using h2 k _ _ hk.1 hk.2
theorem jbo {size : List Int} {out : Int} {data : List Int} (h : jal size out data = true) : 1 ≤ size.length ∧ size.length ≤ 4 ∧ 1 ≤ out ∧ out ≤ 4 ∧ size.all (fun n => decide (2 ≤ n ∧ n ≤ 9)) = true ∧ (data.length : Int) ≤ 4096 ∧ (data.length : Int) = prod size * out ∧ data.all (fun v => decide (0 ≤ v ∧ v ≤ 65535)) = true := by
 unfold jal at h
 simp only [jh9] at h
 obtain ⟨⟨⟨⟨h1, h2⟩, h3⟩, h4⟩, h5⟩ := h
 simp only [decide_eq_true_eq] at h1 h2 h4
 exact ⟨h1.1, h1.2, h2.1, h2.2, h3, h4.1, h4.2, h5⟩
theorem okIdx_step {size xs : List Int} {n x : Int} (h : okIdx size xs = true) (hl : size.length = xs.length) (hx : 0 ≤ x ∧ x ≤ n - 1) : okIdx (size ++ [n].toArray.toList) (xs ++ [x].toArray.toList) = true := by
 unfold okIdx at *
 rw [List.zip_append hl]
 simp at *
 exact ⟨by omega, h.2, by omega⟩
theorem find_c (size : List Int) (out : Int) (data xs : List Int) (hg : jal size out data = true) (hx : xs.length ≤ 281474976710656) :
  Called Tryz.prog 47 [gridD size out data, .ints .i64 xs] (.tup [.iarr .i64 (if okIdx size xs then pad4 xs else [0, 0, 0, 0]), .bool (okIdx size xs)]) := by
 have hG := jbo hg
 refine V.en tbOk Tryz.func47 ?_
 (conv => whnf)
 refine V.st ?_
 refine V.br (fun h => ?_) (fun h => ?_)
 ·have : okIdx size xs = false := by
   unfold okIdx
   simp at h; simp; omega
  (conv => whnf)
  refine V.st ?_
  rw [this]
  exact Fin.of rfl
 have hl : xs.length = size.length := by simp at h; omega
 clear h
 (conv => whnf)
 refine V.st ?_
 refine lp_go (xs.length) (fun k => okIdx (size.take k) (xs.take k) = true) (fun k => [(19, .int .i64 k)]) (fun k => [(6, .arr .i64 (pad4 (xs.take k)))]) V.wk ?_ ?_
 ·rfl
 intro k hk hI
 (conv => whnf)
 refine V.st ?_
 refine V.br (fun h => ?_) (fun h => ?_)
 ·simp only [decide_eq_true_eq] at h
  obtain ⟨x, hx1, ex⟩ := getx (xs := xs) (k := k) (by omega)
  obtain ⟨n, hn1, en⟩ := getx (xs := size) (k := k) (by omega)
  have hnb : 2 ≤ n ∧ n ≤ 9 := by
   have := jiI.1 hG.2.2.2.2.1 n (jiO hn1)
   simpa using this
  (conv => whnf)
  refine V.st ?_
  rw [en]
  refine V.st ?_
  repeat ((try ((with_reducible refine .ext ?_); (conv => whnf))); (with_reducible refine jaa (r := ?_) ?_ ?_); rotate_left; (focus (first | exact (jec _ _ _))); (conv => whnf); refine V.st ?_)
  rw [ex]
  refine V.br (fun h => ?_) (fun h => ?_)
  ·have : okIdx size xs = false := by
    cases hb : okIdx size xs with
    | false => rfl
    | true =>
     have := (jbg.1 hb).2 k n x hn1 hx1
     simp at h; omega
   (conv => whnf)
   refine V.st ?_
   rw [this]
   exact Fin.of rfl
  ·(conv => whnf)
   refine V.st ?_
   simp only [jao (xs := xs.take k) (by simp; omega)]
   refine V.st ?_
   simp only [jif, jih]
   rw [jdp hx1 (by omega)]
   exact ⟨k + 1, ⟨by omega, (by rw [ji9, ji9, hn1, hx1]; exact okIdx_step (n := n) (x := x) hI (by simp [jiQ]; omega) (by simp at h; omega))⟩, by omega, V.wk⟩
 ·simp only [decide_eq_false_iff_not] at h
  rw [jiZ (by omega), jiZ (by omega)] at hI
  (conv => whnf)
  refine V.st ?_
  have hp4 : (pad4 xs).length = 4 := jao (by omega)
  rw [jiZ (by omega)]
  refine V.st ?_
  rw [hI]
  exact Fin.of rfl
theorem place_c (size : List Int) (out : Int) (data xs : List Int) (hg : jal size out data = true) (hx : xs.length = 4) (hi : ∀ (k : Nat) (n x : Int), size[k]? = some n → xs[k]? = some x → 0 ≤ x ∧ x ≤ n - 1) :
  Called Tryz.prog 71 [gridD size out data, .iarr .i64 xs] (.int .i64 (pz (size.zip xs) * out)) := by
 have hG := jbo hg
 have hb : ∀ k, k ≤ size.length → 0 ≤ pz ((size.zip xs).take k) ∧ pz ((size.zip xs).take k) + 1 ≤ 6561 := fun k hk => by
  have h1 := pz_bd (z := (size.zip xs).take k) (fun a ha => by
   obtain ⟨j, hj⟩ := List.getElem?_of_mem (jiV ha)
   rw [List.getElem?_zip_eq_some] at hj
   exact hi j _ _ hj.1 hj.2)
  have h2 := (jf3 hG.2.2.2.2.1 k).2.1 hG.2.1
  have h3 : ((size.zip xs).take k).map (·.1) = size.take k := by
   rw [List.map_take, List.map_fst_zip (by omega)]
  rw [h3] at h1
  omega
 have hb2 := hb size.length (by omega)
 rw [jiZ (by simp; omega)] at hb2
 refine V.en tbOk Tryz.func71 ?_
 (conv => whnf)
 refine V.st ?_
 refine lp_go (size.length) (fun k => True) (fun k => [(5, .int .i64 (pz ((size.zip xs).take k))), (12, .int .i64 k)]) (fun k => []) V.wk ?_ ?_
 ·trivial
 intro k hk _
 (conv => whnf)
 refine V.st ?_
 refine V.br (fun h => ?_) (fun h => ?_)
 ·simp only [decide_eq_true_eq] at h
  obtain ⟨n, hn1, en⟩ := getx (xs := size) (k := k) (by omega)
  obtain ⟨x, hx1, ex⟩ := getx (xs := xs) (k := k) (by omega)
  have hz : (size.zip xs)[k]? = some (n, x) := by rw [List.getElem?_zip_eq_some]; exact ⟨hn1, hx1⟩
  have hs : pz ((size.zip xs).take (k + 1)) = pz ((size.zip xs).take k) * n + x := by
   rw [ji9, hz]; simp [pz]
  have h1 := hb k (by omega)
  have h2 := hb (k + 1) (by omega)
  have h3 := hi k n x hn1 hx1
  rw [hs] at h2
  have h4 : 0 ≤ pz ((size.zip xs).take k) * n := jie h1.1 (by omega)
  refine V.r0 (V.a3 @en ex @jif) ?_
  rw [← hs]
  exact ⟨k + 1, ⟨by omega, trivial⟩, by omega, V.wk⟩
 ·simp only [decide_eq_false_iff_not] at h
  rw [jiZ (l := size.zip xs) (by simp; omega)]
  have hm : InR .i64 (pz (size.zip xs) * out) := by
   have h5 : 0 ≤ pz (size.zip xs) * out := jie hb2.1 (by omega)
   have h6 : pz (size.zip xs) * out ≤ 6561 * 4 := Int.mul_le_mul (by omega) (by omega) (by omega) (by omega)
   simp only [V.InR, lo, V.hi]; omega
  (conv => whnf)
  refine V.st ?_
  exact Fin.same _
theorem pz_last {size : List Int} {out : Int} {data xs : List Int} (hg : jal size out data = true) (hx : size.length ≤ xs.length) (hi : ∀ (k : Nat) (n x : Int), size[k]? = some n → xs[k]? = some x → 0 ≤ x ∧ x ≤ n - 1) :
  0 ≤ pz (size.zip xs) * out ∧ pz (size.zip xs) * out + out ≤ data.length := by
 have hG := jbo hg
 have h1 := pz_bd (z := size.zip xs) (fun a ha => by
  obtain ⟨j, hj⟩ := List.getElem?_of_mem ha
  rw [List.getElem?_zip_eq_some] at hj
  exact hi j _ _ hj.1 hj.2)
 rw [List.map_fst_zip (by omega)] at h1
 refine ⟨jie h1.1 (by omega), ?_⟩
 have h2 : (pz (size.zip xs) + 1) * out ≤ prod size * out := jin h1.2 (by omega)
 rw [jiD] at h2
 omega
def slot (data : List Int) (p out : Int) : List Int := (data.drop p.toNat).take out.toNat
theorem slot_copy {data : List Int} {p out : Int} (h1 : 0 ≤ p) (h2 : 0 ≤ out) (h3 : p + out ≤ data.length) :
  List.take out.toNat (V.setAt (List.replicate out.toNat 0) 0 (List.take out.toNat (List.drop p.toNat (List.take (p + out).toNat data)))) = slot data p out := by
 have e1 : List.take out.toNat (List.drop p.toNat (List.take (p + out).toNat data)) = slot data p out := by
  have : (p + out).toNat = p.toNat + out.toNat := by omega
  rw [this, List.drop_take, List.take_take]
  simp [slot]
 rw [e1]
 have hl : (slot data p out).length = out.toNat := by simp [slot]; omega
 unfold V.setAt
 rw [List.take_zero, List.nil_append, jiW (by omega), jiZ (by omega)]
theorem values_c (size : List Int) (out : Int) (data xs : List Int) (hg : jal size out data = true) (hx : xs.length = 4) (hi : ∀ (k : Nat) (n x : Int), size[k]? = some n → xs[k]? = some x → 0 ≤ x ∧ x ≤ n - 1) :
  Called Tryz.prog 40 [gridD size out data, .iarr .i64 xs] (.ints .i64 (slot data (pz (size.zip xs) * out) out)) := by
 have hG := jbo hg
 have hp := pz_last hg (by omega) hi
 refine V.en tbOk Tryz.func40 ?_
 (conv => whnf)
 refine V.st ?_
 repeat ((try ((with_reducible refine .ext ?_); (conv => whnf))); (with_reducible refine jaa (r := ?_) ?_ ?_); rotate_left; (focus (first | exact (place_c _ _ _ _ hg hx hi))); (conv => whnf); refine V.st ?_)
 try refine And.intro (fun _ => ⟨by omega, by simp⟩) ?_
 (conv => whnf)
 refine V.st ?_
 exact Fin.of (by rw [slot_copy hp.1 (by omega) hp.2])
theorem jg0 {data : List Int} {p out : Int} (h1 : 0 ≤ p) (h2 : 0 ≤ out) (h3 : p + out ≤ data.length) : (slot data p out).length = out.toNat := by
 simp [slot]; omega
theorem jeJ {size xs : List Int} (h : okIdx size xs = true) (h4 : size.length ≤ 4) : (pad4 xs).length = 4 ∧ ∀ (k : Nat) (n x : Int), size[k]? = some n → (pad4 xs)[k]? = some x → 0 ≤ x ∧ x ≤ n - 1 := by
 obtain ⟨h1, h2⟩ := jbg.1 h
 refine ⟨jao (by omega), fun k n x hn hx => ?_⟩
 have hk := (jiT.1 hn).1
 unfold pad4 at hx
 rw [jiS (by omega)] at hx
 exact h2 k n x hn hx
theorem zip_pad {size xs : List Int} (h : okIdx size xs = true) : size.zip (pad4 xs) = size.zip xs := by
 obtain ⟨h1, h2⟩ := jbg.1 h
 unfold pad4
 have := List.zip_append (l₁ := size) (r₁ := ([] : List Int)) (l₂ := xs) (r₂ := List.replicate (4 - xs.length) 0) h1.symm
 simpa using this
theorem gat_c (size : List Int) (out : Int) (data xs : List Int) (hs : size.length ≤ 281474976710656) (hd : data.length ≤ 281474976710656) (hx : xs.length ≤ 281474976710656) :
  Called Tryz.prog 20 [gridD size out data, .ints .i64 xs] (.tup [.ints .i64 (if jal size out data && okIdx size xs then slot data (pz (size.zip xs) * out) out else []), .int .i64 (if jal size out data then (if okIdx size xs then 0 else 2) else 100)]) := by
 refine V.en tbOk Tryz.func20 ?_
 (conv => whnf)
 refine V.st ?_
 repeat ((try ((with_reducible refine .ext ?_); (conv => whnf))); (with_reducible refine jaa (r := ?_) ?_ ?_); rotate_left; (focus (first | exact (jb1 _ _ _ hs hd))); (conv => whnf); refine V.st ?_)
 cases hg : jal size out data with
 | false =>
  refine V.br (fun h => ?_) (fun h => ?_)
  ·(conv => whnf)
   refine V.st ?_
   exact Fin.tup ⟨Fin.nil _, Fin.of rfl, trivial⟩
  ·simp at h
 | true =>
  have hG := jbo hg
  refine V.br (fun h => ?_) (fun h => ?_)
  ·simp at h
  have hpl : (if okIdx size xs = true then pad4 xs else [0, 0, 0, 0]).length = 4 := by
   split
   ·rename_i h; exact (jeJ h hG.2.1).1
   ·rfl
  (conv => whnf)
  refine V.st ?_
  repeat ((try ((with_reducible refine .ext ?_); (conv => whnf))); (with_reducible refine jaa (r := ?_) ?_ ?_); rotate_left; (focus (first | exact (find_c _ _ _ _ hg hx))); (conv => whnf); refine V.st ?_)
  refine V.br (fun hi => ?_) (fun hi => ?_)
  ·have hi2 : okIdx size xs = false := by simpa using hi
   (conv => whnf)
   refine V.st ?_
   rw [hi2]
   exact Fin.tup ⟨Fin.nil _, Fin.of rfl, trivial⟩
  ·have hi2 : okIdx size xs = true := by simpa using hi
   obtain ⟨hp1, hp2⟩ := jeJ hi2 hG.2.1
   rw [hi2, if_pos rfl]
   (conv => whnf)
   refine V.st ?_
   repeat ((try ((with_reducible refine .ext ?_); (conv => whnf))); (with_reducible refine jaa (r := ?_) ?_ ?_); rotate_left; (focus (first | exact (values_c _ _ _ _ hg hp1 hp2))); (conv => whnf); refine V.st ?_)
   rw [zip_pad hi2]
   exact Fin.of rfl
end Go.Proofs.YtgjgpdceghjajaaGreatDoor
end
section
namespace Go.Proofs.YtgjgpdceghjajaaGreatDoor
open Go Go.V Go.Nb
def smF (P : Nat → Rat) : Nat → Rat
 | 0 => P 0
 | k + 1 => smF P k + P (k + 1)
theorem fq_sm {P : Nat → Rat} {a : Nat} (h : ∀ k, Fq a (P k)) : ∀ k, Fq ((k + 1) * a + k) (smF P k)
 | 0 => (h 0).mono (by omega)
 | k + 1 => ((fq_sm h k).add (h (k + 1))).mono (by rw [Nat.add_mul (k + 1)]; omega)
def gvF (zs : List Int) (out : Int) (data : List Int) (j : Nat) (i k l : Int) : Rat := (((slot data (pz (zs.zip ([i, k, l].take zs.length)) * out) out).getD j 0 : Int) : Rat)
def evQ (zs : List Int) (out : Int) (data : List Int) (x0 x1 x2 : Rat) (j : Nat) : Rat := evF (zs.getD 0 2) (zs.getD 1 2) (zs.getD 2 2) (gvF zs out data j) x0 x1 x2 / 65535
theorem jat {zs : List Int} {out : Int} {data : List Int} (h : jal zs out data = true) : (1 ≤ out ∧ out ≤ 4) ∧ (∀ z ∈ zs, 2 ≤ z ∧ z ≤ 9) ∧ ((data.length : Int) ≤ 4096 ∧ (data.length : Int) = prod zs * out) ∧ ∀ v ∈ data, 0 ≤ v ∧ v ≤ 65535 := by
 unfold jal at h
 simp only [jh9, decide_eq_true_eq, jiI] at h
 exact ⟨h.1.1.1.2, h.1.1.2, h.1.2, h.2⟩
theorem jbB {l : List Int} {p : Int → Prop} (h : ∀ v ∈ l, p v) (h0 : p 0) (j : Nat) : p (l.getD j 0) := by
 by_cases hj : j < l.length
 ·rw [jiJ, jiM hj]
  exact h _ (jiN hj)
 ·rw [jiJ, ji5 (by omega)]
  exact h0
theorem jbI {data : List Int} (h : ∀ v ∈ data, 0 ≤ v ∧ v ≤ 65535) (p w : Int) (j : Nat) : 0 ≤ (slot data p w).getD j 0 ∧ (slot data p w).getD j 0 ≤ 65535 :=
 jbB (p := fun v => 0 ≤ v ∧ v ≤ 65535) (fun v hv => h v (jiU (jiV hv))) (by omega) j
theorem jfC {zs : List Int} {out : Int} {data xs : List Int} (h : jal zs out data = true) (hi : okIdx zs xs = true) (hl : zs.length ≤ 4) (hx : xs.length ≤ 4) : Called Tryz.prog 20 [gridD zs out data, .ints .i64 xs] (.tup [.ints .i64 (slot data (pz (zs.zip xs) * out) out), .int .i64 0]) := by
 have o := jat h
 have c := gat_c zs out data xs (by omega) (by omega) (by omega)
 rw [h, hi] at c
 exact c
theorem jc1 {zs : List Int} {out : Int} {data xs : List Int} (h : jal zs out data = true) (hi : okIdx zs xs = true) : (slot data (pz (zs.zip xs) * out) out).length = out.toNat := by
 have o := jat h
 unfold okIdx at hi
 simp only [jh9, decide_eq_true_eq, jiI] at hi
 have b := pz_bd hi.2
 have e : (zs.zip xs).map (·.1) = zs := List.map_fst_zip (by omega)
 rw [e] at b
 have h1 : 0 ≤ pz (zs.zip xs) * out := jie b.1 (by omega)
 have h2 : pz (zs.zip xs) * out + out ≤ data.length := by
  rw [o.2.2.1.2]
  have := jin b.2 (show 0 ≤ out by omega)
  rw [jiD, jiE] at this
  exact this
 exact jg0 h1 (by omega) h2
theorem ord3_mem (r0 r1 r2 : Rat) : ord3 r0 r1 r2 = [0, 1, 2] ∨ ord3 r0 r1 r2 = [0, 2, 1] ∨ ord3 r0 r1 r2 = [1, 0, 2] ∨ ord3 r0 r1 r2 = [1, 2, 0] ∨ ord3 r0 r1 r2 = [2, 0, 1] ∨ ord3 r0 r1 r2 = [2, 1, 0] := by
 unfold ord3
 repeat' split
 all_goals simp
theorem ord2_mem (r0 r1 : Rat) : ord2 r0 r1 = [0, 1] ∨ ord2 r0 r1 = [1, 0] := by
 unfold ord2
 split
 ·exact .inr rfl
 ·exact .inl rfl
theorem sp_20 : spB 2 0 = 0 ∧ spR 2 0 = 0 := by decide +kernel
theorem ord3_20 {r0 r1 : Rat} (h0 : 0 ≤ r0) (h1 : 0 ≤ r1) : ord3 r0 r1 0 = ord2 r0 r1 ++ [2] := by
 have g0 : ¬ r0 < 0 := Rat.not_lt.2 h0
 have g1 : ¬ r1 < 0 := Rat.not_lt.2 h1
 unfold ord3 ord2
 by_cases h : r0 < r1
 ·rw [if_pos h, if_neg g0, if_pos h]; rfl
 ·rw [if_neg h, if_neg g1, if_neg h]; rfl
theorem ord3_10 {r0 : Rat} (h0 : 0 ≤ r0) : ord3 r0 0 0 = [0, 1, 2] := by
 have g0 : ¬ r0 < 0 := Rat.not_lt.2 h0
 unfold ord3
 rw [if_neg g0, if_neg (by decide +kernel)]
theorem spR_nn {s : Int} (hs : 2 ≤ s) (x : Rat) : 0 ≤ spR s x := by
 have h := (Rat.le_floor_iff (x := (gp s x).floor) (a := gp s x)).1 (Int.le_refl _)
 have g : ((spB s x : Int) : Rat) ≤ (((gp s x).floor : Int) : Rat) := Rat.intCast_le_intCast.2 (by unfold spB; omega)
 unfold spR
 grind
theorem jaN : (65535 : Int).natAbs < 10 ^ 5 := by decide
theorem jbS : ((65535 : Int) : Rat).num ≠ 0 := by decide
theorem valU1 (z0 b0 out : Int) (data O : List Int) (rq : Nat → Rat) (fr : ∀ k, Fq 43 (rq k)) (U : Nat → List Int) (ho : 1 ≤ out ∧ out ≤ 4) (hU : ∀ k, k < 2 → (U k).length = out.toNat ∧ ∀ j, 0 ≤ (U k).getD j 0 ∧ (U k).getD j 0 ≤ 65535) (hl : O.length = 1) (hx : ∀ k, k < 1 → 0 ≤ O.getD k 0 ∧ O.getD k 0 < 4) (hi : ∀ k, k < 1 → InR .i64 ((atK [b0, 0, 0, 0] O k).getD (O.getD k 0).toNat 0 + 1))
  (pt : ∀ k, k < 2 → Called Tryz.prog 80 [.agg [.ints .i64 [z0], .int .i64 out, .ints .i64 data, .ints .i64 [b0], .ints .i64 O, slQ (fun k => txq (wqN rq O 1 k)) 2], .iarr .i64 (atK [b0, 0, 0, 0] O k)] (.tup [.ints .i64 (U k), .int .i64 0])) :
  Called Tryz.prog 45 [.agg [.ints .i64 [z0], .int .i64 out, .ints .i64 data, .ints .i64 [b0], .ints .i64 O, slQ (fun k => txq (wqN rq O 1 k)) 2]] (.tup [slQ (fun j => txq (smF (fun k => wqN rq O 1 k * (((U k).getD j 0 : Int) : Rat)) 1 / 65535)) out.toNat, .int .i64 0]) := by
 have v1 : ∀ j : Nat, j < out.toNat → Called Tryz.prog 83 [.int .i64 (j : Int), .ref [.slf 1 2 (fun j => List.take 1 (List.drop (j * 1) [.ints .i64 (U 0), .ints .i64 (U 1)]))], .ref [slQ (fun k => txq (wqN rq O 1 k)) 2]] (.tup [frT (smF (fun k => wqN rq O 1 k * (((U k).getD j 0 : Int) : Rat)) 1 / 65535), .int .i64 0]) := by
  intro j hj
  have fu := jaq (n := 65535) (by omega)
  have fm : ∀ k, k < 2 → Fq 92 (wqN rq O 1 k * (((U k).getD j 0 : Int) : Rat)) := fun k hk => (fq_wq fr O 1 k).mul (jaJ (n := 5) (by have := (hU k hk).2 j; omega) (by omega))
  have i0 := jaq (n := (U 0).getD j 0) (by have := (hU 0 (by omega)).2 j; omega)
  have u0 := zmul (fq_wq fr O 1 0) (jaJ (n := 5) (z := (U 0).getD j 0) (by have := (hU 0 (by omega)).2 j; omega) (by omega)) (by decide) (by decide) (by decide)
  have m0 := prod2_0 (fun k => txq (wqN rq O 1 k)) (fun k => txq (wqN rq O 1 k * (((U k).getD j 0 : Int) : Rat))) U j _ _ (by rw [(hU 0 (by omega)).1]; exact hj) i0 u0
  have i1 := jaq (n := (U 1).getD j 0) (by have := (hU 1 (by omega)).2 j; omega)
  have u1 := zmul (fq_wq fr O 1 1) (jaJ (n := 5) (z := (U 1).getD j 0) (by have := (hU 1 (by omega)).2 j; omega) (by omega)) (by decide) (by decide) (by decide)
  have m1 := prod2_1 (fun k => txq (wqN rq O 1 k)) (fun k => txq (wqN rq O 1 k * (((U k).getD j 0 : Int) : Rat))) U j _ _ (by rw [(hU 1 (by omega)).1]; exact hj) i1 u1
  have li := list2_3 (fun k => txq (wqN rq O 1 k * (((U k).getD j 0 : Int) : Rat))) m0 m1
  have s0 : Fq 92 (smF (fun k => wqN rq O 1 k * (((U k).getD j 0 : Int) : Rat)) 0) := fm 0 (by omega)
  have s1 : Fq 185 (smF (fun k => wqN rq O 1 k * (((U k).getD j 0 : Int) : Rat)) 1) := s0.add (fm 1 (by omega))
  have su := sum2 (fun k => txq (wqN rq O 1 k * (((U k).getD j 0 : Int) : Rat))) (fun k => txq (smF (fun k => wqN rq O 1 k * (((U k).getD j 0 : Int) : Rat)) k)) rfl (zadd s0 (fm 1 (by omega)) (by decide) (by decide) (by decide))
  have dv := zdiv s1 (jaJ (n := 5) (z := 65535) jaN (by decide)) jbS (by decide) (by decide) (by decide)
  rw [show ((65535 : Int) : Rat) = 65535 from rfl] at fu dv
  exact val1_2 (fun k => txq (wqN rq O 1 k)) (fun k => txq (wqN rq O 1 k * (((U k).getD j 0 : Int) : Rat))) (fun k => txq (smF (fun k => wqN rq O 1 k * (((U k).getD j 0 : Int) : Rat)) k)) U j _ _ _ _ li su fu dv
 refine value1_t z0 b0 out data O (fun k => txq (wqN rq O 1 k)) U _ _ hl hx hi pt ?_
 have h4 : out = 1 ∨ out = 2 ∨ out = 3 ∨ out = 4 := by omega
 rcases h4 with e | e | e | e <;> subst e
 ·exact jhp (z := 0) (fun j => txq (smF (fun k => wqN rq O 1 k * (((U k).getD j 0 : Int) : Rat)) 1 / 65535)) (v1 0 (by decide))
 ·exact jho (z := 0) (fun j => txq (smF (fun k => wqN rq O 1 k * (((U k).getD j 0 : Int) : Rat)) 1 / 65535)) (v1 0 (by decide)) (v1 1 (by decide))
 ·exact jhn (z := 0) (fun j => txq (smF (fun k => wqN rq O 1 k * (((U k).getD j 0 : Int) : Rat)) 1 / 65535)) (v1 0 (by decide)) (v1 1 (by decide)) (v1 2 (by decide))
 ·exact jhm (z := 0) (fun j => txq (smF (fun k => wqN rq O 1 k * (((U k).getD j 0 : Int) : Rat)) 1 / 65535)) (v1 0 (by decide)) (v1 1 (by decide)) (v1 2 (by decide)) (v1 3 (by decide))
theorem valU2 (z0 z1 b0 b1 out : Int) (data O : List Int) (rq : Nat → Rat) (fr : ∀ k, Fq 43 (rq k)) (U : Nat → List Int) (ho : 1 ≤ out ∧ out ≤ 4) (hU : ∀ k, k < 3 → (U k).length = out.toNat ∧ ∀ j, 0 ≤ (U k).getD j 0 ∧ (U k).getD j 0 ≤ 65535) (hl : O.length = 2) (hx : ∀ k, k < 2 → 0 ≤ O.getD k 0 ∧ O.getD k 0 < 4) (hi : ∀ k, k < 2 → InR .i64 ((atK [b0, b1, 0, 0] O k).getD (O.getD k 0).toNat 0 + 1))
  (pt : ∀ k, k < 3 → Called Tryz.prog 80 [.agg [.ints .i64 [z0, z1], .int .i64 out, .ints .i64 data, .ints .i64 [b0, b1], .ints .i64 O, slQ (fun k => txq (wqN rq O 2 k)) 3], .iarr .i64 (atK [b0, b1, 0, 0] O k)] (.tup [.ints .i64 (U k), .int .i64 0])) :
  Called Tryz.prog 45 [.agg [.ints .i64 [z0, z1], .int .i64 out, .ints .i64 data, .ints .i64 [b0, b1], .ints .i64 O, slQ (fun k => txq (wqN rq O 2 k)) 3]] (.tup [slQ (fun j => txq (smF (fun k => wqN rq O 2 k * (((U k).getD j 0 : Int) : Rat)) 2 / 65535)) out.toNat, .int .i64 0]) := by
 have v1 : ∀ j : Nat, j < out.toNat → Called Tryz.prog 83 [.int .i64 (j : Int), .ref [.slf 1 3 (fun j => List.take 1 (List.drop (j * 1) [.ints .i64 (U 0), .ints .i64 (U 1), .ints .i64 (U 2)]))], .ref [slQ (fun k => txq (wqN rq O 2 k)) 3]] (.tup [frT (smF (fun k => wqN rq O 2 k * (((U k).getD j 0 : Int) : Rat)) 2 / 65535), .int .i64 0]) := by
  intro j hj
  have fu := jaq (n := 65535) (by omega)
  have fm : ∀ k, k < 3 → Fq 92 (wqN rq O 2 k * (((U k).getD j 0 : Int) : Rat)) := fun k hk => (fq_wq fr O 2 k).mul (jaJ (n := 5) (by have := (hU k hk).2 j; omega) (by omega))
  have i0 := jaq (n := (U 0).getD j 0) (by have := (hU 0 (by omega)).2 j; omega)
  have u0 := zmul (fq_wq fr O 2 0) (jaJ (n := 5) (z := (U 0).getD j 0) (by have := (hU 0 (by omega)).2 j; omega) (by omega)) (by decide) (by decide) (by decide)
  have m0 := prod3_0 (fun k => txq (wqN rq O 2 k)) (fun k => txq (wqN rq O 2 k * (((U k).getD j 0 : Int) : Rat))) U j _ _ (by rw [(hU 0 (by omega)).1]; exact hj) i0 u0
  have i1 := jaq (n := (U 1).getD j 0) (by have := (hU 1 (by omega)).2 j; omega)
  have u1 := zmul (fq_wq fr O 2 1) (jaJ (n := 5) (z := (U 1).getD j 0) (by have := (hU 1 (by omega)).2 j; omega) (by omega)) (by decide) (by decide) (by decide)
  have m1 := prod3_1 (fun k => txq (wqN rq O 2 k)) (fun k => txq (wqN rq O 2 k * (((U k).getD j 0 : Int) : Rat))) U j _ _ (by rw [(hU 1 (by omega)).1]; exact hj) i1 u1
  have i2 := jaq (n := (U 2).getD j 0) (by have := (hU 2 (by omega)).2 j; omega)
  have u2 := zmul (fq_wq fr O 2 2) (jaJ (n := 5) (z := (U 2).getD j 0) (by have := (hU 2 (by omega)).2 j; omega) (by omega)) (by decide) (by decide) (by decide)
  have m2 := prod3_2 (fun k => txq (wqN rq O 2 k)) (fun k => txq (wqN rq O 2 k * (((U k).getD j 0 : Int) : Rat))) U j _ _ (by rw [(hU 2 (by omega)).1]; exact hj) i2 u2
  have li := list3_3 (fun k => txq (wqN rq O 2 k * (((U k).getD j 0 : Int) : Rat))) m0 m1 m2
  have s0 : Fq 92 (smF (fun k => wqN rq O 2 k * (((U k).getD j 0 : Int) : Rat)) 0) := fm 0 (by omega)
  have s1 : Fq 185 (smF (fun k => wqN rq O 2 k * (((U k).getD j 0 : Int) : Rat)) 1) := s0.add (fm 1 (by omega))
  have s2 : Fq 278 (smF (fun k => wqN rq O 2 k * (((U k).getD j 0 : Int) : Rat)) 2) := s1.add (fm 2 (by omega))
  have su := sum3 (fun k => txq (wqN rq O 2 k * (((U k).getD j 0 : Int) : Rat))) (fun k => txq (smF (fun k => wqN rq O 2 k * (((U k).getD j 0 : Int) : Rat)) k)) rfl (zadd s0 (fm 1 (by omega)) (by decide) (by decide) (by decide)) (zadd s1 (fm 2 (by omega)) (by decide) (by decide) (by decide))
  have dv := zdiv s2 (jaJ (n := 5) (z := 65535) jaN (by decide)) jbS (by decide) (by decide) (by decide)
  rw [show ((65535 : Int) : Rat) = 65535 from rfl] at fu dv
  exact val1_3 (fun k => txq (wqN rq O 2 k)) (fun k => txq (wqN rq O 2 k * (((U k).getD j 0 : Int) : Rat))) (fun k => txq (smF (fun k => wqN rq O 2 k * (((U k).getD j 0 : Int) : Rat)) k)) U j _ _ _ _ li su fu dv
 refine value2_t z0 z1 b0 b1 out data O (fun k => txq (wqN rq O 2 k)) U _ _ hl hx hi pt ?_
 have h4 : out = 1 ∨ out = 2 ∨ out = 3 ∨ out = 4 := by omega
 rcases h4 with e | e | e | e <;> subst e
 ·exact jhp (z := 0) (fun j => txq (smF (fun k => wqN rq O 2 k * (((U k).getD j 0 : Int) : Rat)) 2 / 65535)) (v1 0 (by decide))
 ·exact jho (z := 0) (fun j => txq (smF (fun k => wqN rq O 2 k * (((U k).getD j 0 : Int) : Rat)) 2 / 65535)) (v1 0 (by decide)) (v1 1 (by decide))
 ·exact jhn (z := 0) (fun j => txq (smF (fun k => wqN rq O 2 k * (((U k).getD j 0 : Int) : Rat)) 2 / 65535)) (v1 0 (by decide)) (v1 1 (by decide)) (v1 2 (by decide))
 ·exact jhm (z := 0) (fun j => txq (smF (fun k => wqN rq O 2 k * (((U k).getD j 0 : Int) : Rat)) 2 / 65535)) (v1 0 (by decide)) (v1 1 (by decide)) (v1 2 (by decide)) (v1 3 (by decide))
theorem valU3 (z0 z1 z2 b0 b1 b2 out : Int) (data O : List Int) (rq : Nat → Rat) (fr : ∀ k, Fq 43 (rq k)) (U : Nat → List Int) (ho : 1 ≤ out ∧ out ≤ 4) (hU : ∀ k, k < 4 → (U k).length = out.toNat ∧ ∀ j, 0 ≤ (U k).getD j 0 ∧ (U k).getD j 0 ≤ 65535) (hl : O.length = 3) (hx : ∀ k, k < 3 → 0 ≤ O.getD k 0 ∧ O.getD k 0 < 4) (hi : ∀ k, k < 3 → InR .i64 ((atK [b0, b1, b2, 0] O k).getD (O.getD k 0).toNat 0 + 1))
  (pt : ∀ k, k < 4 → Called Tryz.prog 80 [.agg [.ints .i64 [z0, z1, z2], .int .i64 out, .ints .i64 data, .ints .i64 [b0, b1, b2], .ints .i64 O, slQ (fun k => txq (wqN rq O 3 k)) 4], .iarr .i64 (atK [b0, b1, b2, 0] O k)] (.tup [.ints .i64 (U k), .int .i64 0])) :
  Called Tryz.prog 45 [.agg [.ints .i64 [z0, z1, z2], .int .i64 out, .ints .i64 data, .ints .i64 [b0, b1, b2], .ints .i64 O, slQ (fun k => txq (wqN rq O 3 k)) 4]] (.tup [slQ (fun j => txq (smF (fun k => wqN rq O 3 k * (((U k).getD j 0 : Int) : Rat)) 3 / 65535)) out.toNat, .int .i64 0]) := by
 have v1 : ∀ j : Nat, j < out.toNat → Called Tryz.prog 83 [.int .i64 (j : Int), .ref [.slf 1 4 (fun j => List.take 1 (List.drop (j * 1) [.ints .i64 (U 0), .ints .i64 (U 1), .ints .i64 (U 2), .ints .i64 (U 3)]))], .ref [slQ (fun k => txq (wqN rq O 3 k)) 4]] (.tup [frT (smF (fun k => wqN rq O 3 k * (((U k).getD j 0 : Int) : Rat)) 3 / 65535), .int .i64 0]) := by
  intro j hj
  have fu := jaq (n := 65535) (by omega)
  have fm : ∀ k, k < 4 → Fq 92 (wqN rq O 3 k * (((U k).getD j 0 : Int) : Rat)) := fun k hk => (fq_wq fr O 3 k).mul (jaJ (n := 5) (by have := (hU k hk).2 j; omega) (by omega))
  have i0 := jaq (n := (U 0).getD j 0) (by have := (hU 0 (by omega)).2 j; omega)
  have u0 := zmul (fq_wq fr O 3 0) (jaJ (n := 5) (z := (U 0).getD j 0) (by have := (hU 0 (by omega)).2 j; omega) (by omega)) (by decide) (by decide) (by decide)
  have m0 := prod4_0 (fun k => txq (wqN rq O 3 k)) (fun k => txq (wqN rq O 3 k * (((U k).getD j 0 : Int) : Rat))) U j _ _ (by rw [(hU 0 (by omega)).1]; exact hj) i0 u0
  have i1 := jaq (n := (U 1).getD j 0) (by have := (hU 1 (by omega)).2 j; omega)
  have u1 := zmul (fq_wq fr O 3 1) (jaJ (n := 5) (z := (U 1).getD j 0) (by have := (hU 1 (by omega)).2 j; omega) (by omega)) (by decide) (by decide) (by decide)
  have m1 := prod4_1 (fun k => txq (wqN rq O 3 k)) (fun k => txq (wqN rq O 3 k * (((U k).getD j 0 : Int) : Rat))) U j _ _ (by rw [(hU 1 (by omega)).1]; exact hj) i1 u1
  have i2 := jaq (n := (U 2).getD j 0) (by have := (hU 2 (by omega)).2 j; omega)
  have u2 := zmul (fq_wq fr O 3 2) (jaJ (n := 5) (z := (U 2).getD j 0) (by have := (hU 2 (by omega)).2 j; omega) (by omega)) (by decide) (by decide) (by decide)
  have m2 := prod4_2 (fun k => txq (wqN rq O 3 k)) (fun k => txq (wqN rq O 3 k * (((U k).getD j 0 : Int) : Rat))) U j _ _ (by rw [(hU 2 (by omega)).1]; exact hj) i2 u2
  have i3 := jaq (n := (U 3).getD j 0) (by have := (hU 3 (by omega)).2 j; omega)
  have u3 := zmul (fq_wq fr O 3 3) (jaJ (n := 5) (z := (U 3).getD j 0) (by have := (hU 3 (by omega)).2 j; omega) (by omega)) (by decide) (by decide) (by decide)
  have m3 := prod4_3 (fun k => txq (wqN rq O 3 k)) (fun k => txq (wqN rq O 3 k * (((U k).getD j 0 : Int) : Rat))) U j _ _ (by rw [(hU 3 (by omega)).1]; exact hj) i3 u3
  have li := list4_3 (fun k => txq (wqN rq O 3 k * (((U k).getD j 0 : Int) : Rat))) m0 m1 m2 m3
  have s0 : Fq 92 (smF (fun k => wqN rq O 3 k * (((U k).getD j 0 : Int) : Rat)) 0) := fm 0 (by omega)
  have s1 : Fq 185 (smF (fun k => wqN rq O 3 k * (((U k).getD j 0 : Int) : Rat)) 1) := s0.add (fm 1 (by omega))
  have s2 : Fq 278 (smF (fun k => wqN rq O 3 k * (((U k).getD j 0 : Int) : Rat)) 2) := s1.add (fm 2 (by omega))
  have s3 : Fq 371 (smF (fun k => wqN rq O 3 k * (((U k).getD j 0 : Int) : Rat)) 3) := s2.add (fm 3 (by omega))
  have su := sum4 (fun k => txq (wqN rq O 3 k * (((U k).getD j 0 : Int) : Rat))) (fun k => txq (smF (fun k => wqN rq O 3 k * (((U k).getD j 0 : Int) : Rat)) k)) rfl (zadd s0 (fm 1 (by omega)) (by decide) (by decide) (by decide)) (zadd s1 (fm 2 (by omega)) (by decide) (by decide) (by decide)) (zadd s2 (fm 3 (by omega)) (by decide) (by decide) (by decide))
  have dv := zdiv s3 (jaJ (n := 5) (z := 65535) jaN (by decide)) jbS (by decide) (by decide) (by decide)
  rw [show ((65535 : Int) : Rat) = 65535 from rfl] at fu dv
  exact val1_4 (fun k => txq (wqN rq O 3 k)) (fun k => txq (wqN rq O 3 k * (((U k).getD j 0 : Int) : Rat))) (fun k => txq (smF (fun k => wqN rq O 3 k * (((U k).getD j 0 : Int) : Rat)) k)) U j _ _ _ _ li su fu dv
 refine value3_t z0 z1 z2 b0 b1 b2 out data O (fun k => txq (wqN rq O 3 k)) U _ _ hl hx hi pt ?_
 have h4 : out = 1 ∨ out = 2 ∨ out = 3 ∨ out = 4 := by omega
 rcases h4 with e | e | e | e <;> subst e
 ·exact jhp (z := 0) (fun j => txq (smF (fun k => wqN rq O 3 k * (((U k).getD j 0 : Int) : Rat)) 3 / 65535)) (v1 0 (by decide))
 ·exact jho (z := 0) (fun j => txq (smF (fun k => wqN rq O 3 k * (((U k).getD j 0 : Int) : Rat)) 3 / 65535)) (v1 0 (by decide)) (v1 1 (by decide))
 ·exact jhn (z := 0) (fun j => txq (smF (fun k => wqN rq O 3 k * (((U k).getD j 0 : Int) : Rat)) 3 / 65535)) (v1 0 (by decide)) (v1 1 (by decide)) (v1 2 (by decide))
 ·exact jhm (z := 0) (fun j => txq (smF (fun k => wqN rq O 3 k * (((U k).getD j 0 : Int) : Rat)) 3 / 65535)) (v1 0 (by decide)) (v1 1 (by decide)) (v1 2 (by decide)) (v1 3 (by decide))
end Go.Proofs.YtgjgpdceghjajaaGreatDoor
end
