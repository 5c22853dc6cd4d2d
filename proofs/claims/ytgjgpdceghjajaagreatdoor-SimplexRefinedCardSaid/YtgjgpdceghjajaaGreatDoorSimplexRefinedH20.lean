/- What functions of the program answer at given values, part 20. Conditions: those that each theorem names. -/
import Derived.Test.YtgjgpdceghjajaaGreatDoorSimplexRefinedH15
import Derived.Test.YtgjgpdceghjajaaGreatDoorSimplexRefinedH18
import Derived.Test.YtgjgpdceghjajaaGreatDoorSimplexRefinedH17
import Derived.Test.YtgjgpdceghjajaaGreatDoorSimplexRefinedH19
import Derived.Shelf.Strconv.ParseIntPublic10
import Derived.Test.YtgjgpdceghjajaaGreatDoorSimplexRefinedH13
set_option linter.unusedSimpArgs false
set_option linter.unusedVariables false
set_option maxHeartbeats 8000000
set_option maxRecDepth 100000
section
namespace Go.Proofs.YtgjgpdceghjajaaGreatDoor
open Go Go.V Go.Nb Go.RowKit Go.Proofs
set_option maxHeartbeats 4000000
set_option maxRecDepth 1000000
theorem zero_k (n : Nat) (w : World) (hg : GlW w) (v : Value) (hv : Den Env.dummy (pubOf w) (.ints .u32 (mg 1000000000 n)) v) : Calls Tryz.prog 132 #[v] w fun e w' => e = .returned (.bool (decide (n = 0))) ∧ RowKit.Below w.heap.size w w' := by
 refine (jfd (jc9 n) w hg (vs := [v]) ?_).mono ?_
 ·simp only [DenL]; exact ⟨_, _, rfl, hv, rfl⟩
 ·rintro e w' ⟨v, h', rfl, hv, hb⟩
  simp only [Den] at hv
  rw [hv]
  exact ⟨rfl, hb⟩
def cv : Nat → Int
 | 0 => -1
 | k + 1 => k
theorem cv_eq (m : Nat) : cv m = (m : Int) - 1 := by cases m <;> simp [cv]
theorem digits_w (n : Nat) (hn : 0 < n) (hl : (mg 1000000000 n).length ≤ 100000000) (w : World) (hg : GlW w) (hlt : GlLt w.heap.size) (v : Value) (hv : Den Env.dummy (pubOf w) (.ints .u32 (mg 1000000000 n)) v) :
  Calls Tryz.prog 155 #[v] w fun e w' => e = .returned (.string ⟨(dec n).toArray⟩) ∧ RowKit.Below w.heap.size w w' := by
 have hz := zero_k n w hg v hv
 have hdx := mg_dg (B := 1000000000) (by omega) n
 have hvx := jaC (B := 1000000000) (by omega) n
 have hlx := jdP (B := 1000000000) (n := n) (by omega)
 have hnil := jb8 (B := 1000000000) (n := n) (by omega)
 generalize mg 1000000000 n = xs at *
 simp only [Den, jaK] at hv
 obtain ⟨a, cap, rfl, hcap, _, _, ha⟩ := hv
 obtain ⟨j, hj⟩ : ∃ j, xs.length = j + 1 := ⟨xs.length - 1, by
  have : xs ≠ [] := fun e => by have := hnil.1 e; omega
  have := List.length_pos_iff.2 this
  omega⟩
 obtain ⟨ad, rfl⟩ : ∃ ad, a = some ad := by
  cases a with
  | none => obtain ⟨h1, _⟩ := ha; rw [h1] at hj; simp at hj
  | some ad => exact ⟨ad, rfl⟩
 obtain ⟨blk, off, spot⟩ := ad
 simp only at ha
 obtain ⟨rfl, hcell⟩ := ha
 have hne : decide (n = 0) = false := decide_eq_false (by omega)
 rw [hne] at hz
 have hc0 : ∀ i, i < xs.length → w.cell? ⟨blk, off + i, none⟩ = some (.int .u32 (xs.getD i 0)) := fun i hi => by
  have := hcell i (xs.getD i 0) (by rw [jiJ, jiM hi]; rfl)
  exact this
 have hblk : blk < w.heap.size := by
  have := hc0 0 (by omega)
  rcases jip blk w.heap.size with h | h
  ·exact h
  ·simp [World.cell?, Array.getElem?_eq_none h] at this
 clear hcell
 rw [hj] at hz ⊢
 go_enter Tryz.func155, Tryz.ntmps155
 go_wp2_with (go_at_call 132; refine hz.mono ?_)
 rintro e w1 ⟨rfl, hb1⟩
 have hs1 := hb1.size
 have hc1 : (w1.alloc (.cells #[.pointer none, .slice none 0 0] 259)).cell? ⟨blk, off + j, none⟩ = some (.int .u32 (xs.getD j 0)) := by
  have h1 := hb1.alloc (o := .cells #[.pointer none, .slice none 0 0] 259) (by omega)
  rw [h1.cell (by exact hblk)]
  exact hc0 j (by omega)
 have hI0 := Lib.IsBuilderF.of (Lib.fresh_isBuilder 259 5 w1)
 have hgl1 : GlW (w1.alloc (.cells #[.pointer none, .slice none 0 0] 259)) := jgJ hg (hb1.alloc (by omega) _) hlt
 have hlt1 : GlLt w1.heap.size := ⟨fun g vs h => by have := hlt.1 g vs h; omega, fun g h => by have := hlt.2 g h; omega⟩
 have bx := jam (by omega) hdx j
 have hx1 : xs.getD j 0 ≠ 0 := by
  refine hlx _ ?_
  rw [List.getLast?_eq_getElem?, hj, jiJ, show j + 1 - 1 = j by omega, jiM (by omega)]; rfl
 have hvj : val 1000000000 (xs.drop j) = xs.getD j 0 := by rw [ja1, show xs.drop (j + 1) = [] from List.drop_eq_nil_of_le (by omega)]; simp [val]
 obtain ⟨g, hgx⟩ : ∃ g : Nat, xs.getD j 0 = g := ⟨(xs.getD j 0).toNat, by omega⟩
 rw [hgx] at bx hx1 hvj hc1
 have hput := put_k w1.heap.size w1.heap.size [] g 0 (w1.alloc (.cells #[.pointer none, .slice none 0 0] 259)) hgl1 hlt1 (by simp) hI0 (by omega) (by omega) (by simp)
 have e0 : List.replicate ((0 : Int).toNat - (dec g).length) (48 : UInt8) = [] := by simp
 rw [e0, List.append_nil, List.nil_append] at hput
 clear hz hI0
 go_wp2_with (go_at_call 186; refine hput.mono ?_)
 rintro e w2 ⟨rfl, hI2, hb2⟩
 have hbw2 : RowKit.Below w.heap.size w w2 := (hb1.alloc (by omega) _).trans (hb2.mono hs1)
 have hs2 : w1.heap.size + 1 ≤ w2.heap.size := by have := hb2.size; simpa using this
 have hd0 : dec g = dec (val 1000000000 (xs.drop j)).toNat := by rw [hvj, jih]
 rw [hd0] at hI2
 clear hput hd0
 go_wp2
 go_loopw [6] (fun i wr => ∃ m : Nat, m ≤ j ∧ i = .int .i64 (cv m) ∧ Lib.IsBuilderF 259 5 w1.heap.size w1.heap.size (Lib.byteCells (dec (val 1000000000 (xs.drop m)).toNat)) wr ∧ RowKit.Below w1.heap.size w2 wr) (fun i _ => (intOf i + 1).toNat)
 case atStart => exact ⟨j, jii _, by rw [cv_eq], hI2, Below.refl _ _⟩
 case round =>
  obtain ⟨m, hm, rfl, hI, hbr⟩ := hrel
  have hsr := hbr.size
  have hbw : RowKit.Below w.heap.size w wr := hbw2.trans (hbr.mono hs1)
  rcases m with _ | m
  ·rw [ji3, hvx, jih] at hI
   simp only [cv]
   go_wp2_with (go_at_call 189; refine (Tryz.Builder_String_any_k w1.heap.size w1.heap.size (dec n) _ hI (by omega)).mono ?_)
   intros
   rename_i e W1 h2
   obtain ⟨rfl, _, b2, _⟩ := h2
   go_wp2
   go_ret
   exact ⟨rfl, hbw.trans (b2.mono hs1)⟩
  ·simp only [cv]
   have bm := jam (by omega) hdx m
   have hcm : wr.cell? ⟨blk, off + m, none⟩ = some (.int .u32 (xs.getD m 0)) := by
    rw [hbw.cell (by exact hblk)]; exact hc0 m (by omega)
   obtain ⟨y, hy⟩ : ∃ y : Nat, xs.getD m 0 = y := ⟨(xs.getD m 0).toNat, by omega⟩
   have hvm := jbM (B := 1000000000) (l := xs) (k := m) (by omega)
   have hv0 := jan (jbq hdx (m + 1))
   have hvp : 0 < val 1000000000 (xs.drop (m + 1)) := by
    have h1 := jbH 1000000000 (xs.drop (m + 1)) (j - (m + 1)) (by rw [ji7]; omega)
    rw [List.drop_drop, show m + 1 + (j - (m + 1)) = j by omega, hvj] at h1
    have h2 := jan (jbi (jbq hdx (m + 1)) (j - (m + 1)))
    have h3 : (0 : Int) < ((1000000000 : Nat) : Int) ^ (j - (m + 1)) * g := Int.mul_pos (jeh (by omega) _) (by omega)
    omega
   rw [hy] at bm hcm hvm
   obtain ⟨u, hu⟩ : ∃ u : Nat, val 1000000000 (xs.drop (m + 1)) = u := ⟨(val 1000000000 (xs.drop (m + 1))).toNat, by omega⟩
   rw [hu, jih] at hI
   have hdp := jhG (a := u) (by omega) 9 y (by omega)
   have hpd := jbn 9 y (by omega) (by omega)
   have hnew : (val 1000000000 (xs.drop m)).toNat = u * 10 ^ 9 + y := by rw [hvm, hu]; omega
   rw [hpd.2, ← hnew, ← jiR] at hdp
   have hdlen : (dec u).length ≤ 1000000000000 := by
    have h1 : u < 10 ^ (9 * (j + 1)) := by
     have h2 := jb2 (jbq hdx (m + 1))
     rw [hu, ji7, hj] at h2
     have h3 : (1000000000 : Nat) ^ (j + 1 - (m + 1)) ≤ 1000000000 ^ (j + 1) := jiy (by omega) (by omega)
     rw [← jiC] at h2
     rw [Nat.pow_mul]
     have h4 : u < 1000000000 ^ (j + 1 - (m + 1)) := by exact_mod_cast h2
     exact jio h4 h3
    have := (jbn (9 * (j + 1)) u (by omega) h1).1
    omega
   have hput := put_k w1.heap.size w1.heap.size (dec u) y 9 wr (jgJ hg hbw hlt) hlt1 (by omega) hI (by omega) (by omega) hdlen
   rw [show (9 : Int).toNat = 9 from rfl, ← hdp] at hput
   clear hdp hpd hnew hdlen hu hvm hvp hv0
   go_wp2_with (go_at_call 186; refine hput.mono ?_)
   intros
   rename_i e W1 h2
   obtain ⟨rfl, hI3, b2⟩ := h2
   go_wp2
   go_roundw
   case rel => exact ⟨m, by omega, by (have h := cv_eq m; show Value.int .i64 ((m : Int) - 1) = Value.int .i64 (cv m); rw [h]), hI3, hbr.trans b2⟩
   case measure => simp [intOf]
theorem jhC : Called Tryz.prog 155 [.ints .u32 (mg 1000000000 0)] (.str (dec 0)) := by
 have hz := jc9 0
 refine V.en tbOk Tryz.func155 ?_
 (conv => whnf)
 refine V.st ?_
 repeat ((try ((with_reducible refine .ext ?_); (conv => whnf))); (with_reducible refine jaa (r := ?_) ?_ ?_); rotate_left; (focus (first | exact (hz))); (conv => whnf); refine V.st ?_)
 exact Fin.of rfl
theorem digits_c (n : Nat) (hl : (mg 1000000000 n).length ≤ 100000000) : Called Tryz.prog 155 [.ints .u32 (mg 1000000000 n)] (.str (dec n)) := by
 rcases jij n with h0 | h0
 ·subst h0; exact jhC
 refine jaV Tryz.func155 rfl rfl rfl fun w hp vs ha hd => ?_
 simp only [DenL] at hd
 obtain ⟨v, _, rfl, hv, rfl⟩ := hd
 have hle : hp.Le (pubOf w) := fun b o v h => ha.cells b o v h
 refine (digits_w n h0 hl w ha.blk (glLt ha.blk) v (Den.mono hle hv)).mono fun e w' ⟨he, hw⟩ => ⟨⟨_, he, fun hp => ?_⟩, hw⟩
 ·simp only [Den]
  refine ⟨trivial, ?_⟩
  have h2 := jaH (B := 1000000000) (n := n) (by omega)
  generalize (mg 1000000000 n).length = l at *
  have h1 : n < 10 ^ (9 * (l + 1)) := by
   rw [Nat.pow_mul]
   exact jio h2 (jiy (by omega) (by omega))
  have := (jbn (9 * (l + 1)) n (by omega) h1).1
  omega
end Go.Proofs.YtgjgpdceghjajaaGreatDoor
end
section
namespace Go.Proofs.YtgjgpdceghjajaaGreatDoor
open Go Go.V Go.Nb
def raD (q : Rat) : D := .agg [.bool (decide (q.num < 0)), .ints .i64 (mg 10000 q.num.natAbs), .bool false, .ints .i64 (mg 10000 q.den)]
theorem jhk (n d : Int) (hd : d ≠ 0) : (if d < 0 then -n else n) / ((Int.gcd (if d < 0 then -n else n) (if d < 0 then -d else d) : Nat) : Int) = (Rat.divInt n d).num := by
 rw [Rat.num_divInt]
 split
 ·rw [Int.neg_gcd, Int.gcd_neg, Int.gcd_comm, jiF (by omega), Int.neg_mul, jiE]
 ·rw [Int.gcd_comm, jiG (by omega), jiE]
theorem jhl (n d : Int) (hd : d ≠ 0) : (if d < 0 then -d else d) / ((Int.gcd (if d < 0 then -n else n) (if d < 0 then -d else d) : Nat) : Int) = ((Rat.divInt n d).den : Int) := by
 rw [Rat.den_divInt, if_neg hd]
 split
 ·rw [Int.neg_gcd, Int.gcd_neg, Int.gcd_comm, Int.natCast_ediv]; congr 1; omega
 ·rw [Int.gcd_comm, Int.natCast_ediv]; congr 1; omega
theorem jbs (n : Int) (g : Nat) : (n / (g : Int)).natAbs ≤ n.natAbs := by
 rcases Int.le_total 0 n with h | h
 ·have h1 := Int.ediv_nonneg h (by omega : (0 : Int) ≤ g)
  have h2 := Int.ediv_le_self (a := n) (g : Int) h
  omega
 ·rcases jij g with e | e
  ·subst e; simp
  ·have h1 : n / (g : Int) ≤ 0 := by
    have := Int.ediv_le_ediv (by omega : (0 : Int) < g) h
    simpa using this
   have h2 : n ≤ n / (g : Int) := Int.le_ediv_of_mul_le (by omega) (by
    have := Int.mul_le_mul_of_nonpos_left h (by omega : (1 : Int) ≤ g)
    omega)
   omega
theorem lowest_c (n d : Int) (hn : Sm 80000000 n) (hd : Sm 80000000 d) (hd0 : d ≠ 0) : Called Tryz.prog 77 [plD n, plD d] (raD (Rat.divInt n d)) := by
 have e1 := jhk n d hd0
 have e2 := jhl n d hd0
 refine V.en tbOk Tryz.func77 ?_
 (conv => whnf)
 refine V.st ?_
 refine V.br (fun hq => ?_) (fun hq => ?_)
 ·rw [decide_eq_true_eq] at hq
  simp only [if_pos hq] at e1 e2
  have hN := hn.neg
  have hD := hd.neg
  have ht1 := turn_c n (by unfold Sm at hn; omega)
  have ht2 := turn_c d (by unfold Sm at hd; omega)
  (conv => whnf)
  refine V.st ?_
  refine ⟨(V.tk [0,2] (V.e1 1 [2] (V.e1 3 [] (V.e1 4 [] (V.e1 5 [] .done))))), [], V.pok, .go (jad ?_)⟩
  (conv => whnf)
  refine V.st ?_
  repeat ((try ((with_reducible refine .ext ?_); (conv => whnf))); (with_reducible refine jaa (r := ?_) ?_ ?_); rotate_left; (focus (first | exact (ht1) | exact (ht2))); (conv => whnf); refine V.st ?_)
  have hgp : 0 < Int.gcd (-n) (-d) := Int.gcd_pos_of_ne_zero_right _ (by omega)
  have hdv := je4 (-n) (-d) hN hD
  have hgD : Sm 80000000 ((Int.gcd (-n) (-d) : Nat) : Int) := hD.le (by rw [jix]; exact Nat.le_of_dvd (by omega) (Nat.gcd_dvd_right ((-n)).natAbs ((-d)).natAbs))
  have hp1 := jei (-n) ((Int.gcd (-n) (-d) : Nat) : Int) hN hgD (by omega)
  have hp2 := jei (-d) ((Int.gcd (-n) (-d) : Nat) : Int) hD hgD (by omega)
  rw [e1] at hp1
  rw [e2] at hp2
  (conv => whnf)
  refine V.st ?_
  repeat ((try ((with_reducible refine .ext ?_); (conv => whnf))); (with_reducible refine jaa (r := ?_) ?_ ?_); rotate_left; (focus (first | exact (hdv) | exact (hp1) | exact (hp2))); (conv => whnf); refine V.st ?_)
  exact Fin.of (by unfold raD; rw [jix, decide_eq_false (p := ((Rat.divInt n d).den : Int) < 0) (by omega)])
 ·rw [decide_eq_false_iff_not] at hq
  simp only [if_neg hq] at e1 e2
  have hN := hn
  have hD := hd
  have hgp : 0 < Int.gcd n d := Int.gcd_pos_of_ne_zero_right _ (by omega)
  have hdv := je4 n d hN hD
  have hgD : Sm 80000000 ((Int.gcd n d : Nat) : Int) := hD.le (by rw [jix]; exact Nat.le_of_dvd (by omega) (Nat.gcd_dvd_right (n).natAbs (d).natAbs))
  have hp1 := jei n ((Int.gcd n d : Nat) : Int) hN hgD (by omega)
  have hp2 := jei d ((Int.gcd n d : Nat) : Int) hD hgD (by omega)
  rw [e1] at hp1
  rw [e2] at hp2
  (conv => whnf)
  refine V.st ?_
  repeat ((try ((with_reducible refine .ext ?_); (conv => whnf))); (with_reducible refine jaa (r := ?_) ?_ ?_); rotate_left; (focus (first | exact (hdv) | exact (hp1) | exact (hp2))); (conv => whnf); refine V.st ?_)
  exact Fin.of (by unfold raD; rw [jix, decide_eq_false (p := ((Rat.divInt n d).den : Int) < 0) (by omega)])
theorem quick_c (n d : Int) (hn : InR .i64 n) (hd : InR .i64 d) (hd0 : d ≠ 0) : Called Tryz.prog 89 [.int .i64 n, .int .i64 d] (raD (Rat.divInt n d)) := by
 have h1 := jeQ n hn
 have h2 := jeQ d hd
 simp only [V.InR, V.lo, V.hi] at hn hd
 have h3 := lowest_c n d ((Sm.lit (k := 5) (by omega)).mono (by omega)) ((Sm.lit (k := 5) (by omega)).mono (by omega)) hd0
 refine V.en tbOk Tryz.func89 ?_
 (conv => whnf)
 refine V.st ?_
 repeat ((try ((with_reducible refine .ext ?_); (conv => whnf))); (with_reducible refine jaa (r := ?_) ?_ ?_); rotate_left; (focus (first | exact (h1) | exact (h2) | exact (h3))); (conv => whnf); refine V.st ?_)
 exact Fin.of rfl
def okF (q : Rat) : Bool := decide ((dec q.num.natAbs).length ≤ 600) && decide ((dec q.den).length ≤ 600)
def frR (q : Rat) : D := .tup [.agg [.str (cond (okF q) (decZ q.num) []), .str (cond (okF q) (dec q.den) [])], .int .i64 (cond (okF q) 0 6)]
theorem outN_c (n : Nat) (hz : Sm 90000000 n) : Called Tryz.prog 120 [.agg [.bool false, .ints .i64 (mg 10000 n)]] (.tup [.str (if 600 < (dec n).length then [] else dec n), .int .i64 (if 600 < (dec n).length then 6 else 0)]) := by
 have h := out_c n hz
 unfold plD decZ at h
 rw [jix, decide_eq_false (p := (n : Int) < 0) (by omega), if_neg (c := (n : Int) < 0) (by omega)] at h
 exact h
theorem out02_c (q : Rat) (hn : Sm 90000000 q.num) (hd : Sm 90000000 (q.den : Int)) : Called Tryz.prog 76 [raD q] (frR q) := by
 have h1 := out_c q.num hn
 have h2 := outN_c q.den hd
 unfold frR okF
 by_cases g1 : 600 < (dec q.num.natAbs).length <;> by_cases g2 : 600 < (dec q.den).length
 all_goals
  simp only [g1, g2, if_true, if_false] at h1 h2
  simp only [← Nat.not_lt, g1, g2, not_true_eq_false, not_false_eq_true, decide_true, decide_false, Bool.and_self, Bool.and_false, Bool.false_and, Bool.and_true, cond_true, cond_false]
  refine V.en tbOk Tryz.func76 ?_
  (conv => whnf)
  refine V.st ?_
  repeat ((try ((with_reducible refine .ext ?_); (conv => whnf))); (with_reducible refine jaa (r := ?_) ?_ ?_); rotate_left; (focus (first | exact (h1) | exact (h2))); (conv => whnf); refine V.st ?_)
  exact Fin.of rfl
theorem of02_c (n d : Int) (hn : InR .i64 n) (hd : InR .i64 d) (hd0 : d ≠ 0) : Called Tryz.prog 46 [.int .i64 n, .int .i64 d] (frR (Rat.divInt n d)) := by
 have h1 := quick_c n d hn hd hd0
 simp only [V.InR, V.lo, V.hi] at hn hd
 have hnum : Sm 90000000 (Rat.divInt n d).num := by
  have e1 := jhk n d hd0
  have h := jbs (if d < 0 then -n else n) (Int.gcd (if d < 0 then -n else n) (if d < 0 then -d else d))
  rw [e1] at h
  exact (Sm.lit (k := 5) (by split at h <;> omega)).mono (by omega)
 have hden : Sm 90000000 ((Rat.divInt n d).den : Int) := by
  have e1 := jhl n d hd0
  have h := jbs (if d < 0 then -d else d) (Int.gcd (if d < 0 then -n else n) (if d < 0 then -d else d))
  rw [e1] at h
  exact (Sm.lit (k := 5) (by split at h <;> omega)).mono (by omega)
 have h2 := out02_c _ hnum hden
 refine V.en tbOk Tryz.func46 ?_
 (conv => whnf)
 refine V.st ?_
 refine Cnd.no (decide_eq_false hd0) ?_
 (conv => whnf)
 refine V.st ?_
 repeat ((try ((with_reducible refine .ext ?_); (conv => whnf))); (with_reducible refine jaa (r := ?_) ?_ ?_); rotate_left; (focus (first | exact (h1) | exact (h2))); (conv => whnf); refine V.st ?_)
 exact Fin.of rfl
theorem gcd_c (a b : Nat) (ha : (mg 1000000000 a).length ≤ 90000000) (hb : (mg 1000000000 b).length ≤ 90000000) : Called Tryz.prog 147 [.ints .u32 (mg 1000000000 a), .ints .u32 (mg 1000000000 b)] (.ints .u32 (mg 1000000000 (Nat.gcd a b))) := by
 obtain ⟨g, hg⟩ : ∃ g, g = Nat.gcd a b := ⟨_, rfl⟩
 rw [← hg]
 refine V.en tbOk Tryz.func147 ?_
 (conv => whnf)
 refine V.st ?_
 refine jac ((a, b) : Nat × Nat) (fun s => Nat.gcd s.1 s.2 = g ∧ (mg 1000000000 s.1).length ≤ 90000000 ∧ (mg 1000000000 s.2).length ≤ 90000000) (fun s => s.2)
  (fun s => [(0, .ints .u32 (mg 1000000000 s.1)), (1, .ints .u32 (mg 1000000000 s.2))]) (fun _ => []) ?_ ?_ ?_
 ·exact V.wk
 ·exact ⟨hg.symm, ha, hb⟩
 rintro ⟨x, y⟩ ⟨h1, h2, h3⟩
 dsimp only at h1 h2 h3 ⊢
 have hz := jc9 y
 (conv => whnf)
 refine V.st ?_
 repeat ((try ((with_reducible refine .ext ?_); (conv => whnf))); (with_reducible refine jaa (r := ?_) ?_ ?_); rotate_left; (focus (first | exact (hz))); (conv => whnf); refine V.st ?_)
 refine V.br (fun hq => ?_) (fun hq => ?_)
 ·have hy : ¬ y = 0 := by simpa using hq
  (conv => whnf)
  refine V.st ?_
  refine V.br (fun hq2 => ?_) (fun hq2 => ?_)
  ·rw [jh9, decide_eq_true_eq, decide_eq_true_eq] at hq2
   have hx18 : x < 1000000000000000000 := by
    have := jaH (B := 1000000000) (n := x) (by omega)
    have h5 : 1000000000 ^ (mg 1000000000 x).length ≤ 1000000000 ^ 2 := jiy (by omega) (by omega)
    omega
   have hy18 : y < 1000000000000000000 := by
    have := jaH (B := 1000000000) (n := y) (by omega)
    have h5 : 1000000000 ^ (mg 1000000000 y).length ≤ 1000000000 ^ 2 := jiy (by omega) (by omega)
    omega
   have hs1 := small_c x hx18
   have hs2 := small_c y hy18
   (conv => whnf)
   refine V.st ?_
   repeat ((try ((with_reducible refine .ext ?_); (conv => whnf))); (with_reducible refine jaa (r := ?_) ?_ ?_); rotate_left; (focus (first | exact (hs1) | exact (hs2))); (conv => whnf); refine V.st ?_)
   refine jac ((x, y) : Nat × Nat) (fun s => Nat.gcd s.1 s.2 = g ∧ s.1 < 1000000000000000000 ∧ s.2 < 1000000000000000000) (fun s => s.2) (fun s => [(5, .int .u64 s.1), (6, .int .u64 s.2)]) (fun _ => []) ?_ ?_ ?_
   ·exact V.wk
   ·exact ⟨h1, hx18, hy18⟩
   rintro ⟨p, q⟩ ⟨i1, i2, i3⟩
   dsimp only at i1 i2 i3 ⊢
   (conv => whnf)
   refine V.st ?_
   refine V.br (fun hq3 => ?_) (fun hq3 => ?_)
   ·rw [decide_eq_true_eq] at hq3
    have hqp : 0 < q := by omega
    have em : (p : Int) % (q : Int) = ((p % q : Nat) : Int) := by rw [Int.natCast_emod]
    have hlt := jik p hqp
    refine V.r0 em ?_
    refine ⟨(V.tk [0,1,2,3] (V.e1 4 [3,2] (V.e1 5 [] .done))), [], V.pok, .go (jad ?_)⟩
    refine V.r0 em ?_
    exact ⟨(q, p % q), ⟨by dsimp only; rw [Nat.gcd_comm, ← Nat.gcd_rec, Nat.gcd_comm]; exact i1, i3, by dsimp only; omega⟩, hlt, V.wk⟩
   ·rw [decide_eq_false_iff_not] at hq3
    obtain rfl : q = 0 := by omega
    rw [Nat.gcd_zero_right] at i1
    have hf := jc6 p (by omega)
    (conv => whnf)
    refine V.st ?_
    repeat ((try ((with_reducible refine .ext ?_); (conv => whnf))); (with_reducible refine jaa (r := ?_) ?_ ?_); rotate_left; (focus (first | exact (hf))); (conv => whnf); refine V.st ?_)
    exact Fin.of (by rw [i1])
  ·have hd := ja6 x y (by omega) h2 h3
   have hlt := jik x (by omega : y > 0)
   have hr := jaf (B := 1000000000) (by omega) (Nat.le_of_lt hlt)
   (conv => whnf)
   refine V.st ?_
   repeat ((try ((with_reducible refine .ext ?_); (conv => whnf))); (with_reducible refine jaa (r := ?_) ?_ ?_); rotate_left; (focus (first | exact (hd))); (conv => whnf); refine V.st ?_)
   exact ⟨(y, x % y), ⟨by dsimp only; rw [Nat.gcd_comm, ← Nat.gcd_rec, Nat.gcd_comm]; exact h1, h3, by dsimp only; omega⟩, hlt, V.wk⟩
 ·have hy : y = 0 := by simpa using hq
  subst hy
  rw [Nat.gcd_zero_right] at h1
  (conv => whnf)
  refine V.st ?_
  exact Fin.of (by rw [h1])
theorem jhv (z : Int) (hz : (mg 1000000000 z.natAbs).length ≤ 90000000) : Called Tryz.prog 115 [itD z] (.str (decZ z)) := by
 have hd := digits_c z.natAbs (by omega)
 have hl : (dec z.natAbs).length ≤ 1000000000000 := by
  have h2 := jaH (B := 1000000000) (n := z.natAbs) (by omega)
  generalize (mg 1000000000 z.natAbs).length = l at *
  have h1 : z.natAbs < 10 ^ (9 * (l + 1)) := by
   rw [Nat.pow_mul]
   exact jio h2 (jiy (by omega) (by omega))
  have := (jbn (9 * (l + 1)) z.natAbs (by omega) h1).1
  omega
 refine V.en tbOk Tryz.func115 ?_
 (conv => whnf)
 refine V.st ?_
 refine V.br (fun hq => ?_) (fun hq => ?_)
 ·rw [decide_eq_true_eq] at hq
  (conv => whnf)
  refine V.st ?_
  repeat ((try ((with_reducible refine .ext ?_); (conv => whnf))); (with_reducible refine jaa (r := ?_) ?_ ?_); rotate_left; (focus (first | exact (hd))); (conv => whnf); refine V.st ?_)
  exact Fin.of (by unfold decZ; rw [if_pos hq]; rfl)
 ·rw [decide_eq_false_iff_not] at hq
  (conv => whnf)
  refine V.st ?_
  repeat ((try ((with_reducible refine .ext ?_); (conv => whnf))); (with_reducible refine jaa (r := ?_) ?_ ?_); rotate_left; (focus (first | exact (hd))); (conv => whnf); refine V.st ?_)
  exact Fin.of (by unfold decZ; rw [if_neg hq])
def rtD (q : Rat) : D := .agg [.ints .u32 (mg 1000000000 q.num.natAbs), .bool (decide (q.num < 0)), .ints .u32 (mg 1000000000 q.den)]
theorem jdG (q : Rat) (hn : (mg 1000000000 q.num.natAbs).length ≤ 90000000) (hd : (mg 1000000000 q.den).length ≤ 90000000) : Called Tryz.prog 134 [rtD q] (frR q) := by
 have h1 := length_c q.num.natAbs (by omega)
 have h2 := length_c q.den (by omega)
 have h3 := jhv q.num hn
 have h4 := digits_c q.den (by omega)
 unfold frR okF
 refine V.en tbOk Tryz.func134 ?_
 (conv => whnf)
 refine V.st ?_
 repeat ((try ((with_reducible refine .ext ?_); (conv => whnf))); (with_reducible refine jaa (r := ?_) ?_ ?_); rotate_left; (focus (first | exact (h1) | exact (h2))); (conv => whnf); refine V.st ?_)
 refine V.br (fun hq => ?_) (fun hq => ?_)
 ·rw [Bool.or_eq_true, decide_eq_true_eq, decide_eq_true_eq] at hq
  have e : (decide ((dec q.num.natAbs).length ≤ 600) && decide ((dec q.den).length ≤ 600)) = false := by
   rw [Bool.and_eq_false_iff, decide_eq_false_iff_not, decide_eq_false_iff_not]; omega
  rw [e]
  (conv => whnf)
  refine V.st ?_
  exact Fin.of rfl
 ·rw [jir, decide_eq_false_iff_not, decide_eq_false_iff_not] at hq
  have e : (decide ((dec q.num.natAbs).length ≤ 600) && decide ((dec q.den).length ≤ 600)) = true := by
   rw [jh9, decide_eq_true_eq, decide_eq_true_eq]; omega
  rw [e]
  (conv => whnf)
  refine V.st ?_
  refine ⟨(V.tk [0,1,3,4] (V.e1 2 [4,3] (V.e1 5 [] (V.tk [6] (V.e1 7 [] (V.tk [8] .done)))))), [], V.pok, .go (jad ?_)⟩
  (conv => whnf)
  refine V.st ?_
  repeat ((try ((with_reducible refine .ext ?_); (conv => whnf))); (with_reducible refine jaa (r := ?_) ?_ ?_); rotate_left; (focus (first | exact (h3) | exact (h4))); (conv => whnf); refine V.st ?_)
  exact Fin.of rfl
theorem jcH (n : Int) (d : Nat) (hd : 0 < d) : (Rat.divInt n d).num.natAbs = n.natAbs / Nat.gcd n.natAbs d ∧ decide ((Rat.divInt n d).num < 0) = decide (n < 0) ∧ (Rat.divInt n d).den = d / Nat.gcd n.natAbs d := by
 have hg : Int.gcd (d : Int) n = Nat.gcd n.natAbs d := by
  rw [Int.gcd_comm]; rfl
 have hgp : 0 < Nat.gcd n.natAbs d := Nat.gcd_pos_of_pos_right _ hd
 have hdv : ((Nat.gcd n.natAbs d : Nat) : Int) ∣ n := Int.ofNat_dvd_left.2 (Nat.gcd_dvd_left _ _)
 rw [Rat.num_divInt, Rat.den_divInt, if_neg (by omega), jiG (by omega), jiE, hg, jix]
 generalize Nat.gcd n.natAbs d = g at *
 obtain ⟨k, rfl⟩ := hdv
 have e : (g : Int) * k / g = k := Int.mul_ediv_cancel_left _ (by omega)
 rw [e, Int.natAbs_mul, jix, Nat.mul_div_cancel_left _ hgp]
 refine ⟨rfl, ?_, rfl⟩
 apply decide_eq_decide.2
 constructor
 ·intro h; exact Int.mul_neg_of_pos_of_neg (by omega) h
 ·intro h
  rcases Int.lt_or_le k 0 with h2 | h2
  ·exact h2
  ·have := jie (a := (g : Int)) (by omega) h2; omega
theorem reduced_c (n : Int) (d : Nat) (hd0 : 0 < d) (hn : (mg 1000000000 n.natAbs).length ≤ 90000000) (hd : (mg 1000000000 d).length ≤ 90000000) : Called Tryz.prog 168 [itD n, .ints .u32 (mg 1000000000 d)] (rtD (Rat.divInt n d)) := by
 obtain ⟨p1, p2, p3⟩ := jcH n d hd0
 have hg := gcd_c n.natAbs d hn hd
 have hgp : 0 < Nat.gcd n.natAbs d := Nat.gcd_pos_of_pos_right _ hd0
 have hgl := jaf (B := 1000000000) (by omega) (Nat.le_of_dvd hd0 (Nat.gcd_dvd_right n.natAbs d))
 have h1 := ja6 n.natAbs (Nat.gcd n.natAbs d) hgp hn (by omega)
 have h2 := ja6 d (Nat.gcd n.natAbs d) hgp hd (by omega)
 have h3 := jaW (n.natAbs / Nat.gcd n.natAbs d) (decide (n < 0))
 have e : itD (if decide (n < 0) = true then -((n.natAbs / Nat.gcd n.natAbs d : Nat) : Int) else ((n.natAbs / Nat.gcd n.natAbs d : Nat) : Int)) = itD (Rat.divInt n d).num := by
  congr 1
  rw [← p1, ← p2]
  by_cases h : (Rat.divInt n d).num < 0
  ·rw [decide_eq_true h, if_pos rfl]; omega
  ·rw [decide_eq_false h, if_neg (by simp)]; omega
 rw [e] at h3
 refine V.en tbOk Tryz.func168 ?_
 (conv => whnf)
 refine V.st ?_
 repeat ((try ((with_reducible refine .ext ?_); (conv => whnf))); (with_reducible refine jaa (r := ?_) ?_ ?_); rotate_left; (focus (first | exact (hg) | exact (h1) | exact (h2) | exact (h3))); (conv => whnf); refine V.st ?_)
 exact Fin.of (by unfold rtD; rw [p3])
theorem wof_c (n : Int) (h : InR .i64 n) : Called Tryz.prog 136 [.int .i64 n] (.str (decZ n)) := by
 have hi := itoa_c n
 refine V.en tbOk Tryz.func136 ?_
 (conv => whnf)
 refine V.st ?_
 repeat ((try ((with_reducible refine .ext ?_); (conv => whnf))); (with_reducible refine jaa (r := ?_) ?_ ?_); rotate_left; (focus (first | exact (hi))); (conv => whnf); refine V.st ?_)
 exact Fin.of rfl
theorem jgN (n d : Int) (hd : d ≠ 0) : Rat.divInt (if (decide (n < 0) != decide (d < 0)) = true then -(n.natAbs : Int) else (n.natAbs : Int)) (d.natAbs : Nat) = Rat.divInt n d := by
 rw [Rat.divInt_eq_divInt_iff (by omega) hd]
 by_cases h1 : n < 0 <;> by_cases h2 : d < 0
 ·simp only [h1, h2, decide_true, bne_self_eq_false, Bool.false_eq_true, if_false]
  rw [show (n.natAbs : Int) = -n by omega, show (d.natAbs : Int) = -d by omega, Int.neg_mul, Int.mul_neg]
 ·have e : (decide (n < 0) != decide (d < 0)) = true := by simp [h1, h2]
  rw [if_pos e, show (n.natAbs : Int) = -n by omega, show (d.natAbs : Int) = d by omega, Int.neg_neg]
 ·have e : (decide (n < 0) != decide (d < 0)) = true := by simp [h1, h2]
  rw [if_pos e, show (n.natAbs : Int) = n by omega, show (d.natAbs : Int) = -d by omega, Int.neg_mul, Int.mul_neg]
 ·have e : ¬ (decide (n < 0) != decide (d < 0)) = true := by simp [h1, h2]
  rw [if_neg e, show (n.natAbs : Int) = n by omega, show (d.natAbs : Int) = d by omega]
theorem jbY {s : List UInt8} (h : okW s = true) : s.length ≤ 601 ∧ (wval s).natAbs < 10 ^ 600 := by
 unfold okW okD at h
 simp only [jh9, Bool.not_eq_true', jir, decide_eq_false_iff_not, jiI] at h
 obtain ⟨⟨h1, h2⟩, h3⟩ := h
 have h4 := jfs h2
 have h5 : ∀ k, (Go.Lib.trimPrefix s [45]).length ≤ k → 10 ^ (Go.Lib.trimPrefix s [45]).length ≤ 10 ^ k := fun k hk => jiy (by omega) hk
 constructor
 ·unfold Go.Lib.trimPrefix at h1
  split at h1
  ·rw [ji7] at h1; simp at h1; omega
  ·omega
 ·have : (wval s).natAbs = rdv (Go.Lib.trimPrefix s [45]) := by unfold wval; split <;> simp
  rw [this]
  exact jio h4 (h5 600 (by omega))
theorem len9 {n : Nat} (h : n < 10 ^ 600) : (mg 1000000000 n).length ≤ 67 := jav (by omega) (jio h (by
 have h1 : ∀ k, (1000000000 : Nat) ^ k = 10 ^ (9 * k) := fun k => by rw [Nat.pow_mul]
 have h2 : ∀ a b : Nat, a ≤ b → (10 : Nat) ^ a ≤ 10 ^ b := fun a b hab => jiy (by omega) hab
 obtain ⟨m, hm⟩ : ∃ m, m = 9 * 67 := ⟨_, rfl⟩
 rw [h1 67, ← hm]
 exact h2 600 m (by omega)))
theorem make_c (s t : List UInt8) (hs : okW s = true) (ht : okW t = true) (hz : wval t ≠ 0) : Called Tryz.prog 135 [.str s, .str t] (frR (Rat.divInt (wval s) (wval t))) := by
 obtain ⟨ls, vs⟩ := jbY hs
 obtain ⟨lt, vt⟩ := jbY ht
 have c1 := jcb s (by omega)
 have c2 := jcb t (by omega)
 rw [hs, if_pos rfl] at c1
 rw [ht, if_pos rfl] at c2
 have n1 := jcM s hs
 have n2 := jcM t ht
 generalize wval s = n at *
 generalize wval t = d at *
 have hz1 := jc9 d.natAbs
 have hs1 := jaW n.natAbs (decide (n < 0) != decide (d < 0))
 have hnl := len9 vs
 have hdl := len9 vt
 have e1 : (if (decide (n < 0) != decide (d < 0)) = true then -(n.natAbs : Int) else (n.natAbs : Int)).natAbs = n.natAbs := by split <;> omega
 have hr := reduced_c (if (decide (n < 0) != decide (d < 0)) = true then -(n.natAbs : Int) else (n.natAbs : Int)) d.natAbs (by omega) (by rw [e1]; omega) (by omega)
 obtain ⟨p1, p2, p3⟩ := jcH (if (decide (n < 0) != decide (d < 0)) = true then -(n.natAbs : Int) else (n.natAbs : Int)) d.natAbs (by omega)
 rw [jgN n d hz] at hr p1 p2 p3
 rw [e1] at p1 p3
 have hw := jdG (Rat.divInt n d) (by
  rw [p1]
  have := jaf (B := 1000000000) (by omega) (jiz n.natAbs (n.natAbs.gcd d.natAbs))
  omega) (by
  rw [p3]
  have := jaf (B := 1000000000) (by omega) (jiz d.natAbs (n.natAbs.gcd d.natAbs))
  omega)
 refine V.en tbOk Tryz.func135 ?_
 (conv => whnf)
 refine V.st ?_
 repeat ((try ((with_reducible refine .ext ?_); (conv => whnf))); (with_reducible refine jaa (r := ?_) ?_ ?_); rotate_left; (focus (first | exact (c1) | exact (c2) | exact (n1) | exact (n2) | exact (hz1))); (conv => whnf); refine V.st ?_)
 refine Cnd.no (decide_eq_false (by omega)) ?_
 (conv => whnf)
 refine V.st ?_
 refine ⟨(V.tk [0,1,2,3,4,5,6,8,9] (V.e1 7 [9,8] (V.e1 10 [] (V.e1 11 [] (V.tk [12,13] (V.e1 14 [] (V.tk [15] .done))))))), [], V.pok, .go (jad ?_)⟩
 (conv => whnf)
 refine V.st ?_
 repeat ((try ((with_reducible refine .ext ?_); (conv => whnf))); (with_reducible refine jaa (r := ?_) ?_ ?_); rotate_left; (focus (first | exact (hs1) | exact (hr) | exact (hw))); (conv => whnf); refine V.st ?_)
 exact Fin.of rfl
theorem of_c (n d : Int) (hn : InR .i64 n) (hd : InR .i64 d) (hd0 : d ≠ 0) : Called Tryz.prog 97 [.int .i64 n, .int .i64 d] (frR (Rat.divInt n d)) := by
 have h1 := wof_c n hn
 have h2 := wof_c d hd
 simp only [V.InR, V.lo, V.hi] at hn hd
 have o1 := jcj n (by have := je8 n.natAbs 19 (by omega) (by omega); omega)
 have o2 := jcj d (by have := je8 d.natAbs 19 (by omega) (by omega); omega)
 have h3 := make_c (decZ n) (decZ d) o1 o2 (by rw [jbt]; exact hd0)
 rw [jbt, jbt] at h3
 refine V.en tbOk Tryz.func97 ?_
 (conv => whnf)
 refine V.st ?_
 repeat ((try ((with_reducible refine .ext ?_); (conv => whnf))); (with_reducible refine jaa (r := ?_) ?_ ?_); rotate_left; (focus (first | exact (h1) | exact (h2) | exact (h3))); (conv => whnf); refine V.st ?_)
 exact Fin.of rfl
end Go.Proofs.YtgjgpdceghjajaaGreatDoor
end
section
namespace Go.Nb
theorem fold_ge : ∀ (l : List UInt8) (acc : Nat), acc ≤ l.foldl (fun v c => v * 10 + (c.toNat - 48)) acc
 | [], _ => jii _
 | c :: r, acc => by
  have := fold_ge r (acc * 10 + (c.toNat - 48))
  simp only [List.foldl_cons]
  omega
theorem jcA : ∀ (l : List UInt8) (acc : Nat), (∀ c ∈ l, isDig c = true) → l.foldl (fun v c => v * 10 + (c.toNat - 48)) acc ≤ 18446744073709551615 →
  Go.Lib.parseUintM 18446744073709551615 acc l = .ok (l.foldl (fun v c => v * 10 + (c.toNat - 48)) acc)
 | [], acc, _, _ => rfl
 | c :: r, acc, hd, hl => by
  have h1 := fold_ge r (acc * 10 + (c.toNat - 48))
  have h2 := hd c (by simp)
  unfold isDig at h2
  rw [decide_eq_true_eq] at h2
  simp only [List.foldl_cons] at hl ⊢
  unfold Go.Lib.parseUintM
  rw [if_pos h2, if_neg (by omega), if_neg (by omega)]
  exact jcA r _ (fun c hc => hd c (by simp [hc])) hl
theorem jfh (n : Nat) (h : n ≤ 18446744073709551615) : Go.Lib.parseUintB 64 (dec n) = .ok n := by
 unfold Go.Lib.parseUintB
 have hne : dec n ≠ [] := by
  by_cases h10 : n < 10
  ·rw [jbv h10]; simp
  ·rw [jcr (by omega)]; simp
 rw [if_neg hne]
 have hv : (dec n).foldl (fun v c => v * 10 + (c.toNat - 48)) 0 = n := rdv_dec n
 have := jcA (dec n) 0 (jgk n) (by omega)
 rw [hv] at this
 exact this
theorem jf4 (z : Int) (h1 : -9223372036854775808 ≤ z) (h2 : z ≤ 9223372036854775807) : Go.Lib.parseIntB 64 (decZ z) = .ok z := by
 have hu := jfh z.natAbs (by omega)
 unfold decZ
 by_cases hz : z < 0
 ·rw [if_pos hz, Go.Lib.parseIntB_minus, hu]
  unfold Go.Lib.signedC
  simp only
  rw [if_neg (by omega)]
  congr 1
  omega
 ·rw [if_neg hz]
  have hne : dec z.natAbs ≠ [] := by
   by_cases h10 : z.natAbs < 10
   ·rw [jbv h10]; simp
   ·rw [jcr (by omega)]; simp
  have hd := jgk z.natAbs
  revert hu hd hne
  generalize dec z.natAbs = l
  intro hu hne hd
  cases l with
  | nil => exact absurd rfl hne
  | cons c r =>
   have hc := hd c (by simp)
   unfold isDig at hc
   rw [decide_eq_true_eq] at hc
   rw [Go.Lib.parseIntB_plain 64 c r (by omega) (by omega), hu]
   unfold Go.Lib.signlessC
   simp only
   rw [if_neg (by omega)]
   congr 1
   omega
theorem decZ_len (z : Int) (h1 : -9223372036854775808 ≤ z) (h2 : z ≤ 9223372036854775807) : (decZ z).length ≤ 20 := by
 have := (jbn 19 z.natAbs (by omega) (by omega)).1
 unfold decZ
 split
 ·simp only [jiY]; omega
 ·omega
end Go.Nb
namespace Go.Proofs.YtgjgpdceghjajaaGreatDoor
open Go Go.V Go.Nb Go.RowKit Go.Proofs
set_option maxHeartbeats 4000000
set_option maxRecDepth 1000000
theorem wcheck_k (z : Int) (h1 : -9223372036854775808 ≤ z) (h2 : z ≤ 9223372036854775807) (w : World) (hg : GlW w) : Calls Tryz.prog 144 #[.string ⟨(decZ z).toArray⟩] w fun e w' => e = .returned (.int .i64 0) ∧ RowKit.Below w.heap.size w w' := by
 have hl := decZ_len z h1 h2
 have hd : (dec z.natAbs).length ≤ 600 := jiq (jbn 19 z.natAbs (by omega) (by omega)).1 (by omega)
 have hc := jcb (decZ z) (by omega)
 rw [if_pos (jcj z hd)] at hc
 refine (jfd hc w hg (vs := [.string ⟨(decZ z).toArray⟩]) ?_).mono ?_
 ·simp only [DenL, Den]; exact ⟨_, _, rfl, ⟨rfl, by omega⟩, rfl⟩
 ·rintro e w' ⟨v, h', rfl, hv, hb⟩
  simp only [Den] at hv
  rw [hv.1]
  exact ⟨rfl, hb⟩
theorem int_w (z : Int) (h1 : -9223372036854775808 ≤ z) (h2 : z ≤ 9223372036854775807) (w : World) (hg : GlW w) : Calls Tryz.prog 112 #[.string ⟨(decZ z).toArray⟩] w fun e w' => e = .returned (.tuple #[.int .i64 z, .int .i64 0]) ∧ RowKit.Below w.heap.size w w' := by
 have hl := decZ_len z h1 h2
 have hc := wcheck_k z h1 h2 w hg
 have hp := jf4 z h1 h2
 have hsz : (⟨(decZ z).toArray⟩ : ByteArray).size ≤ 9223372036854775806 := by simp [ByteArray.size]; omega
 have hpi := fun w => Tryz.strconv_ParseInt_10_at64_ok ⟨(decZ z).toArray⟩ hsz z (by simpa using hp) w
 go_enter Tryz.func112, Tryz.ntmps112
 go_wp2_with (go_at_call 144; refine hc.mono ?_)
 rintro e w1 ⟨rfl, hb1⟩
 go_wp2_with (go_at_call 149; refine (hpi w1).mono ?_)
 rintro e w2 ⟨rfl, hw⟩
 have hb2 : RowKit.Below w.heap.size w w2 := by
  rcases hw with rfl | ⟨t, rfl⟩
  ·exact hb1
  ·exact hb1.trans ((Lib.bytesWorld_below w1 _ _).mono hb1.size)
 go_wp2
 go_ret2
 exact ⟨rfl, hb2⟩
theorem int_c (z : Int) (h1 : -9223372036854775808 ≤ z) (h2 : z ≤ 9223372036854775807) : Called Tryz.prog 112 [.str (decZ z)] (.tup [.int .i64 z, .int .i64 0]) := by
 refine jaV Tryz.func112 rfl rfl rfl fun w hp vs ha hd => ?_
 simp only [DenL, Den] at hd
 obtain ⟨v, _, rfl, ⟨rfl, _⟩, rfl⟩ := hd
 refine (int_w z h1 h2 w ha.blk).mono fun e w' ⟨he, hw⟩ => ⟨⟨_, he, fun hp => ?_⟩, hw⟩
 simp only [Den, DenL]
 exact ⟨_, rfl, _, _, rfl, ⟨rfl, by simp only [InR, V.lo, V.hi]; omega⟩, _, _, rfl, ⟨rfl, by constructor <;> decide⟩, rfl⟩
end Go.Proofs.YtgjgpdceghjajaaGreatDoor
end
