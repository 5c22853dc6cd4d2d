/- What functions of the program answer at given values, part 31. Conditions: those that each theorem names. -/
import Derived.Test.YtgjgpdceghjajaaGreatDoorSimplexRefinedH30
import Derived.Test.YtgjgpdceghjajaaGreatDoorSimplexRefinedH13
set_option linter.unusedSimpArgs false
set_option linter.unusedVariables false
set_option maxHeartbeats 8000000
set_option maxRecDepth 100000
section
namespace Go.Proofs.YtgjgpdceghjajaaGreatDoor
open Go Go.V Go.Gr
def lastL (ns : List Nat) : List Int := ns.map fun n : Nat => (n : Int) - 1
def flat (ns : List Nat) (f : Nat → List Int) (m : Nat) : List Int := (List.range m).flatMap f
theorem ja3 (ns : List Nat) (f : Nat → List Int) (m : Nat) : flat ns f (m + 1) = flat ns f m ++ f m := by
 simp [flat, List.range_succ]
theorem jeo {ns : List Nat} {f : Nat → List Int} {m : Nat} (h : ∀ j, j < m → (f j).length ≤ 4) : (flat ns f m).length ≤ 4 * m := by
 induction m with
 | zero => simp [flat]
 | succ m ih =>
  rw [ja3, jiP]
  have h1 := ih fun j hj => h j (by omega)
  have h2 := h m (by omega)
  omega
theorem PR_le {ns : List Nat} (h1 : ns.length ≤ 4) (h2 : ∀ n ∈ ns, 2 ≤ n ∧ n ≤ 9) : PR ns ≤ 6561 := by
 have hb : ∀ l : List Nat, (∀ n ∈ l, 2 ≤ n ∧ n ≤ 9) → PR l ≤ 9 ^ l.length := by
  intro l
  induction l with
  | nil => intro _; decide
  | cons x l ih =>
   intro hl
   have h3 := ih fun n hn => hl n (by simp [hn])
   have h4 := hl x (by simp)
   rw [PR, jiY, Nat.pow_succ, jil]
   exact Nat.mul_le_mul h3 h4.2
 exact jiq (hb ns h2) (jiy (by omega) h1)
theorem jem {ns : List Nat} (h1 : 1 ≤ ns.length ∧ ns.length ≤ 4) (h2 : ∀ n ∈ ns, 2 ≤ n ∧ n ≤ 9) : pad4 (ixl ns 0) = [0, 0, 0, 0] := by
 rw [jd5 ns (fun n hn => by have := h2 n hn; omega) 0 (Nat.zero_mod _)]
 unfold pad4
 rw [List.length_replicate, ← List.replicate_append_replicate.symm]
 have : ns.length + (4 - ns.length) = 4 := by omega
 simp [this]
theorem jdq {a b : List Int} (h : a.length = b.length) (e : pad4 a = pad4 b) : a = b := (List.append_inj e h).1
theorem jaX {l : List Int} {p k : Nat} {x : Int} (h : l[p]? = some x) (hk : p < k) (hl : l.length ≤ 4) : (pad4 (l.take k)).getD p 0 = x := by
 have hp := (jiT.1 h).1
 unfold pad4
 rw [jiJ, jiS (by simp; omega), ji8 hk, h]
 rfl
theorem jb6 {l : List Int} {p : Nat} {x y : Int} (h : l[p]? = some x) (h1 : p < l.length) (hl : l.length ≤ 4) : (pad4 (l.take (p + 1))).set p y = pad4 (l.take p ++ y :: List.replicate (l.length - (p + 1)) 0) := by
 unfold pad4
 have e1 : (l.take (p + 1)).length = p + 1 := by simp; omega
 have e2 : (l.take p ++ y :: List.replicate (l.length - (p + 1)) 0).length = l.length := by simp; omega
 have e4 : (l.take p).length = p := by simp; omega
 rw [e1, e2, List.set_append_left _ _ (by omega), ji9, h]
 have e3 : (l.take p ++ (some x).toList).set p y = l.take p ++ [y] := by
  rw [List.set_append_right _ _ (by omega), e4, Nat.sub_self]
  rfl
 rw [e3, jiR, jiR]
 congr 1
 rw [List.singleton_append, List.cons_append, List.replicate_append_replicate]
 congr 2
 omega
theorem jcB {l : List Int} {p : Nat} {x : Int} (h : l[p]? = some x) (hl : l.length ≤ 4) : (pad4 (l.take (p + 1))).set p 0 = pad4 (l.take p) := by
 have h1 := (jiT.1 h).1
 rw [jb6 h h1 hl]
 unfold pad4
 have e2 : (l.take p ++ (0 : Int) :: List.replicate (l.length - (p + 1)) 0).length = l.length := by simp; omega
 have e3 : (l.take p).length = p := by simp; omega
 rw [e2, e3, jiR]
 congr 1
 rw [← List.replicate_succ, List.replicate_append_replicate]
 congr 1
 omega
theorem jcs {ns : List Nat} {m p n : Nat} {x : Int} (hpos : ∀ n ∈ ns, 0 < n) (hn : ns[p]? = some n) (hx : (ixl ns m)[p]? = some x) : 0 ≤ x ∧ x ≤ (n : Int) - 1 := by
 rw [jdT ns m p n hn] at hx
 cases hx
 have := jik (m / PR (ns.drop (p + 1))) (hpos n (jiO hn))
 omega
end Go.Proofs.YtgjgpdceghjajaaGreatDoor
end
section
namespace Go.Proofs.YtgjgpdceghjajaaGreatDoor
open Go Go.V Go.Nb Go.Gr
def cnP (out : Int) (ns : List Nat) : Nat → Int
 | 0 => out
 | k + 1 => cnP out ns k * (ns.getD k 1 : Nat)
theorem jcZ {out : Int} {ns : List Nat} (ho : 1 ≤ out ∧ out ≤ 4) (h2 : ∀ n ∈ ns, 2 ≤ n ∧ n ≤ 9) : ∀ k, 1 ≤ cnP out ns k ∧ cnP out ns k ≤ 4 * 9 ^ k
 | 0 => by simp only [cnP]; omega
 | k + 1 => by
  have ih := jcZ ho h2 k
  have hb : 1 ≤ ns.getD k 1 ∧ ns.getD k 1 ≤ 9 := by
   rw [jiJ]
   cases h : ns[k]? with
   | none => simp
   | some n => have := h2 n (jiO h); simp; omega
  simp only [cnP, Int.pow_succ]
  generalize ns.getD k 1 = b at hb
  generalize (9 : Int) ^ k = p at ih
  have h1 : cnP out ns k * 1 ≤ cnP out ns k * (b : Int) := jiw (by omega) (by omega)
  have h3 : cnP out ns k * (b : Int) ≤ cnP out ns k * 9 := jiw (by omega) (by omega)
  omega
theorem rpow9 (k : Nat) (h : k ≤ 4) : (4 : Int) * 9 ^ k ≤ 26244 := by
 have : k = 0 ∨ k = 1 ∨ k = 2 ∨ k = 3 ∨ k = 4 := by omega
 rcases this with rfl | rfl | rfl | rfl | rfl <;> decide
theorem jev (Y : Nat → Tx) : ∀ n k, k < n → List.take 2 (List.drop (k * 2) (wce Y n)) = [.str (Y k).1, .str (Y k).2]
 | 0, k, h => absurd h (Nat.not_lt_zero _)
 | n + 1, k, h => by
  have hl : ∀ n, (wce Y n).length = n * 2 := fun n => by
   induction n with
   | zero => rfl
   | succ n ih => simp only [wce, jiP, ih]; simp; omega
  rw [wce]
  rcases jip k n with g | g
  ·have ih := jev Y n k g
   rw [jiX (by rw [hl]; omega), jiW (by rw [ji7, hl]; omega), ih]
  ·have : k = n := by omega
   subst this
   rw [List.drop_append, ji0 (by rw [hl]; omega), hl, Nat.sub_self]
   rfl
theorem jc3 (sz : List Int) : Called Tryz.prog 67 [.ints .i64 sz] (.fn 110 [] [.ref [.ints .i64 sz]]) := by
 refine V.en tbOk Tryz.func67 ?_
 refine V.r0 @jif ?_
 exact Fin.of rfl
theorem jce (g : Nat → Int) {o k : Nat} (h : k < o) : ((List.range o).map g).take (k + 1) = ((List.range o).map g).take k ++ [g k] := by
 rw [ji9]
 congr 1
 simp [h]
theorem jhM : type_of% @jih ∧ type_of% @jif ∧ type_of% @tn0 ∧ type_of% @tn1 ∧ type_of% @tn2 ∧ type_of% @tn3 ∧ type_of% @xt4 := ⟨@jih, @jif, @tn0, @tn1, @tn2, @tn3, @xt4⟩
theorem jhX : type_of% @jih ∧ type_of% @jif := ⟨@jih, @jif⟩
theorem jh4 : type_of% @jih ∧ type_of% @ji3 ∧ type_of% @List.take_succ_cons.{0} ∧ type_of% @List.take_zero.{0} ∧ type_of% @jif ∧ type_of% @tn0 ∧ type_of% @tn1 ∧ type_of% @tn2 ∧ type_of% @tn3 ∧ type_of% @xt4 := ⟨@jih, @ji3, @List.take_succ_cons.{0}, @List.take_zero.{0}, @jif, @tn0, @tn1, @tn2, @tn3, @xt4⟩
theorem refine1_t (zs data : List Int) (out : Int) (ns : List Nat) (X Y : Nat → Nat → Tx) (W : Nat → Nat → Int) (hl : zs.length = 1) (hn : ns.length = 1) (h2 : ∀ n ∈ ns, 2 ≤ n ∧ n ≤ 9) (ho : 1 ≤ out ∧ out ≤ 4) (hc : cnP out ns 1 ≤ 4096)
  (gr : Called Tryz.prog 37 [.agg [.ints .i64 zs, .int .i64 out, .ints .i64 data]] (.int .i64 0))
  (ov : ∀ m i, m < PR ns → i < 1 → Called Tryz.prog 58 [.int .i64 ((pad4 (ixl ns m)).getD i 0), .int .i64 ((nz ns).getD i 0 - 1)] (.agg [.str (X m i).1, .str (X m i).2]))
  (ev : ∀ m, m < PR ns → Called Tryz.prog 15 [.agg [.ints .i64 zs, .int .i64 out, .ints .i64 data], .slf 2 1 (fun j => List.take 2 (List.drop (j * 2) [.str (X m 0).1, .str (X m 0).2]))] (.tup [.slf 2 out.toNat (fun j => List.take 2 (List.drop (j * 2) (wce (Y m) out.toNat))), .int .i64 0]))
  (nr : ∀ m j, m < PR ns → j < out.toNat → Called Tryz.prog 68 [.agg [.str (Y m j).1, .str (Y m j).2], .int .i64 65535] (.tup [.int .i64 (W m j), .int .i64 0])) :
  Called Tryz.prog 33 [.agg [.ints .i64 zs, .int .i64 out, .ints .i64 data], .ints .i64 (nz ns)] (.tup [.agg [.ints .i64 (nz ns), .int .i64 out, .ints .i64 (flat ns (fun m => (List.range out.toNat).map (W m)) (PR ns))], .int .i64 0]) := by
 have hlen : (nz ns).length = ns.length := by simp [nz]
 have hlz : (nz ns).length = 1 := by rw [hlen, hn]
 have hli : ((nz ns).length : Int) = 1 := by rw [hlz]; rfl
 have hz : ((zs.length : Nat) : Int) = 1 := by rw [hl]; rfl
 have h1 : 1 ≤ ns.length ∧ ns.length ≤ 4 := by omega
 have po := jc3 (nz ns)
 have cl := jhJ (nz ns) (by omega)
 have hcb := jcZ ho h2
 refine V.en tbOk Tryz.func33 ?_
 refine V.r1 jhM gr ?_
 refine Cnd.split (CondB.mk (fun h => absurd h (by rw [hl, hlz]; simp)) (fun _ => ?_))
 refine V.r0 jhM ?_
 refine lp_go (ns.length) (fun k => True) (fun k => [(38, .int .i64 k), (7, .int .i64 (cnP out ns k))]) (fun k => []) V.wk ?_ ?_
 ·trivial
 intro k hk _
 have hck := hcb k
 have hck1 := hcb (k + 1)
 have hk9 : (4 : Int) * 9 ^ k ≤ 26244 := rpow9 k (by omega)
 (conv => whnf)
 refine V.st ?_
 refine V.br (fun h => ?_) (fun h => ?_)
 ·rw [hlen] at h
  simp only [decide_eq_true_eq] at h
  have hk1 : k < ns.length := by omega
  have hk91 : (4 : Int) * 9 ^ (k + 1) ≤ 26244 := rpow9 (k + 1) (by omega)
  obtain ⟨n, hnk⟩ : ∃ n, ns[k]? = some n := ⟨ns[k], jiM hk1⟩
  have hn0 := h2 n (jiO hnk)
  have en : (nz ns).getD k 0 = n := by simp [nz, jiJ, hnk]
  have ec : cnP out ns (k + 1) = cnP out ns k * (n : Int) := by simp [cnP, jiJ, hnk]
  rw [ec] at hck1
  refine V.r0 (V.a2 jhM @en) ?_
  refine Cnd.split (CondB.mk (fun h => absurd h (by simp; omega)) (fun _ => ?_))
  (conv => whnf)
  (try simp only [jhM, en, ← ec])
  repeat ((first | refine V.s1 ?_); (try simp only [jhM, en, ← ec]))
  exact ⟨k + 1, ⟨by omega, trivial⟩, by omega, V.wk⟩
 ·rw [hlen] at h
  simp only [decide_eq_false_iff_not] at h
  have hk1 : k = 1 := by omega
  subst hk1
  clear hck hck1
  refine V.r0 jhM ?_
  refine Cnd.split (CondB.mk (fun h => absurd h (by simp; omega)) (fun _ => ?_))
  refine V.r0 jhM ?_
  refine ⟨(V.tk [0,2,3] (.ev (.cons 1 [3,2] (V.tk [4] (V.e1 5 [4,3,2] (V.e1 6 [] .done))) (.cons 5 [3,2,0] (V.e1 1 [3,2] (V.tk [4] (V.e1 6 [] .done))) .nil)))), [], V.pok, ?_⟩
  refine jab [(10, .box 10 0)] [(10, .box [.ints .i64 (nz ns), .int .i64 out, .nil])] ?_ ?_
  ·exact V.d1 jhM cl
  refine V.r1 jhM po ?_
  refine ⟨_, _, ⟨Tryz.func110, rfl, rfl, jia rfl⟩, ?_⟩
  refine V.r0 @jif ?_
  refine lp_go (ns.length) (fun k => True) (fun k => [(10, .int .i64 k)]) (fun k => [(122, .arr .i64 (pad4 ((lastL ns).take k)))]) V.wk ?_ ?_
  ·trivial
  intro k hk _
  (conv => whnf)
  refine V.st ?_
  refine V.br (fun h => ?_) (fun h => ?_)
  ·rw [hlen] at h
   simp only [decide_eq_true_eq] at h
   have hk1 : k < ns.length := by omega
   obtain ⟨n, hnk⟩ : ∃ n, ns[k]? = some n := ⟨ns[k], jiM hk1⟩
   have hn0 := h2 n (jiO hnk)
   have en : (nz ns).getD k 0 = n := by simp [nz, jiJ, hnk]
   have hll : (lastL ns)[k]? = some ((n : Int) - 1) := by simp [lastL, hnk]
   have hp4 : (pad4 ((lastL ns).take k)).length = 4 := jao (by simp [lastL]; omega)
   have hps := jdp hll (by simp [lastL]; omega)
   refine V.r0 (V.a3 jhX @en hps) ?_
   exact ⟨k + 1, ⟨by omega, trivial⟩, by omega, V.wk⟩
  ·rw [hlen] at h
   simp only [decide_eq_false_iff_not] at h
   have hk1 : k = ns.length := by omega
   subst hk1
   have e0 : (lastL ns).take ns.length = lastL ns := jiZ (by simp [lastL])
   rw [e0]
   (conv => whnf)
   refine V.st ?_
   refine Lp.ghostBox 279 10 2 .i64 (by decide) (by decide) ?_
   (conv => whnf)
   have e1 := jem h1 h2
   have hpos : ∀ n ∈ ns, 0 < n := fun n hn => by have := h2 n hn; omega
   refine jac (0) (fun k => k < PR ns) (fun k => PR ns - k) (fun k => []) (fun k => [(117, .lp none), (121, .arr .i64 (pad4 (ixl ns k))), (10, .box [.ints .i64 (nz ns), .int .i64 out, .osl 279 0 (flat ns (fun m => (List.range out.toNat).map (W m)) k).length]), (279, .arr .i64 (flat ns (fun m => (List.range out.toNat).map (W m)) k))]) ?_ ?_ ?_
   ·rw [e1]
    exact V.wk
   ·exact jct hpos
   intro m hm
   have evm := ev m hm
   have hlm : ((List.range out.toNat).map (W m)).length = out.toNat := by simp
   have hp4 : (pad4 (ixl ns m)).length = 4 := jao (by rw [jaj]; omega)
   have hp4l : (pad4 (lastL ns)).length = 4 := jao (by simp [lastL]; omega)
   have hfl : (flat ns (fun m => (List.range out.toNat).map (W m)) m).length ≤ 4 * m := jeo (fun j hj => by simp; omega)
   have hPR := PR_le h1.2 h2
   have xb : ∀ i n, ns[i]? = some n → (0 ≤ (pad4 (ixl ns m)).getD i 0 ∧ (pad4 (ixl ns m)).getD i 0 ≤ 8) ∧ (2 ≤ (nz ns).getD i 0 ∧ (nz ns).getD i 0 ≤ 9) := by
    intro i n h
    have e := jdT ns m i n h
    have b := jcs hpos h e
    have b2 := h2 n (jiO h)
    have hi := (jiT.1 h).1
    have e2 := jaX (k := ns.length) e hi (by rw [jaj]; omega)
    rw [jiZ (by rw [jaj]; omega)] at e2
    rw [e2]
    simp [nz, jiJ, h]
    simp at b
    omega
   have i69 := fun i (hi : i < 1) => ns.getElem?_eq_getElem (show i < ns.length by omega)
   refine V.r0 (V.a2 jhM hli) ?_
   refine jac (0 : Nat) (fun k => k ≤ 1) (fun k => 1 - k) (fun k => [(69, .int .i64 (k : Nat))]) (fun k => [(232, .box (preD (2 * k) [.str (X m 0).1, .str (X m 0).2]))]) ?_ ?_ ?_
   ·exact V.wk
   ·exact jib _
   intro k hk
   have hk4 : k = 0 ∨ k = 1 := by omega
   rcases hk4 with e | e
   all_goals subst e
   ·simp only [k0]
    have c := ov m 0 hm (by omega)
    have xb0 := xb 0 _ (i69 0 (by omega))
    refine V.r1 (V.a2 jhM hli) c ?_
    exact ⟨1, by omega, by omega, V.wk⟩
   ·simp only [k1]
    refine V.r1 (V.a2 jhM hli) evm ?_
    obtain ⟨E, hE0, hEs, hEn, hEl⟩ : ∃ E : Nat → List Int, E 0 = flat ns (fun m => (List.range out.toNat).map (W m)) m ∧ (∀ k, k < out.toNat → E k ++ [W m k] = E (k + 1)) ∧ E out.toNat = flat ns (fun m => (List.range out.toNat).map (W m)) (m + 1) ∧ ∀ k, k ≤ out.toNat → (E k).length ≤ 30000 := by
     refine ⟨fun k => flat ns (fun m => (List.range out.toNat).map (W m)) m ++ ((List.range out.toNat).map (W m)).take k, by simp, fun k hk => ?_, ?_, fun k hk => ?_⟩
     ·show flat ns _ m ++ ((List.range out.toNat).map (W m)).take k ++ [W m k] = flat ns _ m ++ ((List.range out.toNat).map (W m)).take (k + 1)
      rw [jce _ hk, jiR]
     ·show flat _ _ _ ++ _ = _
      rw [ja3, jiZ (by simp)]
     ·show (flat _ _ _ ++ _).length ≤ _
      rw [jiP, jiQ]
      omega
    rw [← hE0]
    refine lp_go (out.toNat) (fun k => True) (fun k => [(96, .int .i64 k)]) (fun k => [(10, .box [.ints .i64 (nz ns), .int .i64 out, .osl 279 0 (E k).length]), (279, .arr .i64 (E k))]) V.wk ?_ ?_
    ·trivial
    intro k hk _
    (conv => whnf)
    refine V.st ?_
    refine V.br (fun h => ?_) (fun h => ?_)
    ·simp only [decide_eq_true_eq] at h
     have hk1 : k < out.toNat := by omega
     have e := jev (Y m) out.toNat k hk1
     have nrk := nr m k hm hk1
     have hEk := hEs k hk1
     have hEl1 := hEl k hk
     have hEl2 : (E k).length + 1 = (E (k + 1)).length := by rw [← hEk]; simp
     (conv => whnf)
     (try simp only [jh4, hEk, hEl2, ← jiP])
     repeat ((first | refine V.s1 ?_ | ((try ((with_reducible refine .ext ?_); (conv => whnf); (try simp only [jh4, hEk, hEl2, ← jiP]))); (with_reducible refine jaa (r := ?_) ?_ ?_); rotate_left; (focus (first | exact (nrk))); (conv => whnf)) | ((simp only [e]); (conv => whnf))); (try simp only [jh4, hEk, hEl2, ← jiP]))
     exact ⟨k + 1, ⟨by omega, trivial⟩, by omega, V.wk⟩
    ·simp only [decide_eq_false_iff_not] at h
     have hk1 : k = out.toNat := by omega
     subst hk1
     rw [hEn]
     (conv => whnf)
     refine V.st ?_
     refine V.br (fun hq => ?_) (fun hq => ?_)
     ·have hq2 : ixl ns m ≠ lastL ns := fun e => by rw [e] at hq; simp at hq
      have hil := jaj ns m
      have hll : (lastL ns).length = ns.length := by simp [lastL]
      (conv => whnf)
      refine V.st ?_
      rw [hlen]
      have e2 : (ixl ns m).take ns.length = ixl ns m := jiZ (by omega)
      refine jac (ns.length) (fun k => (1 ≤ k ∧ k ≤ ns.length) ∧ (ixl ns m).drop k = (lastL ns).drop k) (fun k => k) (fun k => [(7, .int .i64 ((k : Int) - 1))]) (fun k => [(121, .arr .i64 (pad4 ((ixl ns m).take k)))]) ?_ ?_ ?_
      ·rw [e2]
       exact V.wk
      ·exact ⟨⟨h1.1, jii _⟩, by rw [ji0 (by omega), ji0 (by omega)]⟩
      rintro p ⟨⟨hp1, hp2⟩, hp3⟩
      obtain ⟨p, rfl⟩ : ∃ q, p = q + 1 := ⟨p - 1, by omega⟩
      obtain ⟨x, hx⟩ : ∃ x, (ixl ns m)[p]? = some x := ⟨_, jiM (by omega)⟩
      obtain ⟨n, hn⟩ : ∃ n, ns[p]? = some n := ⟨ns[p], jiM (by omega)⟩
      have hpx := jaX hx (by omega : p < p + 1) (by omega)
      have hpl : (lastL ns)[p]? = some ((n : Int) - 1) := by simp [lastL, hn]
      have hpl2 := jaX (k := 4) hpl (by omega) (by omega)
      rw [jiZ (by omega)] at hpl2
      have hp5 : (pad4 ((ixl ns m).take (p + 1))).length = 4 := jao (by simp; omega)
      have e3 : ((p + 1 : Nat) : Int) - 1 = (p : Int) := by omega
      have e4 := jcB hx (by omega)
      (conv => whnf)
      refine V.st ?_
      refine ⟨(V.tk [0,1,2,3,4,5,6] .done), [], V.pok, .go (jad ?_)⟩
      refine V.r0 (V.a4 jhX e3 hpx hpl2) ?_
      refine V.br (fun hc => ?_) (fun hc => ?_)
      ·simp only [decide_eq_true_eq] at hc
       have hd : (ixl ns m).drop p = (lastL ns).drop p := by
        rw [ji2 (by omega : p < (ixl ns m).length), ji2 (by omega : p < (lastL ns).length), hp3, (jiT.1 hx).2, (jiT.1 hpl).2, hc]
       have hp0 : 1 ≤ p := by
        rcases jij p with e | e
        ·subst e; exact absurd (by simpa using hd) hq2
        ·exact e
       refine V.r0 (V.a3 jhX e3 e4) ?_
       exact ⟨p, ⟨⟨hp0, by omega⟩, hd⟩, by omega, V.wk⟩
      ·simp only [decide_eq_false_iff_not] at hc
       have hsu := jdv ns hpos m p n hn x hx (by rw [hp3]; simp [lastL]) hc
       have e5 := jb6 (y := x + 1) hx (by omega) (by omega : (ixl ns m).length ≤ 4)
       rw [hil, ← hsu] at e5
       have hxb := jcs hpos hn hx
       have hnb := h2 n (jiO hn)
       have hm1 : m + 1 < PR ns := by
        rcases jip (m + 1) (PR ns) with e | e
        ·exact e
        ·exfalso
         exact hq2 (jcQ ns hpos m (by rw [jim hm]; omega))
       refine V.r0 (V.a4 jhX e3 hpx e5) ?_
       exact ⟨m + 1, hm1, by omega, V.wk⟩
     ·have hq2 : ixl ns m = lastL ns := jdq (by rw [jaj]; simp [lastL]) (by simpa using hq)
      have hq3 := jcO ns hpos m hq2
      rw [jim hm] at hq3
      have hq4 : m + 1 = PR ns := by omega
      rw [hq4]
      (conv => whnf)
      refine V.st ?_
      rw [jiZ (jii _)]
      exact Fin.of rfl
theorem refine2_t (zs data : List Int) (out : Int) (ns : List Nat) (X Y : Nat → Nat → Tx) (W : Nat → Nat → Int) (hl : zs.length = 2) (hn : ns.length = 2) (h2 : ∀ n ∈ ns, 2 ≤ n ∧ n ≤ 9) (ho : 1 ≤ out ∧ out ≤ 4) (hc : cnP out ns 2 ≤ 4096)
  (gr : Called Tryz.prog 37 [.agg [.ints .i64 zs, .int .i64 out, .ints .i64 data]] (.int .i64 0))
  (ov : ∀ m i, m < PR ns → i < 2 → Called Tryz.prog 58 [.int .i64 ((pad4 (ixl ns m)).getD i 0), .int .i64 ((nz ns).getD i 0 - 1)] (.agg [.str (X m i).1, .str (X m i).2]))
  (ev : ∀ m, m < PR ns → Called Tryz.prog 15 [.agg [.ints .i64 zs, .int .i64 out, .ints .i64 data], .slf 2 2 (fun j => List.take 2 (List.drop (j * 2) [.str (X m 0).1, .str (X m 0).2, .str (X m 1).1, .str (X m 1).2]))] (.tup [.slf 2 out.toNat (fun j => List.take 2 (List.drop (j * 2) (wce (Y m) out.toNat))), .int .i64 0]))
  (nr : ∀ m j, m < PR ns → j < out.toNat → Called Tryz.prog 68 [.agg [.str (Y m j).1, .str (Y m j).2], .int .i64 65535] (.tup [.int .i64 (W m j), .int .i64 0])) :
  Called Tryz.prog 33 [.agg [.ints .i64 zs, .int .i64 out, .ints .i64 data], .ints .i64 (nz ns)] (.tup [.agg [.ints .i64 (nz ns), .int .i64 out, .ints .i64 (flat ns (fun m => (List.range out.toNat).map (W m)) (PR ns))], .int .i64 0]) := by
 have hlen : (nz ns).length = ns.length := by simp [nz]
 have hlz : (nz ns).length = 2 := by rw [hlen, hn]
 have hli : ((nz ns).length : Int) = 2 := by rw [hlz]; rfl
 have hz : ((zs.length : Nat) : Int) = 2 := by rw [hl]; rfl
 have h1 : 1 ≤ ns.length ∧ ns.length ≤ 4 := by omega
 have po := jc3 (nz ns)
 have cl := jhJ (nz ns) (by omega)
 have hcb := jcZ ho h2
 refine V.en tbOk Tryz.func33 ?_
 refine V.r1 jhM gr ?_
 refine Cnd.split (CondB.mk (fun h => absurd h (by rw [hl, hlz]; simp)) (fun _ => ?_))
 refine V.r0 jhM ?_
 refine lp_go (ns.length) (fun k => True) (fun k => [(38, .int .i64 k), (7, .int .i64 (cnP out ns k))]) (fun k => []) V.wk ?_ ?_
 ·trivial
 intro k hk _
 have hck := hcb k
 have hck1 := hcb (k + 1)
 have hk9 : (4 : Int) * 9 ^ k ≤ 26244 := rpow9 k (by omega)
 (conv => whnf)
 refine V.st ?_
 refine V.br (fun h => ?_) (fun h => ?_)
 ·rw [hlen] at h
  simp only [decide_eq_true_eq] at h
  have hk1 : k < ns.length := by omega
  have hk91 : (4 : Int) * 9 ^ (k + 1) ≤ 26244 := rpow9 (k + 1) (by omega)
  obtain ⟨n, hnk⟩ : ∃ n, ns[k]? = some n := ⟨ns[k], jiM hk1⟩
  have hn0 := h2 n (jiO hnk)
  have en : (nz ns).getD k 0 = n := by simp [nz, jiJ, hnk]
  have ec : cnP out ns (k + 1) = cnP out ns k * (n : Int) := by simp [cnP, jiJ, hnk]
  rw [ec] at hck1
  refine V.r0 (V.a2 jhM @en) ?_
  refine Cnd.split (CondB.mk (fun h => absurd h (by simp; omega)) (fun _ => ?_))
  (conv => whnf)
  (try simp only [jhM, en, ← ec])
  repeat ((first | refine V.s1 ?_); (try simp only [jhM, en, ← ec]))
  exact ⟨k + 1, ⟨by omega, trivial⟩, by omega, V.wk⟩
 ·rw [hlen] at h
  simp only [decide_eq_false_iff_not] at h
  have hk1 : k = 2 := by omega
  subst hk1
  clear hck hck1
  refine V.r0 jhM ?_
  refine Cnd.split (CondB.mk (fun h => absurd h (by simp; omega)) (fun _ => ?_))
  refine V.r0 jhM ?_
  refine ⟨(V.tk [0,2,3] (.ev (.cons 1 [3,2] (V.tk [4] (V.e1 5 [4,3,2] (V.e1 6 [] .done))) (.cons 5 [3,2,0] (V.e1 1 [3,2] (V.tk [4] (V.e1 6 [] .done))) .nil)))), [], V.pok, ?_⟩
  refine jab [(10, .box 10 0)] [(10, .box [.ints .i64 (nz ns), .int .i64 out, .nil])] ?_ ?_
  ·exact V.d1 jhM cl
  refine V.r1 jhM po ?_
  refine ⟨_, _, ⟨Tryz.func110, rfl, rfl, jia rfl⟩, ?_⟩
  refine V.r0 @jif ?_
  refine lp_go (ns.length) (fun k => True) (fun k => [(10, .int .i64 k)]) (fun k => [(122, .arr .i64 (pad4 ((lastL ns).take k)))]) V.wk ?_ ?_
  ·trivial
  intro k hk _
  (conv => whnf)
  refine V.st ?_
  refine V.br (fun h => ?_) (fun h => ?_)
  ·rw [hlen] at h
   simp only [decide_eq_true_eq] at h
   have hk1 : k < ns.length := by omega
   obtain ⟨n, hnk⟩ : ∃ n, ns[k]? = some n := ⟨ns[k], jiM hk1⟩
   have hn0 := h2 n (jiO hnk)
   have en : (nz ns).getD k 0 = n := by simp [nz, jiJ, hnk]
   have hll : (lastL ns)[k]? = some ((n : Int) - 1) := by simp [lastL, hnk]
   have hp4 : (pad4 ((lastL ns).take k)).length = 4 := jao (by simp [lastL]; omega)
   have hps := jdp hll (by simp [lastL]; omega)
   refine V.r0 (V.a3 jhX @en hps) ?_
   exact ⟨k + 1, ⟨by omega, trivial⟩, by omega, V.wk⟩
  ·rw [hlen] at h
   simp only [decide_eq_false_iff_not] at h
   have hk1 : k = ns.length := by omega
   subst hk1
   have e0 : (lastL ns).take ns.length = lastL ns := jiZ (by simp [lastL])
   rw [e0]
   (conv => whnf)
   refine V.st ?_
   refine Lp.ghostBox 279 10 2 .i64 (by decide) (by decide) ?_
   (conv => whnf)
   have e1 := jem h1 h2
   have hpos : ∀ n ∈ ns, 0 < n := fun n hn => by have := h2 n hn; omega
   refine jac (0) (fun k => k < PR ns) (fun k => PR ns - k) (fun k => []) (fun k => [(117, .lp none), (121, .arr .i64 (pad4 (ixl ns k))), (10, .box [.ints .i64 (nz ns), .int .i64 out, .osl 279 0 (flat ns (fun m => (List.range out.toNat).map (W m)) k).length]), (279, .arr .i64 (flat ns (fun m => (List.range out.toNat).map (W m)) k))]) ?_ ?_ ?_
   ·rw [e1]
    exact V.wk
   ·exact jct hpos
   intro m hm
   have evm := ev m hm
   have hlm : ((List.range out.toNat).map (W m)).length = out.toNat := by simp
   have hp4 : (pad4 (ixl ns m)).length = 4 := jao (by rw [jaj]; omega)
   have hp4l : (pad4 (lastL ns)).length = 4 := jao (by simp [lastL]; omega)
   have hfl : (flat ns (fun m => (List.range out.toNat).map (W m)) m).length ≤ 4 * m := jeo (fun j hj => by simp; omega)
   have hPR := PR_le h1.2 h2
   have xb : ∀ i n, ns[i]? = some n → (0 ≤ (pad4 (ixl ns m)).getD i 0 ∧ (pad4 (ixl ns m)).getD i 0 ≤ 8) ∧ (2 ≤ (nz ns).getD i 0 ∧ (nz ns).getD i 0 ≤ 9) := by
    intro i n h
    have e := jdT ns m i n h
    have b := jcs hpos h e
    have b2 := h2 n (jiO h)
    have hi := (jiT.1 h).1
    have e2 := jaX (k := ns.length) e hi (by rw [jaj]; omega)
    rw [jiZ (by rw [jaj]; omega)] at e2
    rw [e2]
    simp [nz, jiJ, h]
    simp at b
    omega
   have i69 := fun i (hi : i < 2) => ns.getElem?_eq_getElem (show i < ns.length by omega)
   refine V.r0 (V.a2 jhM hli) ?_
   refine jac (0 : Nat) (fun k => k ≤ 2) (fun k => 2 - k) (fun k => [(69, .int .i64 (k : Nat))]) (fun k => [(232, .box (preD (2 * k) [.str (X m 0).1, .str (X m 0).2, .str (X m 1).1, .str (X m 1).2]))]) ?_ ?_ ?_
   ·exact V.wk
   ·exact jib _
   intro k hk
   have hk4 : k = 0 ∨ k = 1 ∨ k = 2 := by omega
   rcases hk4 with e | e | e
   all_goals subst e
   ·simp only [k0]
    have c := ov m 0 hm (by omega)
    have xb0 := xb 0 _ (i69 0 (by omega))
    refine V.r1 (V.a2 jhM hli) c ?_
    exact ⟨1, by omega, by omega, V.wk⟩
   ·simp only [k1]
    have c := ov m 1 hm (by omega)
    have xb1 := xb 1 _ (i69 1 (by omega))
    refine V.r1 (V.a2 jhM hli) c ?_
    exact ⟨2, by omega, by omega, V.wk⟩
   ·simp only [k2]
    refine V.r1 (V.a2 jhM hli) evm ?_
    obtain ⟨E, hE0, hEs, hEn, hEl⟩ : ∃ E : Nat → List Int, E 0 = flat ns (fun m => (List.range out.toNat).map (W m)) m ∧ (∀ k, k < out.toNat → E k ++ [W m k] = E (k + 1)) ∧ E out.toNat = flat ns (fun m => (List.range out.toNat).map (W m)) (m + 1) ∧ ∀ k, k ≤ out.toNat → (E k).length ≤ 30000 := by
     refine ⟨fun k => flat ns (fun m => (List.range out.toNat).map (W m)) m ++ ((List.range out.toNat).map (W m)).take k, by simp, fun k hk => ?_, ?_, fun k hk => ?_⟩
     ·show flat ns _ m ++ ((List.range out.toNat).map (W m)).take k ++ [W m k] = flat ns _ m ++ ((List.range out.toNat).map (W m)).take (k + 1)
      rw [jce _ hk, jiR]
     ·show flat _ _ _ ++ _ = _
      rw [ja3, jiZ (by simp)]
     ·show (flat _ _ _ ++ _).length ≤ _
      rw [jiP, jiQ]
      omega
    rw [← hE0]
    refine lp_go (out.toNat) (fun k => True) (fun k => [(96, .int .i64 k)]) (fun k => [(10, .box [.ints .i64 (nz ns), .int .i64 out, .osl 279 0 (E k).length]), (279, .arr .i64 (E k))]) V.wk ?_ ?_
    ·trivial
    intro k hk _
    (conv => whnf)
    refine V.st ?_
    refine V.br (fun h => ?_) (fun h => ?_)
    ·simp only [decide_eq_true_eq] at h
     have hk1 : k < out.toNat := by omega
     have e := jev (Y m) out.toNat k hk1
     have nrk := nr m k hm hk1
     have hEk := hEs k hk1
     have hEl1 := hEl k hk
     have hEl2 : (E k).length + 1 = (E (k + 1)).length := by rw [← hEk]; simp
     (conv => whnf)
     (try simp only [jh4, hEk, hEl2, ← jiP])
     repeat ((first | refine V.s1 ?_ | ((try ((with_reducible refine .ext ?_); (conv => whnf); (try simp only [jh4, hEk, hEl2, ← jiP]))); (with_reducible refine jaa (r := ?_) ?_ ?_); rotate_left; (focus (first | exact (nrk))); (conv => whnf)) | ((simp only [e]); (conv => whnf))); (try simp only [jh4, hEk, hEl2, ← jiP]))
     exact ⟨k + 1, ⟨by omega, trivial⟩, by omega, V.wk⟩
    ·simp only [decide_eq_false_iff_not] at h
     have hk1 : k = out.toNat := by omega
     subst hk1
     rw [hEn]
     (conv => whnf)
     refine V.st ?_
     refine V.br (fun hq => ?_) (fun hq => ?_)
     ·have hq2 : ixl ns m ≠ lastL ns := fun e => by rw [e] at hq; simp at hq
      have hil := jaj ns m
      have hll : (lastL ns).length = ns.length := by simp [lastL]
      (conv => whnf)
      refine V.st ?_
      rw [hlen]
      have e2 : (ixl ns m).take ns.length = ixl ns m := jiZ (by omega)
      refine jac (ns.length) (fun k => (1 ≤ k ∧ k ≤ ns.length) ∧ (ixl ns m).drop k = (lastL ns).drop k) (fun k => k) (fun k => [(7, .int .i64 ((k : Int) - 1))]) (fun k => [(121, .arr .i64 (pad4 ((ixl ns m).take k)))]) ?_ ?_ ?_
      ·rw [e2]
       exact V.wk
      ·exact ⟨⟨h1.1, jii _⟩, by rw [ji0 (by omega), ji0 (by omega)]⟩
      rintro p ⟨⟨hp1, hp2⟩, hp3⟩
      obtain ⟨p, rfl⟩ : ∃ q, p = q + 1 := ⟨p - 1, by omega⟩
      obtain ⟨x, hx⟩ : ∃ x, (ixl ns m)[p]? = some x := ⟨_, jiM (by omega)⟩
      obtain ⟨n, hn⟩ : ∃ n, ns[p]? = some n := ⟨ns[p], jiM (by omega)⟩
      have hpx := jaX hx (by omega : p < p + 1) (by omega)
      have hpl : (lastL ns)[p]? = some ((n : Int) - 1) := by simp [lastL, hn]
      have hpl2 := jaX (k := 4) hpl (by omega) (by omega)
      rw [jiZ (by omega)] at hpl2
      have hp5 : (pad4 ((ixl ns m).take (p + 1))).length = 4 := jao (by simp; omega)
      have e3 : ((p + 1 : Nat) : Int) - 1 = (p : Int) := by omega
      have e4 := jcB hx (by omega)
      (conv => whnf)
      refine V.st ?_
      refine ⟨(V.tk [0,1,2,3,4,5,6] .done), [], V.pok, .go (jad ?_)⟩
      refine V.r0 (V.a4 jhX e3 hpx hpl2) ?_
      refine V.br (fun hc => ?_) (fun hc => ?_)
      ·simp only [decide_eq_true_eq] at hc
       have hd : (ixl ns m).drop p = (lastL ns).drop p := by
        rw [ji2 (by omega : p < (ixl ns m).length), ji2 (by omega : p < (lastL ns).length), hp3, (jiT.1 hx).2, (jiT.1 hpl).2, hc]
       have hp0 : 1 ≤ p := by
        rcases jij p with e | e
        ·subst e; exact absurd (by simpa using hd) hq2
        ·exact e
       refine V.r0 (V.a3 jhX e3 e4) ?_
       exact ⟨p, ⟨⟨hp0, by omega⟩, hd⟩, by omega, V.wk⟩
      ·simp only [decide_eq_false_iff_not] at hc
       have hsu := jdv ns hpos m p n hn x hx (by rw [hp3]; simp [lastL]) hc
       have e5 := jb6 (y := x + 1) hx (by omega) (by omega : (ixl ns m).length ≤ 4)
       rw [hil, ← hsu] at e5
       have hxb := jcs hpos hn hx
       have hnb := h2 n (jiO hn)
       have hm1 : m + 1 < PR ns := by
        rcases jip (m + 1) (PR ns) with e | e
        ·exact e
        ·exfalso
         exact hq2 (jcQ ns hpos m (by rw [jim hm]; omega))
       refine V.r0 (V.a4 jhX e3 hpx e5) ?_
       exact ⟨m + 1, hm1, by omega, V.wk⟩
     ·have hq2 : ixl ns m = lastL ns := jdq (by rw [jaj]; simp [lastL]) (by simpa using hq)
      have hq3 := jcO ns hpos m hq2
      rw [jim hm] at hq3
      have hq4 : m + 1 = PR ns := by omega
      rw [hq4]
      (conv => whnf)
      refine V.st ?_
      rw [jiZ (jii _)]
      exact Fin.of rfl
theorem refine3_t (zs data : List Int) (out : Int) (ns : List Nat) (X Y : Nat → Nat → Tx) (W : Nat → Nat → Int) (hl : zs.length = 3) (hn : ns.length = 3) (h2 : ∀ n ∈ ns, 2 ≤ n ∧ n ≤ 9) (ho : 1 ≤ out ∧ out ≤ 4) (hc : cnP out ns 3 ≤ 4096)
  (gr : Called Tryz.prog 37 [.agg [.ints .i64 zs, .int .i64 out, .ints .i64 data]] (.int .i64 0))
  (ov : ∀ m i, m < PR ns → i < 3 → Called Tryz.prog 58 [.int .i64 ((pad4 (ixl ns m)).getD i 0), .int .i64 ((nz ns).getD i 0 - 1)] (.agg [.str (X m i).1, .str (X m i).2]))
  (ev : ∀ m, m < PR ns → Called Tryz.prog 15 [.agg [.ints .i64 zs, .int .i64 out, .ints .i64 data], .slf 2 3 (fun j => List.take 2 (List.drop (j * 2) [.str (X m 0).1, .str (X m 0).2, .str (X m 1).1, .str (X m 1).2, .str (X m 2).1, .str (X m 2).2]))] (.tup [.slf 2 out.toNat (fun j => List.take 2 (List.drop (j * 2) (wce (Y m) out.toNat))), .int .i64 0]))
  (nr : ∀ m j, m < PR ns → j < out.toNat → Called Tryz.prog 68 [.agg [.str (Y m j).1, .str (Y m j).2], .int .i64 65535] (.tup [.int .i64 (W m j), .int .i64 0])) :
  Called Tryz.prog 33 [.agg [.ints .i64 zs, .int .i64 out, .ints .i64 data], .ints .i64 (nz ns)] (.tup [.agg [.ints .i64 (nz ns), .int .i64 out, .ints .i64 (flat ns (fun m => (List.range out.toNat).map (W m)) (PR ns))], .int .i64 0]) := by
 have hlen : (nz ns).length = ns.length := by simp [nz]
 have hlz : (nz ns).length = 3 := by rw [hlen, hn]
 have hli : ((nz ns).length : Int) = 3 := by rw [hlz]; rfl
 have hz : ((zs.length : Nat) : Int) = 3 := by rw [hl]; rfl
 have h1 : 1 ≤ ns.length ∧ ns.length ≤ 4 := by omega
 have po := jc3 (nz ns)
 have cl := jhJ (nz ns) (by omega)
 have hcb := jcZ ho h2
 refine V.en tbOk Tryz.func33 ?_
 refine V.r1 jhM gr ?_
 refine Cnd.split (CondB.mk (fun h => absurd h (by rw [hl, hlz]; simp)) (fun _ => ?_))
 refine V.r0 jhM ?_
 refine lp_go (ns.length) (fun k => True) (fun k => [(38, .int .i64 k), (7, .int .i64 (cnP out ns k))]) (fun k => []) V.wk ?_ ?_
 ·trivial
 intro k hk _
 have hck := hcb k
 have hck1 := hcb (k + 1)
 have hk9 : (4 : Int) * 9 ^ k ≤ 26244 := rpow9 k (by omega)
 (conv => whnf)
 refine V.st ?_
 refine V.br (fun h => ?_) (fun h => ?_)
 ·rw [hlen] at h
  simp only [decide_eq_true_eq] at h
  have hk1 : k < ns.length := by omega
  have hk91 : (4 : Int) * 9 ^ (k + 1) ≤ 26244 := rpow9 (k + 1) (by omega)
  obtain ⟨n, hnk⟩ : ∃ n, ns[k]? = some n := ⟨ns[k], jiM hk1⟩
  have hn0 := h2 n (jiO hnk)
  have en : (nz ns).getD k 0 = n := by simp [nz, jiJ, hnk]
  have ec : cnP out ns (k + 1) = cnP out ns k * (n : Int) := by simp [cnP, jiJ, hnk]
  rw [ec] at hck1
  refine V.r0 (V.a2 jhM @en) ?_
  refine Cnd.split (CondB.mk (fun h => absurd h (by simp; omega)) (fun _ => ?_))
  (conv => whnf)
  (try simp only [jhM, en, ← ec])
  repeat ((first | refine V.s1 ?_); (try simp only [jhM, en, ← ec]))
  exact ⟨k + 1, ⟨by omega, trivial⟩, by omega, V.wk⟩
 ·rw [hlen] at h
  simp only [decide_eq_false_iff_not] at h
  have hk1 : k = 3 := by omega
  subst hk1
  clear hck hck1
  refine V.r0 jhM ?_
  refine Cnd.split (CondB.mk (fun h => absurd h (by simp; omega)) (fun _ => ?_))
  refine V.r0 jhM ?_
  refine ⟨(V.tk [0,2,3] (.ev (.cons 1 [3,2] (V.tk [4] (V.e1 5 [4,3,2] (V.e1 6 [] .done))) (.cons 5 [3,2,0] (V.e1 1 [3,2] (V.tk [4] (V.e1 6 [] .done))) .nil)))), [], V.pok, ?_⟩
  refine jab [(10, .box 10 0)] [(10, .box [.ints .i64 (nz ns), .int .i64 out, .nil])] ?_ ?_
  ·exact V.d1 jhM cl
  refine V.r1 jhM po ?_
  refine ⟨_, _, ⟨Tryz.func110, rfl, rfl, jia rfl⟩, ?_⟩
  refine V.r0 @jif ?_
  refine lp_go (ns.length) (fun k => True) (fun k => [(10, .int .i64 k)]) (fun k => [(122, .arr .i64 (pad4 ((lastL ns).take k)))]) V.wk ?_ ?_
  ·trivial
  intro k hk _
  (conv => whnf)
  refine V.st ?_
  refine V.br (fun h => ?_) (fun h => ?_)
  ·rw [hlen] at h
   simp only [decide_eq_true_eq] at h
   have hk1 : k < ns.length := by omega
   obtain ⟨n, hnk⟩ : ∃ n, ns[k]? = some n := ⟨ns[k], jiM hk1⟩
   have hn0 := h2 n (jiO hnk)
   have en : (nz ns).getD k 0 = n := by simp [nz, jiJ, hnk]
   have hll : (lastL ns)[k]? = some ((n : Int) - 1) := by simp [lastL, hnk]
   have hp4 : (pad4 ((lastL ns).take k)).length = 4 := jao (by simp [lastL]; omega)
   have hps := jdp hll (by simp [lastL]; omega)
   refine V.r0 (V.a3 jhX @en hps) ?_
   exact ⟨k + 1, ⟨by omega, trivial⟩, by omega, V.wk⟩
  ·rw [hlen] at h
   simp only [decide_eq_false_iff_not] at h
   have hk1 : k = ns.length := by omega
   subst hk1
   have e0 : (lastL ns).take ns.length = lastL ns := jiZ (by simp [lastL])
   rw [e0]
   (conv => whnf)
   refine V.st ?_
   refine Lp.ghostBox 279 10 2 .i64 (by decide) (by decide) ?_
   (conv => whnf)
   have e1 := jem h1 h2
   have hpos : ∀ n ∈ ns, 0 < n := fun n hn => by have := h2 n hn; omega
   refine jac (0) (fun k => k < PR ns) (fun k => PR ns - k) (fun k => []) (fun k => [(117, .lp none), (121, .arr .i64 (pad4 (ixl ns k))), (10, .box [.ints .i64 (nz ns), .int .i64 out, .osl 279 0 (flat ns (fun m => (List.range out.toNat).map (W m)) k).length]), (279, .arr .i64 (flat ns (fun m => (List.range out.toNat).map (W m)) k))]) ?_ ?_ ?_
   ·rw [e1]
    exact V.wk
   ·exact jct hpos
   intro m hm
   have evm := ev m hm
   have hlm : ((List.range out.toNat).map (W m)).length = out.toNat := by simp
   have hp4 : (pad4 (ixl ns m)).length = 4 := jao (by rw [jaj]; omega)
   have hp4l : (pad4 (lastL ns)).length = 4 := jao (by simp [lastL]; omega)
   have hfl : (flat ns (fun m => (List.range out.toNat).map (W m)) m).length ≤ 4 * m := jeo (fun j hj => by simp; omega)
   have hPR := PR_le h1.2 h2
   have xb : ∀ i n, ns[i]? = some n → (0 ≤ (pad4 (ixl ns m)).getD i 0 ∧ (pad4 (ixl ns m)).getD i 0 ≤ 8) ∧ (2 ≤ (nz ns).getD i 0 ∧ (nz ns).getD i 0 ≤ 9) := by
    intro i n h
    have e := jdT ns m i n h
    have b := jcs hpos h e
    have b2 := h2 n (jiO h)
    have hi := (jiT.1 h).1
    have e2 := jaX (k := ns.length) e hi (by rw [jaj]; omega)
    rw [jiZ (by rw [jaj]; omega)] at e2
    rw [e2]
    simp [nz, jiJ, h]
    simp at b
    omega
   have i69 := fun i (hi : i < 3) => ns.getElem?_eq_getElem (show i < ns.length by omega)
   refine V.r0 (V.a2 jhM hli) ?_
   refine jac (0 : Nat) (fun k => k ≤ 3) (fun k => 3 - k) (fun k => [(69, .int .i64 (k : Nat))]) (fun k => [(232, .box (preD (2 * k) [.str (X m 0).1, .str (X m 0).2, .str (X m 1).1, .str (X m 1).2, .str (X m 2).1, .str (X m 2).2]))]) ?_ ?_ ?_
   ·exact V.wk
   ·exact jib _
   intro k hk
   have hk4 : k = 0 ∨ k = 1 ∨ k = 2 ∨ k = 3 := by omega
   rcases hk4 with e | e | e | e
   all_goals subst e
   ·simp only [k0]
    have c := ov m 0 hm (by omega)
    have xb0 := xb 0 _ (i69 0 (by omega))
    refine V.r1 (V.a2 jhM hli) c ?_
    exact ⟨1, by omega, by omega, V.wk⟩
   ·simp only [k1]
    have c := ov m 1 hm (by omega)
    have xb1 := xb 1 _ (i69 1 (by omega))
    refine V.r1 (V.a2 jhM hli) c ?_
    exact ⟨2, by omega, by omega, V.wk⟩
   ·simp only [k2]
    have c := ov m 2 hm (by omega)
    have xb2 := xb 2 _ (i69 2 (by omega))
    refine V.r1 (V.a2 jhM hli) c ?_
    exact ⟨3, by omega, by omega, V.wk⟩
   ·simp only [k3]
    refine V.r1 (V.a2 jhM hli) evm ?_
    obtain ⟨E, hE0, hEs, hEn, hEl⟩ : ∃ E : Nat → List Int, E 0 = flat ns (fun m => (List.range out.toNat).map (W m)) m ∧ (∀ k, k < out.toNat → E k ++ [W m k] = E (k + 1)) ∧ E out.toNat = flat ns (fun m => (List.range out.toNat).map (W m)) (m + 1) ∧ ∀ k, k ≤ out.toNat → (E k).length ≤ 30000 := by
     refine ⟨fun k => flat ns (fun m => (List.range out.toNat).map (W m)) m ++ ((List.range out.toNat).map (W m)).take k, by simp, fun k hk => ?_, ?_, fun k hk => ?_⟩
     ·show flat ns _ m ++ ((List.range out.toNat).map (W m)).take k ++ [W m k] = flat ns _ m ++ ((List.range out.toNat).map (W m)).take (k + 1)
      rw [jce _ hk, jiR]
     ·show flat _ _ _ ++ _ = _
      rw [ja3, jiZ (by simp)]
     ·show (flat _ _ _ ++ _).length ≤ _
      rw [jiP, jiQ]
      omega
    rw [← hE0]
    refine lp_go (out.toNat) (fun k => True) (fun k => [(96, .int .i64 k)]) (fun k => [(10, .box [.ints .i64 (nz ns), .int .i64 out, .osl 279 0 (E k).length]), (279, .arr .i64 (E k))]) V.wk ?_ ?_
    ·trivial
    intro k hk _
    (conv => whnf)
    refine V.st ?_
    refine V.br (fun h => ?_) (fun h => ?_)
    ·simp only [decide_eq_true_eq] at h
     have hk1 : k < out.toNat := by omega
     have e := jev (Y m) out.toNat k hk1
     have nrk := nr m k hm hk1
     have hEk := hEs k hk1
     have hEl1 := hEl k hk
     have hEl2 : (E k).length + 1 = (E (k + 1)).length := by rw [← hEk]; simp
     (conv => whnf)
     (try simp only [jh4, hEk, hEl2, ← jiP])
     repeat ((first | refine V.s1 ?_ | ((try ((with_reducible refine .ext ?_); (conv => whnf); (try simp only [jh4, hEk, hEl2, ← jiP]))); (with_reducible refine jaa (r := ?_) ?_ ?_); rotate_left; (focus (first | exact (nrk))); (conv => whnf)) | ((simp only [e]); (conv => whnf))); (try simp only [jh4, hEk, hEl2, ← jiP]))
     exact ⟨k + 1, ⟨by omega, trivial⟩, by omega, V.wk⟩
    ·simp only [decide_eq_false_iff_not] at h
     have hk1 : k = out.toNat := by omega
     subst hk1
     rw [hEn]
     (conv => whnf)
     refine V.st ?_
     refine V.br (fun hq => ?_) (fun hq => ?_)
     ·have hq2 : ixl ns m ≠ lastL ns := fun e => by rw [e] at hq; simp at hq
      have hil := jaj ns m
      have hll : (lastL ns).length = ns.length := by simp [lastL]
      (conv => whnf)
      refine V.st ?_
      rw [hlen]
      have e2 : (ixl ns m).take ns.length = ixl ns m := jiZ (by omega)
      refine jac (ns.length) (fun k => (1 ≤ k ∧ k ≤ ns.length) ∧ (ixl ns m).drop k = (lastL ns).drop k) (fun k => k) (fun k => [(7, .int .i64 ((k : Int) - 1))]) (fun k => [(121, .arr .i64 (pad4 ((ixl ns m).take k)))]) ?_ ?_ ?_
      ·rw [e2]
       exact V.wk
      ·exact ⟨⟨h1.1, jii _⟩, by rw [ji0 (by omega), ji0 (by omega)]⟩
      rintro p ⟨⟨hp1, hp2⟩, hp3⟩
      obtain ⟨p, rfl⟩ : ∃ q, p = q + 1 := ⟨p - 1, by omega⟩
      obtain ⟨x, hx⟩ : ∃ x, (ixl ns m)[p]? = some x := ⟨_, jiM (by omega)⟩
      obtain ⟨n, hn⟩ : ∃ n, ns[p]? = some n := ⟨ns[p], jiM (by omega)⟩
      have hpx := jaX hx (by omega : p < p + 1) (by omega)
      have hpl : (lastL ns)[p]? = some ((n : Int) - 1) := by simp [lastL, hn]
      have hpl2 := jaX (k := 4) hpl (by omega) (by omega)
      rw [jiZ (by omega)] at hpl2
      have hp5 : (pad4 ((ixl ns m).take (p + 1))).length = 4 := jao (by simp; omega)
      have e3 : ((p + 1 : Nat) : Int) - 1 = (p : Int) := by omega
      have e4 := jcB hx (by omega)
      (conv => whnf)
      refine V.st ?_
      refine ⟨(V.tk [0,1,2,3,4,5,6] .done), [], V.pok, .go (jad ?_)⟩
      refine V.r0 (V.a4 jhX e3 hpx hpl2) ?_
      refine V.br (fun hc => ?_) (fun hc => ?_)
      ·simp only [decide_eq_true_eq] at hc
       have hd : (ixl ns m).drop p = (lastL ns).drop p := by
        rw [ji2 (by omega : p < (ixl ns m).length), ji2 (by omega : p < (lastL ns).length), hp3, (jiT.1 hx).2, (jiT.1 hpl).2, hc]
       have hp0 : 1 ≤ p := by
        rcases jij p with e | e
        ·subst e; exact absurd (by simpa using hd) hq2
        ·exact e
       refine V.r0 (V.a3 jhX e3 e4) ?_
       exact ⟨p, ⟨⟨hp0, by omega⟩, hd⟩, by omega, V.wk⟩
      ·simp only [decide_eq_false_iff_not] at hc
       have hsu := jdv ns hpos m p n hn x hx (by rw [hp3]; simp [lastL]) hc
       have e5 := jb6 (y := x + 1) hx (by omega) (by omega : (ixl ns m).length ≤ 4)
       rw [hil, ← hsu] at e5
       have hxb := jcs hpos hn hx
       have hnb := h2 n (jiO hn)
       have hm1 : m + 1 < PR ns := by
        rcases jip (m + 1) (PR ns) with e | e
        ·exact e
        ·exfalso
         exact hq2 (jcQ ns hpos m (by rw [jim hm]; omega))
       refine V.r0 (V.a4 jhX e3 hpx e5) ?_
       exact ⟨m + 1, hm1, by omega, V.wk⟩
     ·have hq2 : ixl ns m = lastL ns := jdq (by rw [jaj]; simp [lastL]) (by simpa using hq)
      have hq3 := jcO ns hpos m hq2
      rw [jim hm] at hq3
      have hq4 : m + 1 = PR ns := by omega
      rw [hq4]
      (conv => whnf)
      refine V.st ?_
      rw [jiZ (jii _)]
      exact Fin.of rfl
end Go.Proofs.YtgjgpdceghjajaaGreatDoor
end
