/- What some functions of the program answer at values that mean given lists, texts and numbers, each proved of the program's own code: part 33. Conditions: those that each theorem names. -/
import Derived.Test.YtgjgpdceghjajaaGreatDoorSimplexKnownH32
import Derived.Test.YtgjgpdceghjajaaGreatDoorSimplexKnownH13
import Derived.Test.YtgjgpdceghjajaaGreatDoorSimplexKnownH24
import Derived.Test.YtgjgpdceghjajaaGreatDoorSimplexKnownH25
import Derived.Test.YtgjgpdceghjajaaGreatDoorSimplexKnownH14
set_option linter.unusedSimpArgs false
set_option linter.unusedVariables false
set_option maxHeartbeats 8000000
set_option maxRecDepth 100000
section
namespace Go.Proofs.YtgjgpdceghjajaaGreatDoor
open Go Go.V Go.Nb Go.Gr
def cnP (out : Int) (ns : List Nat) : Nat → Int
 | 0 => out
 | k + 1 => cnP out ns k * (ns.getD k 1 : Nat)
theorem cnP_bd {out : Int} {ns : List Nat} (ho : 1 ≤ out ∧ out ≤ 4) (h2 : ∀ n ∈ ns, 2 ≤ n ∧ n ≤ 9) : ∀ k, 1 ≤ cnP out ns k ∧ cnP out ns k ≤ 4 * 9 ^ k
 | 0 => by simp only [cnP]; omega
 | k + 1 => by
  have ih := cnP_bd ho h2 k
  have hb : 1 ≤ ns.getD k 1 ∧ ns.getD k 1 ≤ 9 := by
   rw [List.getD_eq_getElem?_getD]
   cases h : ns[k]? with
   | none => simp
   | some n => have := h2 n (List.mem_of_getElem? h); simp; omega
  simp only [cnP, Int.pow_succ]
  generalize ns.getD k 1 = b at hb
  generalize (9 : Int) ^ k = p at ih
  have h1 : cnP out ns k * 1 ≤ cnP out ns k * (b : Int) := jhQ (by omega) (by omega)
  have h3 : cnP out ns k * (b : Int) ≤ cnP out ns k * 9 := jhQ (by omega) (by omega)
  omega
theorem rpow9 (k : Nat) (h : k ≤ 4) : (4 : Int) * 9 ^ k ≤ 26244 := by
 have : k = 0 ∨ k = 1 ∨ k = 2 ∨ k = 3 ∨ k = 4 := by omega
 rcases this with rfl | rfl | rfl | rfl | rfl <;> decide
theorem wce_at (Y : Nat → Tx) : ∀ n k, k < n → List.take 2 (List.drop (k * 2) (wce Y n)) = [.str (Y k).1, .str (Y k).2]
 | 0, k, h => absurd h (Nat.not_lt_zero _)
 | n + 1, k, h => by
  have hl : ∀ n, (wce Y n).length = n * 2 := fun n => by
   induction n with
   | zero => rfl
   | succ n ih => simp only [wce, List.length_append, ih]; simp; omega
  rw [wce]
  rcases jhK k n with g | g
  ·have ih := wce_at Y n k g
   rw [List.drop_append_of_le_length (by rw [hl]; omega), List.take_append_of_le_length (by rw [List.length_drop, hl]; omega), ih]
  ·have : k = n := by omega
   subst this
   rw [List.drop_append, List.drop_of_length_le (by rw [hl]; omega), hl, Nat.sub_self]
   rfl
theorem jea (sz : List Int) : Called Tryz.prog 67 [.ints .i64 sz] (.fn 110 [] [.ref [.ints .i64 sz]]) := by
 refine jaa tbOk 6 ⟨Tryz.func67, rfl, rfl, jhy rfl⟩ ?_
 (conv => whnf)
 refine V.r0 @jhC ?_
 exact Fin.of rfl
theorem jcY (g : Nat → Int) {o k : Nat} (h : k < o) : ((List.range o).map g).take (k + 1) = ((List.range o).map g).take k ++ [g k] := by
 rw [List.take_add_one]
 congr 1
 simp [h]
theorem jhe : type_of% @jhD ∧ type_of% @jhC ∧ type_of% @tn0 ∧ type_of% @tn1 ∧ type_of% @tn2 ∧ type_of% @tn3 ∧ type_of% @xt4 := ⟨@jhD, @jhC, @tn0, @tn1, @tn2, @tn3, @xt4⟩
theorem jhr : type_of% @jhD ∧ type_of% @jhC := ⟨@jhD, @jhC⟩
theorem jhu : type_of% @jhD ∧ type_of% @List.drop_zero.{0} ∧ type_of% @List.take_succ_cons.{0} ∧ type_of% @List.take_zero.{0} ∧ type_of% @jhC ∧ type_of% @tn0 ∧ type_of% @tn1 ∧ type_of% @tn2 ∧ type_of% @tn3 ∧ type_of% @xt4 := ⟨@jhD, @List.drop_zero.{0}, @List.take_succ_cons.{0}, @List.take_zero.{0}, @jhC, @tn0, @tn1, @tn2, @tn3, @xt4⟩
theorem refine2_t (zs data : List Int) (out : Int) (ns : List Nat) (X Y : Nat → Nat → Tx) (W : Nat → Nat → Int) (hl : zs.length = 2) (hn : ns.length = 2) (h2 : ∀ n ∈ ns, 2 ≤ n ∧ n ≤ 9) (ho : 1 ≤ out ∧ out ≤ 4) (hc : cnP out ns 2 ≤ 4096)
  (gr : Called Tryz.prog 37 [.agg [.ints .i64 zs, .int .i64 out, .ints .i64 data]] (.int .i64 0))
  (ov : ∀ m i, m < PR ns → i < 2 → Called Tryz.prog 58 [.int .i64 ((pad4 (ixl ns m)).getD i 0), .int .i64 ((nz ns).getD i 0 - 1)] (.agg [.str (X m i).1, .str (X m i).2]))
  (ev : ∀ m, m < PR ns → Called Tryz.prog 15 [.agg [.ints .i64 zs, .int .i64 out, .ints .i64 data], .slf 2 2 (fun j => List.take 2 (List.drop (j * 2) [.str (X m 0).1, .str (X m 0).2, .str (X m 1).1, .str (X m 1).2]))] (.tup [.slf 2 out.toNat (fun j => List.take 2 (List.drop (j * 2) (wce (Y m) out.toNat))), .int .i64 0]))
  (nr : ∀ m j, m < PR ns → j < out.toNat → Called Tryz.prog 68 [.agg [.str (Y m j).1, .str (Y m j).2], .int .i64 65535] (.tup [.int .i64 (W m j), .int .i64 0])) :
  Called Tryz.prog 33 [.agg [.ints .i64 zs, .int .i64 out, .ints .i64 data], .ints .i64 (nz ns)] (.tup [.agg [.ints .i64 (nz ns), .int .i64 out, .ints .i64 (flat ns (fun m => (List.range out.toNat).map (W m)) (PR ns))], .int .i64 0]) := by
 have hlen : (nz ns).length = ns.length := by simp [nz]
 have hlz : (nz ns).length = 2 := by rw [hlen, hn]
 have hli : ((nz ns).length : Int) = 2 := by rw [hlz]; rfl
 have hz : ((zs.length : Nat) : Int) = 2 := by rw [hl]; rfl
 have h1 : 1 ≤ ns.length ∧ ns.length ≤ 4 := by omega
 have po := jea (nz ns)
 have cl := clone_c (nz ns) (by omega)
 have hcb := cnP_bd ho h2
 refine jaa tbOk 6 ⟨Tryz.func33, rfl, rfl, jhy rfl⟩ ?_
 (conv => whnf)
 refine V.r1 jhe gr ?_
 refine Cnd.split (CondB.mk (fun h => absurd h (by rw [hl, hlz]; simp)) (fun _ => ?_))
 refine V.r0 jhe ?_
 refine lp_go (ns.length) (fun k => True) (fun k => [(38, .int .i64 k), (7, .int .i64 (cnP out ns k))]) (fun k => []) V.wk ?_ ?_
 ·trivial
 intro k hk _
 have hck := hcb k
 have hck1 := hcb (k + 1)
 have hk9 : (4 : Int) * 9 ^ k ≤ 26244 := rpow9 k (by omega)
 (conv => whnf)
 refine V.st ?_
 refine Cnd.split (CondB.mk (fun h => ?_) (fun h => ?_))
 ·rw [hlen] at h
  simp only [decide_eq_true_eq] at h
  have hk1 : k < ns.length := by omega
  have hk91 : (4 : Int) * 9 ^ (k + 1) ≤ 26244 := rpow9 (k + 1) (by omega)
  obtain ⟨n, hnk⟩ : ∃ n, ns[k]? = some n := ⟨ns[k], List.getElem?_eq_getElem hk1⟩
  have hn0 := h2 n (List.mem_of_getElem? hnk)
  have en : (nz ns).getD k 0 = n := by simp [nz, List.getD_eq_getElem?_getD, hnk]
  have ec : cnP out ns (k + 1) = cnP out ns k * (n : Int) := by simp [cnP, List.getD_eq_getElem?_getD, hnk]
  rw [ec] at hck1
  refine V.r0 (V.a2 jhe en) ?_
  refine Cnd.split (CondB.mk (fun h => absurd h (by simp; omega)) (fun _ => ?_))
  (conv => whnf)
  (try simp only [jhe, en, ← ec])
  repeat ((first | refine V.s1 ?_); (try simp only [jhe, en, ← ec]))
  exact ⟨k + 1, ⟨by omega, trivial⟩, by omega, V.wk⟩
 ·rw [hlen] at h
  simp only [decide_eq_false_iff_not] at h
  have hk1 : k = 2 := by omega
  subst hk1
  clear hck hck1
  refine V.r0 jhe ?_
  refine Cnd.split (CondB.mk (fun h => absurd h (by simp; omega)) (fun _ => ?_))
  refine V.r0 jhe ?_
  refine ⟨(.take 0 (.take 2 (.take 3 (.ev (.cons 1 [3, 2] (.take 4 (.ev (.cons 5 [4, 3, 2] (.ev (.cons 6 [] (.done) (.nil))) (.nil)))) (.cons 5 [3, 2, 0] (.ev (.cons 1 [3, 2] (.take 4 (.ev (.cons 6 [] (.done) (.nil)))) (.nil))) (.nil))))))), [], ⟨by kernel_rfl, by kernel_rfl, by kernel_rfl, by kernel_rfl⟩, ?_⟩
  refine jac [(10, .box 10 0)] [(10, .box [.ints .i64 (nz ns), .int .i64 out, .nil])] ?_ ?_
  ·exact V.d1 jhe cl
  refine V.r1 jhe po ?_
  refine ⟨_, _, ⟨Tryz.func110, rfl, rfl, jhy rfl⟩, ?_⟩
  (conv => whnf)
  refine V.r0 @jhC ?_
  refine lp_go (ns.length) (fun k => True) (fun k => [(10, .int .i64 k)]) (fun k => [(122, .arr .i64 (pad4 ((lastL ns).take k)))]) V.wk ?_ ?_
  ·trivial
  intro k hk _
  (conv => whnf)
  refine V.st ?_
  refine Cnd.split (CondB.mk (fun h => ?_) (fun h => ?_))
  ·rw [hlen] at h
   simp only [decide_eq_true_eq] at h
   have hk1 : k < ns.length := by omega
   obtain ⟨n, hnk⟩ : ∃ n, ns[k]? = some n := ⟨ns[k], List.getElem?_eq_getElem hk1⟩
   have hn0 := h2 n (List.mem_of_getElem? hnk)
   have en : (nz ns).getD k 0 = n := by simp [nz, List.getD_eq_getElem?_getD, hnk]
   have hll : (lastL ns)[k]? = some ((n : Int) - 1) := by simp [lastL, hnk]
   have hp4 : (pad4 ((lastL ns).take k)).length = 4 := jap (by simp [lastL]; omega)
   have hps := jdO hll (by simp [lastL]; omega)
   refine V.r0 (V.a3 jhr en hps) ?_
   exact ⟨k + 1, ⟨by omega, trivial⟩, by omega, V.wk⟩
  ·rw [hlen] at h
   simp only [decide_eq_false_iff_not] at h
   have hk1 : k = ns.length := by omega
   subst hk1
   have e0 : (lastL ns).take ns.length = lastL ns := List.take_of_length_le (by simp [lastL])
   rw [e0]
   (conv => whnf)
   refine V.st ?_
   refine Lp.ghostBox 279 10 2 .i64 (by decide) (by decide) ?_
   (conv => whnf)
   have e1 := jfA h1 h2
   have hpos : ∀ n ∈ ns, 0 < n := fun n hn => by have := h2 n hn; omega
   refine jah (0) (fun k => k < PR ns) (fun k => PR ns - k) (fun k => []) (fun k => [(117, .lp none), (121, .arr .i64 (pad4 (ixl ns k))), (10, .box [.ints .i64 (nz ns), .int .i64 out, .osl 279 0 (flat ns (fun m => (List.range out.toNat).map (W m)) k).length]), (279, .arr .i64 (flat ns (fun m => (List.range out.toNat).map (W m)) k))]) ?_ ?_ ?_
   ·rw [e1]
    exact V.wk
   ·exact jdG hpos
   intro m hm
   have evm := ev m hm
   have hlm : ((List.range out.toNat).map (W m)).length = out.toNat := by simp
   have hp4 : (pad4 (ixl ns m)).length = 4 := jap (by rw [jau]; omega)
   have hp4l : (pad4 (lastL ns)).length = 4 := jap (by simp [lastL]; omega)
   have hfl : (flat ns (fun m => (List.range out.toNat).map (W m)) m).length ≤ 4 * m := flat_len (fun j hj => by simp; omega)
   have hPR := PR_le h1.2 h2
   have xb : ∀ i n, ns[i]? = some n → (0 ≤ (pad4 (ixl ns m)).getD i 0 ∧ (pad4 (ixl ns m)).getD i 0 ≤ 8) ∧ (2 ≤ (nz ns).getD i 0 ∧ (nz ns).getD i 0 ≤ 9) := by
    intro i n h
    have e := jfB ns m i n h
    have b := jdC hpos h e
    have b2 := h2 n (List.mem_of_getElem? h)
    have hi := (List.getElem?_eq_some_iff.1 h).1
    have e2 := jbl (k := ns.length) e hi (by rw [jau]; omega)
    rw [List.take_of_length_le (by rw [jau]; omega)] at e2
    rw [e2]
    simp [nz, List.getD_eq_getElem?_getD, h]
    simp at b
    omega
   have i69 := fun i (hi : i < 2) => ns.getElem?_eq_getElem (show i < ns.length by omega)
   refine V.r0 (V.a2 jhe hli) ?_
   refine jah (0 : Nat) (fun k => k ≤ 2) (fun k => 2 - k) (fun k => [(69, .int .i64 (k : Nat))]) (fun k => [(232, .box (preD (2 * k) [.str (X m 0).1, .str (X m 0).2, .str (X m 1).1, .str (X m 1).2]))]) ?_ ?_ ?_
   ·exact V.wk
   ·exact jhz _
   intro k hk
   have hk4 : k = 0 ∨ k = 1 ∨ k = 2 := by omega
   rcases hk4 with e | e | e
   all_goals subst e
   ·simp only [k0]
    have c := ov m 0 hm (by omega)
    have xb0 := xb 0 _ (i69 0 (by omega))
    refine V.r1 (V.a2 jhe hli) c ?_
    exact ⟨1, by omega, by omega, V.wk⟩
   ·simp only [k1]
    have c := ov m 1 hm (by omega)
    have xb1 := xb 1 _ (i69 1 (by omega))
    refine V.r1 (V.a2 jhe hli) c ?_
    exact ⟨2, by omega, by omega, V.wk⟩
   ·simp only [k2]
    refine V.r1 (V.a2 jhe hli) evm ?_
    obtain ⟨E, hE0, hEs, hEn, hEl⟩ : ∃ E : Nat → List Int, E 0 = flat ns (fun m => (List.range out.toNat).map (W m)) m ∧ (∀ k, k < out.toNat → E k ++ [W m k] = E (k + 1)) ∧ E out.toNat = flat ns (fun m => (List.range out.toNat).map (W m)) (m + 1) ∧ ∀ k, k ≤ out.toNat → (E k).length ≤ 30000 := by
     refine ⟨fun k => flat ns (fun m => (List.range out.toNat).map (W m)) m ++ ((List.range out.toNat).map (W m)).take k, by simp, fun k hk => ?_, ?_, fun k hk => ?_⟩
     ·show flat ns _ m ++ ((List.range out.toNat).map (W m)).take k ++ [W m k] = flat ns _ m ++ ((List.range out.toNat).map (W m)).take (k + 1)
      rw [jcY _ hk, List.append_assoc]
     ·show flat _ _ _ ++ _ = _
      rw [jes, List.take_of_length_le (by simp)]
     ·show (flat _ _ _ ++ _).length ≤ _
      rw [List.length_append, List.length_take]
      omega
    rw [← hE0]
    refine lp_go (out.toNat) (fun k => True) (fun k => [(96, .int .i64 k)]) (fun k => [(10, .box [.ints .i64 (nz ns), .int .i64 out, .osl 279 0 (E k).length]), (279, .arr .i64 (E k))]) V.wk ?_ ?_
    ·trivial
    intro k hk _
    (conv => whnf)
    refine V.st ?_
    refine Cnd.split (CondB.mk (fun h => ?_) (fun h => ?_))
    ·simp only [decide_eq_true_eq] at h
     have hk1 : k < out.toNat := by omega
     have e := wce_at (Y m) out.toNat k hk1
     have nrk := nr m k hm hk1
     have hEk := hEs k hk1
     have hEl1 := hEl k hk
     have hEl2 : (E k).length + 1 = (E (k + 1)).length := by rw [← hEk]; simp
     (conv => whnf)
     (try simp only [jhu, hEk, hEl2, ← List.length_append])
     repeat ((first | refine V.s1 ?_ | ((try ((with_reducible refine .ext ?_); (conv => whnf); (try simp only [jhu, hEk, hEl2, ← List.length_append]))); (with_reducible refine jab (r := ?_) ?_ ?_); rotate_left; (focus (first | exact (nrk))); (conv => whnf)) | ((simp only [e]); (conv => whnf))); (try simp only [jhu, hEk, hEl2, ← List.length_append]))
     exact ⟨k + 1, ⟨by omega, trivial⟩, by omega, V.wk⟩
    ·simp only [decide_eq_false_iff_not] at h
     have hk1 : k = out.toNat := by omega
     subst hk1
     rw [hEn]
     (conv => whnf)
     refine V.st ?_
     refine Cnd.split (CondB.mk (fun hq => ?_) (fun hq => ?_))
     ·have hq2 : ixl ns m ≠ lastL ns := fun e => by rw [e] at hq; simp at hq
      have hil := jau ns m
      have hll : (lastL ns).length = ns.length := by simp [lastL]
      (conv => whnf)
      refine V.st ?_
      rw [hlen]
      have e2 : (ixl ns m).take ns.length = ixl ns m := List.take_of_length_le (by omega)
      refine jah (ns.length) (fun k => (1 ≤ k ∧ k ≤ ns.length) ∧ (ixl ns m).drop k = (lastL ns).drop k) (fun k => k) (fun k => [(7, .int .i64 ((k : Int) - 1))]) (fun k => [(121, .arr .i64 (pad4 ((ixl ns m).take k)))]) ?_ ?_ ?_
      ·rw [e2]
       exact V.wk
      ·exact ⟨⟨h1.1, jhE _⟩, by rw [List.drop_of_length_le (by omega), List.drop_of_length_le (by omega)]⟩
      rintro p ⟨⟨hp1, hp2⟩, hp3⟩
      obtain ⟨p, rfl⟩ : ∃ q, p = q + 1 := ⟨p - 1, by omega⟩
      obtain ⟨x, hx⟩ : ∃ x, (ixl ns m)[p]? = some x := ⟨_, List.getElem?_eq_getElem (by omega)⟩
      obtain ⟨n, hn⟩ : ∃ n, ns[p]? = some n := ⟨ns[p], List.getElem?_eq_getElem (by omega)⟩
      have hpx := jbl hx (by omega : p < p + 1) (by omega)
      have hpl : (lastL ns)[p]? = some ((n : Int) - 1) := by simp [lastL, hn]
      have hpl2 := jbl (k := 4) hpl (by omega) (by omega)
      rw [List.take_of_length_le (by omega)] at hpl2
      have hp5 : (pad4 ((ixl ns m).take (p + 1))).length = 4 := jap (by simp; omega)
      have e3 : ((p + 1 : Nat) : Int) - 1 = (p : Int) := by omega
      have e4 := jc8 hx (by omega)
      (conv => whnf)
      refine V.st ?_
      refine ⟨(.take 0 (.take 1 (.take 2 (.take 3 (.take 4 (.take 5 (.take 6 (.done)))))))), [], ⟨by kernel_rfl, by kernel_rfl, by kernel_rfl, by kernel_rfl⟩, .go (jag ?_)⟩
      refine V.r0 (V.a4 jhr e3 hpx hpl2) ?_
      refine Cnd.split (CondB.mk (fun hc => ?_) (fun hc => ?_))
      ·simp only [decide_eq_true_eq] at hc
       have hd : (ixl ns m).drop p = (lastL ns).drop p := by
        rw [List.drop_eq_getElem_cons (by omega : p < (ixl ns m).length), List.drop_eq_getElem_cons (by omega : p < (lastL ns).length), hp3, (List.getElem?_eq_some_iff.1 hx).2, (List.getElem?_eq_some_iff.1 hpl).2, hc]
       have hp0 : 1 ≤ p := by
        rcases jhF p with e | e
        ·subst e; exact absurd (by simpa using hd) hq2
        ·exact e
       refine V.r0 (V.a3 jhr e3 e4) ?_
       exact ⟨p, ⟨⟨hp0, by omega⟩, hd⟩, by omega, V.wk⟩
      ·simp only [decide_eq_false_iff_not] at hc
       have hsu := jdS ns hpos m p n hn x hx (by rw [hp3]; simp [lastL]) hc
       have e5 := jcp (y := x + 1) hx (by omega) (by omega : (ixl ns m).length ≤ 4)
       rw [hil, ← hsu] at e5
       have hxb := jdC hpos hn hx
       have hnb := h2 n (List.mem_of_getElem? hn)
       have hm1 : m + 1 < PR ns := by
        rcases jhK (m + 1) (PR ns) with e | e
        ·exact e
        ·exfalso
         exact hq2 (jdc ns hpos m (by rw [jhH hm]; omega))
       refine V.r0 (V.a4 jhr e3 hpx e5) ?_
       exact ⟨m + 1, hm1, by omega, V.wk⟩
     ·have hq2 : ixl ns m = lastL ns := jdP (by rw [jau]; simp [lastL]) (by simpa using hq)
      have hq3 := jc9 ns hpos m hq2
      rw [jhH hm] at hq3
      have hq4 : m + 1 = PR ns := by omega
      rw [hq4]
      (conv => whnf)
      refine V.st ?_
      rw [List.take_of_length_le (jhE _)]
      exact Fin.of rfl
theorem refine3_t (zs data : List Int) (out : Int) (ns : List Nat) (X Y : Nat → Nat → Tx) (W : Nat → Nat → Int) (hl : zs.length = 3) (hn : ns.length = 3) (h2 : ∀ n ∈ ns, 2 ≤ n ∧ n ≤ 9) (ho : 1 ≤ out ∧ out ≤ 4) (hc : cnP out ns 3 ≤ 4096)
  (gr : Called Tryz.prog 37 [.agg [.ints .i64 zs, .int .i64 out, .ints .i64 data]] (.int .i64 0))
  (ov : ∀ m i, m < PR ns → i < 3 → Called Tryz.prog 58 [.int .i64 ((pad4 (ixl ns m)).getD i 0), .int .i64 ((nz ns).getD i 0 - 1)] (.agg [.str (X m i).1, .str (X m i).2]))
  (ev : ∀ m, m < PR ns → Called Tryz.prog 15 [.agg [.ints .i64 zs, .int .i64 out, .ints .i64 data], .slf 2 3 (fun j => List.take 2 (List.drop (j * 2) [.str (X m 0).1, .str (X m 0).2, .str (X m 1).1, .str (X m 1).2, .str (X m 2).1, .str (X m 2).2]))] (.tup [.slf 2 out.toNat (fun j => List.take 2 (List.drop (j * 2) (wce (Y m) out.toNat))), .int .i64 0]))
  (nr : ∀ m j, m < PR ns → j < out.toNat → Called Tryz.prog 68 [.agg [.str (Y m j).1, .str (Y m j).2], .int .i64 65535] (.tup [.int .i64 (W m j), .int .i64 0])) :
  Called Tryz.prog 33 [.agg [.ints .i64 zs, .int .i64 out, .ints .i64 data], .ints .i64 (nz ns)] (.tup [.agg [.ints .i64 (nz ns), .int .i64 out, .ints .i64 (flat ns (fun m => (List.range out.toNat).map (W m)) (PR ns))], .int .i64 0]) := by
 have hlen : (nz ns).length = ns.length := by simp [nz]
 have hlz : (nz ns).length = 3 := by rw [hlen, hn]
 have hli : ((nz ns).length : Int) = 3 := by rw [hlz]; rfl
 have hz : ((zs.length : Nat) : Int) = 3 := by rw [hl]; rfl
 have h1 : 1 ≤ ns.length ∧ ns.length ≤ 4 := by omega
 have po := jea (nz ns)
 have cl := clone_c (nz ns) (by omega)
 have hcb := cnP_bd ho h2
 refine jaa tbOk 6 ⟨Tryz.func33, rfl, rfl, jhy rfl⟩ ?_
 (conv => whnf)
 refine V.r1 jhe gr ?_
 refine Cnd.split (CondB.mk (fun h => absurd h (by rw [hl, hlz]; simp)) (fun _ => ?_))
 refine V.r0 jhe ?_
 refine lp_go (ns.length) (fun k => True) (fun k => [(38, .int .i64 k), (7, .int .i64 (cnP out ns k))]) (fun k => []) V.wk ?_ ?_
 ·trivial
 intro k hk _
 have hck := hcb k
 have hck1 := hcb (k + 1)
 have hk9 : (4 : Int) * 9 ^ k ≤ 26244 := rpow9 k (by omega)
 (conv => whnf)
 refine V.st ?_
 refine Cnd.split (CondB.mk (fun h => ?_) (fun h => ?_))
 ·rw [hlen] at h
  simp only [decide_eq_true_eq] at h
  have hk1 : k < ns.length := by omega
  have hk91 : (4 : Int) * 9 ^ (k + 1) ≤ 26244 := rpow9 (k + 1) (by omega)
  obtain ⟨n, hnk⟩ : ∃ n, ns[k]? = some n := ⟨ns[k], List.getElem?_eq_getElem hk1⟩
  have hn0 := h2 n (List.mem_of_getElem? hnk)
  have en : (nz ns).getD k 0 = n := by simp [nz, List.getD_eq_getElem?_getD, hnk]
  have ec : cnP out ns (k + 1) = cnP out ns k * (n : Int) := by simp [cnP, List.getD_eq_getElem?_getD, hnk]
  rw [ec] at hck1
  refine V.r0 (V.a2 jhe en) ?_
  refine Cnd.split (CondB.mk (fun h => absurd h (by simp; omega)) (fun _ => ?_))
  (conv => whnf)
  (try simp only [jhe, en, ← ec])
  repeat ((first | refine V.s1 ?_); (try simp only [jhe, en, ← ec]))
  exact ⟨k + 1, ⟨by omega, trivial⟩, by omega, V.wk⟩
 ·rw [hlen] at h
  simp only [decide_eq_false_iff_not] at h
  have hk1 : k = 3 := by omega
  subst hk1
  clear hck hck1
  refine V.r0 jhe ?_
  refine Cnd.split (CondB.mk (fun h => absurd h (by simp; omega)) (fun _ => ?_))
  refine V.r0 jhe ?_
  refine ⟨(.take 0 (.take 2 (.take 3 (.ev (.cons 1 [3, 2] (.take 4 (.ev (.cons 5 [4, 3, 2] (.ev (.cons 6 [] (.done) (.nil))) (.nil)))) (.cons 5 [3, 2, 0] (.ev (.cons 1 [3, 2] (.take 4 (.ev (.cons 6 [] (.done) (.nil)))) (.nil))) (.nil))))))), [], ⟨by kernel_rfl, by kernel_rfl, by kernel_rfl, by kernel_rfl⟩, ?_⟩
  refine jac [(10, .box 10 0)] [(10, .box [.ints .i64 (nz ns), .int .i64 out, .nil])] ?_ ?_
  ·exact V.d1 jhe cl
  refine V.r1 jhe po ?_
  refine ⟨_, _, ⟨Tryz.func110, rfl, rfl, jhy rfl⟩, ?_⟩
  (conv => whnf)
  refine V.r0 @jhC ?_
  refine lp_go (ns.length) (fun k => True) (fun k => [(10, .int .i64 k)]) (fun k => [(122, .arr .i64 (pad4 ((lastL ns).take k)))]) V.wk ?_ ?_
  ·trivial
  intro k hk _
  (conv => whnf)
  refine V.st ?_
  refine Cnd.split (CondB.mk (fun h => ?_) (fun h => ?_))
  ·rw [hlen] at h
   simp only [decide_eq_true_eq] at h
   have hk1 : k < ns.length := by omega
   obtain ⟨n, hnk⟩ : ∃ n, ns[k]? = some n := ⟨ns[k], List.getElem?_eq_getElem hk1⟩
   have hn0 := h2 n (List.mem_of_getElem? hnk)
   have en : (nz ns).getD k 0 = n := by simp [nz, List.getD_eq_getElem?_getD, hnk]
   have hll : (lastL ns)[k]? = some ((n : Int) - 1) := by simp [lastL, hnk]
   have hp4 : (pad4 ((lastL ns).take k)).length = 4 := jap (by simp [lastL]; omega)
   have hps := jdO hll (by simp [lastL]; omega)
   refine V.r0 (V.a3 jhr en hps) ?_
   exact ⟨k + 1, ⟨by omega, trivial⟩, by omega, V.wk⟩
  ·rw [hlen] at h
   simp only [decide_eq_false_iff_not] at h
   have hk1 : k = ns.length := by omega
   subst hk1
   have e0 : (lastL ns).take ns.length = lastL ns := List.take_of_length_le (by simp [lastL])
   rw [e0]
   (conv => whnf)
   refine V.st ?_
   refine Lp.ghostBox 279 10 2 .i64 (by decide) (by decide) ?_
   (conv => whnf)
   have e1 := jfA h1 h2
   have hpos : ∀ n ∈ ns, 0 < n := fun n hn => by have := h2 n hn; omega
   refine jah (0) (fun k => k < PR ns) (fun k => PR ns - k) (fun k => []) (fun k => [(117, .lp none), (121, .arr .i64 (pad4 (ixl ns k))), (10, .box [.ints .i64 (nz ns), .int .i64 out, .osl 279 0 (flat ns (fun m => (List.range out.toNat).map (W m)) k).length]), (279, .arr .i64 (flat ns (fun m => (List.range out.toNat).map (W m)) k))]) ?_ ?_ ?_
   ·rw [e1]
    exact V.wk
   ·exact jdG hpos
   intro m hm
   have evm := ev m hm
   have hlm : ((List.range out.toNat).map (W m)).length = out.toNat := by simp
   have hp4 : (pad4 (ixl ns m)).length = 4 := jap (by rw [jau]; omega)
   have hp4l : (pad4 (lastL ns)).length = 4 := jap (by simp [lastL]; omega)
   have hfl : (flat ns (fun m => (List.range out.toNat).map (W m)) m).length ≤ 4 * m := flat_len (fun j hj => by simp; omega)
   have hPR := PR_le h1.2 h2
   have xb : ∀ i n, ns[i]? = some n → (0 ≤ (pad4 (ixl ns m)).getD i 0 ∧ (pad4 (ixl ns m)).getD i 0 ≤ 8) ∧ (2 ≤ (nz ns).getD i 0 ∧ (nz ns).getD i 0 ≤ 9) := by
    intro i n h
    have e := jfB ns m i n h
    have b := jdC hpos h e
    have b2 := h2 n (List.mem_of_getElem? h)
    have hi := (List.getElem?_eq_some_iff.1 h).1
    have e2 := jbl (k := ns.length) e hi (by rw [jau]; omega)
    rw [List.take_of_length_le (by rw [jau]; omega)] at e2
    rw [e2]
    simp [nz, List.getD_eq_getElem?_getD, h]
    simp at b
    omega
   have i69 := fun i (hi : i < 3) => ns.getElem?_eq_getElem (show i < ns.length by omega)
   refine V.r0 (V.a2 jhe hli) ?_
   refine jah (0 : Nat) (fun k => k ≤ 3) (fun k => 3 - k) (fun k => [(69, .int .i64 (k : Nat))]) (fun k => [(232, .box (preD (2 * k) [.str (X m 0).1, .str (X m 0).2, .str (X m 1).1, .str (X m 1).2, .str (X m 2).1, .str (X m 2).2]))]) ?_ ?_ ?_
   ·exact V.wk
   ·exact jhz _
   intro k hk
   have hk4 : k = 0 ∨ k = 1 ∨ k = 2 ∨ k = 3 := by omega
   rcases hk4 with e | e | e | e
   all_goals subst e
   ·simp only [k0]
    have c := ov m 0 hm (by omega)
    have xb0 := xb 0 _ (i69 0 (by omega))
    refine V.r1 (V.a2 jhe hli) c ?_
    exact ⟨1, by omega, by omega, V.wk⟩
   ·simp only [k1]
    have c := ov m 1 hm (by omega)
    have xb1 := xb 1 _ (i69 1 (by omega))
    refine V.r1 (V.a2 jhe hli) c ?_
    exact ⟨2, by omega, by omega, V.wk⟩
   ·simp only [k2]
    have c := ov m 2 hm (by omega)
    have xb2 := xb 2 _ (i69 2 (by omega))
    refine V.r1 (V.a2 jhe hli) c ?_
    exact ⟨3, by omega, by omega, V.wk⟩
   ·simp only [k3]
    refine V.r1 (V.a2 jhe hli) evm ?_
    obtain ⟨E, hE0, hEs, hEn, hEl⟩ : ∃ E : Nat → List Int, E 0 = flat ns (fun m => (List.range out.toNat).map (W m)) m ∧ (∀ k, k < out.toNat → E k ++ [W m k] = E (k + 1)) ∧ E out.toNat = flat ns (fun m => (List.range out.toNat).map (W m)) (m + 1) ∧ ∀ k, k ≤ out.toNat → (E k).length ≤ 30000 := by
     refine ⟨fun k => flat ns (fun m => (List.range out.toNat).map (W m)) m ++ ((List.range out.toNat).map (W m)).take k, by simp, fun k hk => ?_, ?_, fun k hk => ?_⟩
     ·show flat ns _ m ++ ((List.range out.toNat).map (W m)).take k ++ [W m k] = flat ns _ m ++ ((List.range out.toNat).map (W m)).take (k + 1)
      rw [jcY _ hk, List.append_assoc]
     ·show flat _ _ _ ++ _ = _
      rw [jes, List.take_of_length_le (by simp)]
     ·show (flat _ _ _ ++ _).length ≤ _
      rw [List.length_append, List.length_take]
      omega
    rw [← hE0]
    refine lp_go (out.toNat) (fun k => True) (fun k => [(96, .int .i64 k)]) (fun k => [(10, .box [.ints .i64 (nz ns), .int .i64 out, .osl 279 0 (E k).length]), (279, .arr .i64 (E k))]) V.wk ?_ ?_
    ·trivial
    intro k hk _
    (conv => whnf)
    refine V.st ?_
    refine Cnd.split (CondB.mk (fun h => ?_) (fun h => ?_))
    ·simp only [decide_eq_true_eq] at h
     have hk1 : k < out.toNat := by omega
     have e := wce_at (Y m) out.toNat k hk1
     have nrk := nr m k hm hk1
     have hEk := hEs k hk1
     have hEl1 := hEl k hk
     have hEl2 : (E k).length + 1 = (E (k + 1)).length := by rw [← hEk]; simp
     (conv => whnf)
     (try simp only [jhu, hEk, hEl2, ← List.length_append])
     repeat ((first | refine V.s1 ?_ | ((try ((with_reducible refine .ext ?_); (conv => whnf); (try simp only [jhu, hEk, hEl2, ← List.length_append]))); (with_reducible refine jab (r := ?_) ?_ ?_); rotate_left; (focus (first | exact (nrk))); (conv => whnf)) | ((simp only [e]); (conv => whnf))); (try simp only [jhu, hEk, hEl2, ← List.length_append]))
     exact ⟨k + 1, ⟨by omega, trivial⟩, by omega, V.wk⟩
    ·simp only [decide_eq_false_iff_not] at h
     have hk1 : k = out.toNat := by omega
     subst hk1
     rw [hEn]
     (conv => whnf)
     refine V.st ?_
     refine Cnd.split (CondB.mk (fun hq => ?_) (fun hq => ?_))
     ·have hq2 : ixl ns m ≠ lastL ns := fun e => by rw [e] at hq; simp at hq
      have hil := jau ns m
      have hll : (lastL ns).length = ns.length := by simp [lastL]
      (conv => whnf)
      refine V.st ?_
      rw [hlen]
      have e2 : (ixl ns m).take ns.length = ixl ns m := List.take_of_length_le (by omega)
      refine jah (ns.length) (fun k => (1 ≤ k ∧ k ≤ ns.length) ∧ (ixl ns m).drop k = (lastL ns).drop k) (fun k => k) (fun k => [(7, .int .i64 ((k : Int) - 1))]) (fun k => [(121, .arr .i64 (pad4 ((ixl ns m).take k)))]) ?_ ?_ ?_
      ·rw [e2]
       exact V.wk
      ·exact ⟨⟨h1.1, jhE _⟩, by rw [List.drop_of_length_le (by omega), List.drop_of_length_le (by omega)]⟩
      rintro p ⟨⟨hp1, hp2⟩, hp3⟩
      obtain ⟨p, rfl⟩ : ∃ q, p = q + 1 := ⟨p - 1, by omega⟩
      obtain ⟨x, hx⟩ : ∃ x, (ixl ns m)[p]? = some x := ⟨_, List.getElem?_eq_getElem (by omega)⟩
      obtain ⟨n, hn⟩ : ∃ n, ns[p]? = some n := ⟨ns[p], List.getElem?_eq_getElem (by omega)⟩
      have hpx := jbl hx (by omega : p < p + 1) (by omega)
      have hpl : (lastL ns)[p]? = some ((n : Int) - 1) := by simp [lastL, hn]
      have hpl2 := jbl (k := 4) hpl (by omega) (by omega)
      rw [List.take_of_length_le (by omega)] at hpl2
      have hp5 : (pad4 ((ixl ns m).take (p + 1))).length = 4 := jap (by simp; omega)
      have e3 : ((p + 1 : Nat) : Int) - 1 = (p : Int) := by omega
      have e4 := jc8 hx (by omega)
      (conv => whnf)
      refine V.st ?_
      refine ⟨(.take 0 (.take 1 (.take 2 (.take 3 (.take 4 (.take 5 (.take 6 (.done)))))))), [], ⟨by kernel_rfl, by kernel_rfl, by kernel_rfl, by kernel_rfl⟩, .go (jag ?_)⟩
      refine V.r0 (V.a4 jhr e3 hpx hpl2) ?_
      refine Cnd.split (CondB.mk (fun hc => ?_) (fun hc => ?_))
      ·simp only [decide_eq_true_eq] at hc
       have hd : (ixl ns m).drop p = (lastL ns).drop p := by
        rw [List.drop_eq_getElem_cons (by omega : p < (ixl ns m).length), List.drop_eq_getElem_cons (by omega : p < (lastL ns).length), hp3, (List.getElem?_eq_some_iff.1 hx).2, (List.getElem?_eq_some_iff.1 hpl).2, hc]
       have hp0 : 1 ≤ p := by
        rcases jhF p with e | e
        ·subst e; exact absurd (by simpa using hd) hq2
        ·exact e
       refine V.r0 (V.a3 jhr e3 e4) ?_
       exact ⟨p, ⟨⟨hp0, by omega⟩, hd⟩, by omega, V.wk⟩
      ·simp only [decide_eq_false_iff_not] at hc
       have hsu := jdS ns hpos m p n hn x hx (by rw [hp3]; simp [lastL]) hc
       have e5 := jcp (y := x + 1) hx (by omega) (by omega : (ixl ns m).length ≤ 4)
       rw [hil, ← hsu] at e5
       have hxb := jdC hpos hn hx
       have hnb := h2 n (List.mem_of_getElem? hn)
       have hm1 : m + 1 < PR ns := by
        rcases jhK (m + 1) (PR ns) with e | e
        ·exact e
        ·exfalso
         exact hq2 (jdc ns hpos m (by rw [jhH hm]; omega))
       refine V.r0 (V.a4 jhr e3 hpx e5) ?_
       exact ⟨m + 1, hm1, by omega, V.wk⟩
     ·have hq2 : ixl ns m = lastL ns := jdP (by rw [jau]; simp [lastL]) (by simpa using hq)
      have hq3 := jc9 ns hpos m hq2
      rw [jhH hm] at hq3
      have hq4 : m + 1 = PR ns := by omega
      rw [hq4]
      (conv => whnf)
      refine V.st ?_
      rw [List.take_of_length_le (jhE _)]
      exact Fin.of rfl
theorem jhi : type_of% @jhC ∧ type_of% @tn0 ∧ type_of% @tn1 ∧ type_of% @tn2 ∧ type_of% @tn3 ∧ type_of% @xt4 := ⟨@jhC, @tn0, @tn1, @tn2, @tn3, @xt4⟩
theorem wakes_t (Q : Nat → Tx)
  (o0 : Called Tryz.prog 18 [.int .i64 1, .int .i64 2] (.agg [.str (Q 0).1, .str (Q 0).2]))
  (o1 : Called Tryz.prog 18 [.int .i64 1, .int .i64 4] (.agg [.str (Q 1).1, .str (Q 1).2]))
  (o2 : Called Tryz.prog 18 [.int .i64 7, .int .i64 20] (.agg [.str (Q 2).1, .str (Q 2).2]))
  (o3 : Called Tryz.prog 18 [.int .i64 3, .int .i64 10] (.agg [.str (Q 3).1, .str (Q 3).2]))
  (o4 : Called Tryz.prog 18 [.int .i64 1, .int .i64 1] (.agg [.str (Q 4).1, .str (Q 4).2]))
  (o5 : Called Tryz.prog 18 [.int .i64 2, .int .i64 1] (.agg [.str (Q 5).1, .str (Q 5).2]))
  (fo : Called Tryz.prog 31 [] (.agg [.ints .i64 [2, 2], .int .i64 1, .ints .i64 [0, 13107, 26214, 65535]]))
  (ce : Called Tryz.prog 17 [.agg [.ints .i64 [2, 2], .int .i64 1, .ints .i64 [0, 13107, 26214, 65535]], .slf 2 2 (fun j => List.take 2 (List.drop (j * 2) [.str (Q 0).1, .str (Q 0).2, .str (Q 1).1, .str (Q 1).2]))] (.tup [.ints .i64 [0, 0], .ints .i64 [0, 1], .slf 2 3 (fun j => List.take 2 (List.drop (j * 2) [.str (Q 0).1, .str (Q 0).2, .str (Q 1).1, .str (Q 1).2, .str (Q 1).1, .str (Q 1).2])), .int .i64 0]))
  (st : Called Tryz.prog 32 [.agg [.ints .i64 [2, 2], .int .i64 1, .ints .i64 [0, 13107, 26214, 65535]]] (.tup [.slf 1 1 (fun j => List.take 1 (List.drop (j * 1) [.ints .i64 [52428, 39321]])), .int .i64 0]))
  (b1 : Called Tryz.prog 29 [.agg [.ints .i64 [2, 2], .int .i64 1, .ints .i64 [0, 13107, 26214, 65535]], .slf 2 2 (fun j => List.take 2 (List.drop (j * 2) [.int .i64 500000000000, .int .i64 500000000000, .int .i64 250000000000, .int .i64 250000000000]))] (.tup [.slf 2 1 (fun j => List.take 2 (List.drop (j * 2) [.int .i64 350000000000, .int .i64 350000000000])), .int .i64 0]))
  (b2 : Called Tryz.prog 29 [.agg [.ints .i64 [2, 2], .int .i64 1, .ints .i64 [0, 13107, 26214, 65535]], .slf 2 2 (fun j => List.take 2 (List.drop (j * 2) [.int .i64 250000000000, .int .i64 750000000000, .int .i64 250000000000, .int .i64 250000000000]))] (.tup [.slf 2 1 (fun j => List.take 2 (List.drop (j * 2) [.int .i64 150000000000, .int .i64 550000000000])), .int .i64 0]))
  (re : Called Tryz.prog 33 [.agg [.ints .i64 [2, 2], .int .i64 1, .ints .i64 [0, 13107, 26214, 65535]], .ints .i64 [3, 2]] (.tup [.agg [.ints .i64 [3, 2], .int .i64 1, .ints .i64 [0, 13107, 13107, 39321, 26214, 65535]], .int .i64 0]))
  (ee : Called Tryz.prog 15 [.agg [.ints .i64 [2, 2], .int .i64 1, .ints .i64 [0, 13107, 26214, 65535]], .slf 2 1 (fun j => List.take 2 (List.drop (j * 2) [.str (Q 0).1, .str (Q 0).2]))] (.tup [.nil, .int .i64 2]))
  (v0 : Called Tryz.prog 26 [.agg [.ints .i64 [2, 2], .int .i64 1, .ints .i64 [0, 13107, 26214, 65535]], .agg [.str (Q 2).1, .str (Q 2).2], .slf 2 2 (fun j => List.take 2 (List.drop (j * 2) [.str (Q 0).1, .str (Q 0).2, .str (Q 1).1, .str (Q 1).2]))] (.bool true))
  (v1 : Called Tryz.prog 26 [.agg [.ints .i64 [2, 2], .int .i64 1, .ints .i64 [0, 13107, 26214, 65535]], .agg [.str (Q 3).1, .str (Q 3).2], .slf 2 2 (fun j => List.take 2 (List.drop (j * 2) [.str (Q 1).1, .str (Q 1).2, .str (Q 0).1, .str (Q 0).2]))] (.bool true))
  (v2 : Called Tryz.prog 26 [.agg [.ints .i64 [2, 2], .int .i64 1, .ints .i64 [0, 13107, 26214, 65535]], .agg [.str (Q 4).1, .str (Q 4).2], .slf 2 2 (fun j => List.take 2 (List.drop (j * 2) [.str (Q 5).1, .str (Q 5).2, .str (Q 4).1, .str (Q 4).2]))] (.bool true)) :
  Called Tryz.prog 10 [] (.bool true) := by
 have q0 := jdu [0, 0] [0, 0] (by decide) (by decide)
 have q1 := jdu [0, 1] [0, 1] (by decide) (by decide)
 have q2 := jdu [52428, 39321] [52428, 39321] (by decide) (by decide)
 have q3 := jdu [0, 13107, 13107, 39321, 26214, 65535] [0, 13107, 13107, 39321, 26214, 65535] (by decide) (by decide)
 have f3 := eqf3 (fun k => if k = 0 then Q 0 else Q 1)
 have g1 := eqb1 (fun _ => (350000000000, 350000000000))
 have g2 := eqb1 (fun _ => (150000000000, 550000000000))
 refine jaa tbOk 6 ⟨Tryz.func10, rfl, rfl, jhy rfl⟩ ?_
 (conv => whnf)
 (conv => whnf)
 (try simp only [jhi])
 repeat ((first | refine V.s1 ?_ | ((try ((with_reducible refine .ext ?_); (conv => whnf); (try simp only [jhi]))); (with_reducible refine jab (r := ?_) ?_ ?_); rotate_left; (focus (first | exact (o0) | exact (o1) | exact (o2) | exact (o3) | exact (o4) | exact (o5) | exact (fo) | exact (ce) | exact (st) | exact (b1) | exact (b2) | exact (re) | exact (ee) | exact (v0) | exact (v1) | exact (v2) | exact (q0) | exact (q1) | exact (q2) | exact (q3) | exact (f3) | exact (g1) | exact (g2))); (conv => whnf))); (try simp only [jhi]))
 refine ⟨(.take 0 (.ev (.cons 1 [0] (.ev (.cons 2 [0] (.ev (.cons 3 [0] (.ev (.cons 4 [] (.take 5 (.take 6 (.take 7 (.take 8 (.take 9 (.take 10 (.take 11 (.take 12 (.take 13 (.done)))))))))) (.nil))) (.nil))) (.nil))) (.nil)))), [], ⟨by kernel_rfl, by kernel_rfl, by kernel_rfl, by kernel_rfl⟩, ?_⟩
 refine jac [(2, .ints .i64 [0, 0]), (3, .ints .i64 [0, 1]), (4, .slf 2 3 (fun j => List.take 2 (List.drop (j * 2) [.str (Q 0).1, .str (Q 0).2, .str (Q 1).1, .str (Q 1).2, .str (Q 1).1, .str (Q 1).2]))), (5, .int .i64 0)] [] ?_ ?_
 ·exact V.d3 jhi o0 o1 ce
 (conv => whnf)
 (try simp only [jhi])
 repeat ((first | refine V.s1 ?_ | ((try ((with_reducible refine .ext ?_); (conv => whnf); (try simp only [jhi]))); (with_reducible refine jab (r := ?_) ?_ ?_); rotate_left; (focus (first | exact (o0) | exact (o1) | exact (o2) | exact (o3) | exact (o4) | exact (o5) | exact (fo) | exact (ce) | exact (st) | exact (b1) | exact (b2) | exact (re) | exact (ee) | exact (v0) | exact (v1) | exact (v2) | exact (q0) | exact (q1) | exact (q2) | exact (q3) | exact (f3) | exact (g1) | exact (g2))); (conv => whnf))); (try simp only [jhi]))
 refine ⟨(.take 0 (.ev (.cons 1 [0] (.ev (.cons 2 [0] (.ev (.cons 3 [] (.take 4 (.take 5 (.take 6 (.take 7 (.take 8 (.done)))))) (.nil))) (.nil))) (.nil)))), [], ⟨by kernel_rfl, by kernel_rfl, by kernel_rfl, by kernel_rfl⟩, ?_⟩
 refine jac [(17, .int .i64 2)] [] ?_ ?_
 ·exact V.d3 jhi o0 o1 ee
 (conv => whnf)
 (try simp only [jhi])
 repeat ((first | refine V.s1 ?_ | ((try ((with_reducible refine .ext ?_); (conv => whnf); (try simp only [jhi]))); (with_reducible refine jab (r := ?_) ?_ ?_); rotate_left; (focus (first | exact (o0) | exact (o1) | exact (o2) | exact (o3) | exact (o4) | exact (o5) | exact (fo) | exact (ce) | exact (st) | exact (b1) | exact (b2) | exact (re) | exact (ee) | exact (v0) | exact (v1) | exact (v2) | exact (q0) | exact (q1) | exact (q2) | exact (q3) | exact (f3) | exact (g1) | exact (g2))); (conv => whnf))); (try simp only [jhi]))
 refine ⟨(.take 0 (.ev (.cons 1 [0] (.ev (.cons 2 [] (.take 3 (.take 4 (.ev (.cons 5 [4] (.ev (.cons 6 [] (.take 7 (.take 8 (.take 9 (.ev (.cons 10 [9] (.ev (.cons 11 [9] (.ev (.cons 12 [9] (.ev (.cons 13 [9] (.ev (.cons 14 [] (.take 15 (.take 16 (.take 17 (.ev (.cons 18 [17] (.ev (.cons 19 [17] (.ev (.cons 20 [17] (.ev (.cons 21 [17] (.ev (.cons 22 [] (.take 23 (.take 24 (.take 25 (.ev (.cons 26 [25] (.ev (.cons 27 [25] (.ev (.cons 28 [25] (.ev (.cons 29 [25] (.ev (.cons 30 [] (.take 31 (.take 32 (.take 33 (.ev (.cons 34 [33] (.ev (.cons 35 [33] (.ev (.cons 36 [33] (.ev (.cons 37 [33] (.ev (.cons 38 [] (.take 39 (.take 40 (.take 41 (.take 42 (.take 43 (.ev (.cons 44 [43, 42, 41] (.ev (.cons 45 [] (.take 46 (.take 47 (.take 48 (.take 49 (.ev (.cons 50 [48] (.ev (.cons 51 [] (.take 52 (.take 53 (.take 54 (.take 55 (.ev (.cons 56 [54] (.ev (.cons 57 [] (.take 58 (.take 59 (.take 60 (.take 61 (.ev (.cons 62 [61, 60] (.ev (.cons 63 [] (.take 64 (.take 65 (.done))) (.nil))) (.nil))))))) (.nil))) (.nil))))))) (.nil))) (.nil))))))) (.nil))) (.nil)))))))) (.nil))) (.nil))) (.nil))) (.nil))) (.nil)))))) (.nil))) (.nil))) (.nil))) (.nil))) (.nil)))))) (.nil))) (.nil))) (.nil))) (.nil))) (.nil)))))) (.nil))) (.nil))) (.nil))) (.nil))) (.nil)))))) (.nil))) (.nil))))) (.nil))) (.nil)))), [], ⟨by kernel_rfl, by kernel_rfl, by kernel_rfl, by kernel_rfl⟩, ?_⟩
 refine jac [(0, .bool true)] [] ?_ ?_
 ·(conv => whnf); (try simp only [jhi])
  repeat' (first | exact V.wk | ((with_reducible refine And.intro ?_ jaB); (conv => whnf); (try simp only [jhi])) | ((with_reducible first | refine jav ?_ ?_ | refine jaz ?_ ?_) <;> (conv => whnf); (try simp only [jhi])) | ((first | refine V.s1 ?_ | ((with_reducible refine jao ?_ ?_); (focus ((conv => whnf); (try simp only [jhi]); (repeat ((first | refine V.s1 ?_); (try simp only [jhi]))); exact ⟨rfl⟩)); (conv => whnf)) | ((try ((with_reducible refine .ext ?_); (conv => whnf); (try simp only [jhi]))); (with_reducible refine jab (r := ?_) ?_ ?_); rotate_left; (focus (first | exact (o0) | exact (o1) | exact (o2) | exact (o3) | exact (o4) | exact (o5) | exact (fo) | exact (ce) | exact (st) | exact (b1) | exact (b2) | exact (re) | exact (ee) | exact (v0) | exact (v1) | exact (v2) | exact (q0) | exact (q1) | exact (q2) | exact (q3) | exact (f3) | exact (g1) | exact (g2))); (conv => whnf))); (try simp only [jhi])) | (refine And.intro ?_ ?_ <;> (conv => whnf); (try simp only [jhi])))
 refine V.r0 jhi ?_
 exact Fin.of rfl
end Go.Proofs.YtgjgpdceghjajaaGreatDoor
end
section
namespace Go.Proofs.YtgjgpdceghjajaaGreatDoor
open Go Go.V Go.Nb
def fl (q : Rat) : Int := q.num / (q.den : Int)
end Go.Proofs.YtgjgpdceghjajaaGreatDoor
end
