/- What functions of the program answer at given values, part 23. Conditions: those that each theorem names. -/
import Derived.Test.YtgjgpdceghjajaaGreatDoorSimplexRefinedH22
import Derived.Test.YtgjgpdceghjajaaGreatDoorSimplexRefinedH20
import Derived.Test.YtgjgpdceghjajaaGreatDoorSimplexRefinedH18
import Derived.Lib.BitFns
import Derived.Laws.Bits64b
import Derived.Test.YtgjgpdceghjajaaGreatDoorSimplexRefinedH14
import Derived.Lib.LaidTab
import Derived.Stop.LaidErr
import Derived.LaidMore
import Derived.Test.YtgjgpdceghjajaaGreatDoorSimplexRefinedH13
set_option linter.unusedSimpArgs false
set_option linter.unusedVariables false
set_option maxHeartbeats 8000000
set_option maxRecDepth 100000
section
namespace Go.Proofs.YtgjgpdceghjajaaGreatDoor
open Go Go.V Go.Nb
def mx : List Int → Int
 | [] => 0
 | x :: xs => xs.foldl max x
theorem jfp {op : Int → Int → Int} {x : Int} {xs : List Int} {k : Nat} (h : k < xs.length) : (xs.take (k + 1)).foldl op x = op ((xs.take k).foldl op x) (xs.getD k 0) := by
 rw [ji9, List.foldl_append, jiJ, jiM h]
 rfl
theorem zC3_0 : type_of% @List.getD_cons_succ.{0} ∧ type_of% @jiY := ⟨@List.getD_cons_succ.{0}, @jiY⟩
theorem minS_c (x : Int) (xs : List Int) (hl : xs.length < 1000) : Called Tryz.prog 199 [.ints .i64 (x :: xs)] (.int .i64 (xs.foldl min x)) := by
 refine V.en tbOk Tryz.func199 ?_
 (conv => whnf)
 refine V.st ?_
 refine V.br (fun h0 => ?_) (fun h0 => ?_)
 ·rw [decide_eq_true_eq, jiY] at h0
  omega
 ·refine V.r0 @jiY ?_
  refine jac (0 : Nat) (fun k => k ≤ xs.length) (fun k => xs.length - k) (fun k => [(4, .int .i64 ((k + 1 : Nat) : Int)), (3, .int .i64 ((xs.take k).foldl min x))]) (fun _ => []) ?_ ?_ ?_
  ·exact V.wk
  ·exact jib _
  intro k hk
  have hkc : (((k + 1 : Nat) : Int) + 1) = ((k + 1 + 1 : Nat) : Int) := by omega
  have hi : ((k + 1 : Nat) : Int).toNat = k + 1 := by omega
  refine V.r0 (V.a3 zC3_0 hkc @hi) ?_
  refine V.br (fun hq => ?_) (fun hq => ?_)
  ·rw [decide_eq_true_eq] at hq
   have ht := jfp (op := min) (x := x) (xs := xs) (k := k) (by omega)
   refine V.r0 (V.a3 zC3_0 hkc @hi) ?_
   refine ⟨k + 1, by omega, by omega, ?_⟩
   rw [ht]
   exact V.wk
  ·rw [decide_eq_false_iff_not] at hq
   have hk2 : k = xs.length := by omega
   refine V.r0 (V.a2 hk2 @jja) ?_
   exact Fin.of rfl
theorem maxS_c (x : Int) (xs : List Int) (hl : xs.length < 1000) : Called Tryz.prog 200 [.ints .i64 (x :: xs)] (.int .i64 (xs.foldl max x)) := by
 refine V.en tbOk Tryz.func200 ?_
 (conv => whnf)
 refine V.st ?_
 refine V.br (fun h0 => ?_) (fun h0 => ?_)
 ·rw [decide_eq_true_eq, jiY] at h0
  omega
 ·refine V.r0 @jiY ?_
  refine jac (0 : Nat) (fun k => k ≤ xs.length) (fun k => xs.length - k) (fun k => [(4, .int .i64 ((k + 1 : Nat) : Int)), (3, .int .i64 ((xs.take k).foldl max x))]) (fun _ => []) ?_ ?_ ?_
  ·exact V.wk
  ·exact jib _
  intro k hk
  have hkc : (((k + 1 : Nat) : Int) + 1) = ((k + 1 + 1 : Nat) : Int) := by omega
  have hi : ((k + 1 : Nat) : Int).toNat = k + 1 := by omega
  refine V.r0 (V.a3 zC3_0 hkc @hi) ?_
  refine V.br (fun hq => ?_) (fun hq => ?_)
  ·rw [decide_eq_true_eq] at hq
   have ht := jfp (op := max) (x := x) (xs := xs) (k := k) (by omega)
   refine V.r0 (V.a3 zC3_0 hkc @hi) ?_
   refine ⟨k + 1, by omega, by omega, ?_⟩
   rw [ht]
   exact V.wk
  ·rw [decide_eq_false_iff_not] at hq
   have hk2 : k = xs.length := by omega
   refine V.r0 (V.a2 hk2 @jja) ?_
   exact Fin.of rfl
theorem least_c (x : Int) (xs : List Int) (hl : xs.length < 1000) : Called Tryz.prog 172 [.ints .i64 (x :: xs)] (.int .i64 (xs.foldl min x)) := by
 have h := minS_c x xs hl
 refine V.en tbOk Tryz.func172 ?_
 (conv => whnf)
 refine V.st ?_
 repeat ((try ((with_reducible refine .ext ?_); (conv => whnf))); (with_reducible refine jaa (r := ?_) ?_ ?_); rotate_left; (focus (first | exact (h))); (conv => whnf); refine V.st ?_)
 exact Fin.of rfl
theorem greatest_c (x : Int) (xs : List Int) (hl : xs.length < 1000) : Called Tryz.prog 173 [.ints .i64 (x :: xs)] (.int .i64 (xs.foldl max x)) := by
 have h := maxS_c x xs hl
 refine V.en tbOk Tryz.func173 ?_
 (conv => whnf)
 refine V.st ?_
 repeat ((try ((with_reducible refine .ext ?_); (conv => whnf))); (with_reducible refine jaa (r := ?_) ?_ ?_); rotate_left; (focus (first | exact (h))); (conv => whnf); refine V.st ?_)
 exact Fin.of rfl
theorem of_b (p q : Int) : Called Tryz.prog 104 [.int .i64 p, .int .i64 q] (bD (if vb p q = true then (p, q, 0) else (0, 0, 30))) := by
 have h := jcu p q
 generalize vb p q = v at *
 refine V.en tbOk Tryz.func104 ?_
 (conv => whnf)
 refine V.st ?_
 repeat ((try ((with_reducible refine .ext ?_); (conv => whnf))); (with_reducible refine jaa (r := ?_) ?_ ?_); rotate_left; (focus (first | exact (h))); (conv => whnf); refine V.st ?_)
 refine V.br (fun hq => ?_) (fun hq => ?_)
 ·simp at hq
  subst hq
  (conv => whnf)
  refine V.st ?_
  exact Fin.of rfl
 ·simp at hq
  subst hq
  (conv => whnf)
  refine V.st ?_
  exact Fin.of rfl
theorem near_f (s t : List UInt8) (sc : Nat) (h : okP s t = true) (h1 : 1 ≤ sc) (h2 : sc ≤ 1000000000000) (hz : -9223372036854775808 ≤ nearZ (qv s t) sc ∧ nearZ (qv s t) sc ≤ 9223372036854775807) :
  Called Tryz.prog 68 [.agg [.str s, .str t], .int .i64 sc] (.tup [.int .i64 (nearZ (qv s t) sc), .int .i64 0]) := by
 have r1 := jbm s t h
 have q1 := jf0 h
 have f1 := jc6 sc (by omega)
 have lsc : (mg 1000000000 sc).length ≤ 2 := jav (by omega) (by omega)
 have n1 := near_r (qv s t) sc (q1.1.mono (by omega)) (jiq q1.2 (by omega)) (by omega)
 clear q1
 generalize nearZ (qv s t) sc = z at *
 have lz : (mg 1000000000 z.natAbs).length ≤ 3 := jav (by omega) (by omega)
 have x1 := jhv z (by omega)
 have i1 := int_c z hz.1 hz.2
 clear lz lsc
 unfold rtD at *
 refine V.en tbOk Tryz.func68 ?_
 (conv => whnf)
 refine V.st ?_
 repeat ((try ((with_reducible refine .ext ?_); (conv => whnf))); (with_reducible refine jaa (r := ?_) ?_ ?_); rotate_left; (focus (first | exact (r1))); (conv => whnf); refine V.st ?_)
 refine V.br (fun g1 => ?_) (fun g1 => ?_)
 ·simp at g1
  omega
 ·(conv => whnf)
  refine V.st ?_
  refine ⟨(V.tk [0,1,2] (V.e1 3 [0] (V.e1 4 [] (V.e1 5 [] (V.e1 6 [] (V.tk [7,8,9,10,11] .done)))))), [], V.pok, .go (jad ?_)⟩
  (conv => whnf)
  refine V.st ?_
  repeat ((try ((with_reducible refine .ext ?_); (conv => whnf))); (with_reducible refine jaa (r := ?_) ?_ ?_); rotate_left; (focus (first | exact (f1) | exact (n1) | exact (x1) | exact (i1))); (conv => whnf); refine V.st ?_)
  exact Fin.of rfl
theorem okP_dec_o {q : Rat} (h : okF q = true) : okP (decZ q.num) (dec q.den) = true ∧ qv (decZ q.num) (dec q.den) = q := by
 unfold okF at h
 simp only [jh9, decide_eq_true_eq] at h
 have hdz : dec q.den = decZ (q.den : Int) := by unfold decZ; rw [if_neg (by omega), jix]
 have w1 : wval (decZ q.num) = q.num := jbt _
 have w2 : wval (dec q.den) = (q.den : Int) := by rw [hdz]; exact jbt _
 have o1 := jcj q.num h.1
 have o2 : okW (dec q.den) = true := by rw [hdz]; exact jcj _ (by rw [jix]; exact h.2)
 have hp := q.den_pos
 constructor
 ·unfold okP
  rw [o1, o2, w1, w2]
  simp only [jh9, decide_eq_true_eq, Bool.true_and, jix]
  exact ⟨by omega, q.reduced⟩
 ·unfold qv
  rw [w1, w2]
  exact jiH q
theorem okF_small {q : Rat} (h1 : q.num.natAbs < 10 ^ 20) (h2 : q.den < 10 ^ 20) : okF q = true := by
 unfold okF
 simp only [jh9, decide_eq_true_eq]
 exact ⟨jiq (jbn 20 _ (by omega) h1).1 (by omega), jiq (jbn 20 _ (by omega) h2).1 (by omega)⟩
theorem divInt_le (n : Int) (d : Nat) (hd : 0 < d) : (Rat.divInt n d).num.natAbs ≤ n.natAbs ∧ (Rat.divInt n d).den ≤ d := by
 obtain ⟨h1, _, h3⟩ := jcH n d hd
 rw [h1, h3]
 exact ⟨jiz _ _, jiz _ _⟩
theorem okF_unit (n : Int) (h : -9223372036854775808 ≤ n ∧ n ≤ 9223372036854775807) : okF (Rat.divInt n 1000000000000) = true := by
 have := divInt_le n 1000000000000 (by omega)
 have e : Rat.divInt n 1000000000000 = Rat.divInt n ((1000000000000 : Nat) : Int) := rfl
 rw [e]
 refine okF_small ?_ ?_
 ·exact Nat.lt_of_le_of_lt this.1 (by omega)
 ·exact Nat.lt_of_le_of_lt this.2 (by omega)
def unit (n : Int) : Rat := Rat.divInt n 1000000000000
theorem of_unit (n : Int) (h : -9223372036854775808 ≤ n ∧ n ≤ 9223372036854775807) : Called Tryz.prog 97 [.int .i64 n, .int .i64 1000000000000] (.tup [.agg [.str (decZ (unit n).num), .str (dec (unit n).den)], .int .i64 0]) := by
 have h1 := of_c n 1000000000000 (by simp only [InR, V.lo, V.hi]; omega) (by constructor <;> decide) (by decide)
 have h2 := okF_unit n h
 unfold frR at h1
 rw [h2] at h1
 exact h1
def jc8 (x : Rat) : Int × Int × Int := if vb (nearZ x 1000000000000) (nearZ x 1000000000000) = true then mk (nearZ x 1000000000000 + min (ordQ x (unit (nearZ x 1000000000000))) 0) (nearZ x 1000000000000 + max (ordQ x (unit (nearZ x 1000000000000))) 0) else (0, 0, 6)
theorem ordQ_r (x y : Rat) : -1 ≤ ordQ x y ∧ ordQ x y ≤ 1 := by
 unfold ordQ; split
 ·omega
 ·split <;> omega
theorem around_b (s t : List UInt8) (h : okP s t = true) (hz : -9223372036854775808 ≤ nearZ (qv s t) 1000000000000 ∧ nearZ (qv s t) 1000000000000 ≤ 9223372036854775807) :
  Called Tryz.prog 102 [.agg [.str s, .str t]] (bD (jc8 (qv s t))) := by
 have n1 := near_f s t 1000000000000 h (by omega) (by omega) hz
 unfold jc8
 generalize nearZ (qv s t) 1000000000000 = n at *
 have o1 := of_unit n hz
 obtain ⟨p1, p2⟩ := okP_dec_o (okF_unit n hz)
 have c1 := fcmp_ok s t (decZ (unit n).num) (dec (unit n).den) h p1
 rw [show qv (decZ (unit n).num) (dec (unit n).den) = unit n from p2] at c1
 have hr := ordQ_r (qv s t) (unit n)
 generalize ordQ (qv s t) (unit n) = o at *
 generalize decZ (unit n).num = u at *
 generalize dec (unit n).den = v at *
 clear p1 p2 h
 have v1 := jcu n n
 have m1 := made_b (n + min o 0) (n + max o 0)
 by_cases hv : vb n n = true
 ·rw [if_pos hv]
  rw [hv] at v1
  have hb := jbw.1 hv
  generalize mk (n + min o 0) (n + max o 0) = r at *
  refine V.en tbOk Tryz.func102 ?_
  (conv => whnf)
  refine V.st ?_
  repeat ((try ((with_reducible refine .ext ?_); (conv => whnf))); (with_reducible refine jaa (r := ?_) ?_ ?_); rotate_left; (focus (first | exact (n1) | exact (o1) | exact (c1) | exact (v1) | exact (m1))); (conv => whnf); refine V.st ?_)
  exact Fin.of rfl
 ·rw [if_neg hv]
  rw [Bool.eq_false_iff.2 hv] at v1
  refine V.en tbOk Tryz.func102 ?_
  (conv => whnf)
  refine V.st ?_
  repeat ((try ((with_reducible refine .ext ?_); (conv => whnf))); (with_reducible refine jaa (r := ?_) ?_ ?_); rotate_left; (focus (first | exact (n1) | exact (o1) | exact (c1) | exact (v1))); (conv => whnf); refine V.st ?_)
  exact Fin.of rfl
def lw (a b c d : Int) : Nat → List Int
 | 0 => [0, 0, 0, 0]
 | 1 => [a, 0, 0, 0]
 | 2 => [a, b, 0, 0]
 | 3 => [a, b, c, 0]
 | _ => [a, b, c, d]
end Go.Proofs.YtgjgpdceghjajaaGreatDoor
end
section
namespace Go.Nb
structure Tr (B top v2 head u2 : Int) : Prop where
 hB : 2 ≤ B
 t1 : 1 ≤ top
 tB : top < B
 v0 : 0 ≤ v2
 vB : v2 < B
 u0 : 0 ≤ u2
 uB : u2 < B
 h0 : 0 ≤ head
 lt : head * B + u2 < B * (top * B + v2)
section
variable {B top v2 head u2 : Int}
theorem Tr.kn (T : Tr B top v2 head u2) : Kn B top v2 0 u2 0 head (head * B + u2) (top * B + v2) 1 :=
 { hB := T.hB, hP := by omega, ht := T.t1, hv := by omega, hu := by omega, v20 := T.v0, v2B := T.vB, u20 := T.u0, u2B := T.uB, vr0 := by omega, vrP := by omega, ur0 := by omega, urP := by omega, hh := T.h0, htB := T.tB, lt := T.lt }
theorem Tr.vpos (T : Tr B top v2 head u2) : 0 < top * B + v2 := T.kn.vpos
theorem Tr.qnn (T : Tr B top v2 head u2) : 0 ≤ (head * B + u2) / (top * B + v2) := by
 have h1 : 0 ≤ head * B := jie T.h0 (by have := T.hB; omega)
 exact Int.ediv_nonneg (by have := T.u0; omega) (by have := T.vpos; omega)
theorem Tr.qmul (T : Tr B top v2 head u2) : (head * B + u2) / (top * B + v2) * (top * B + v2) ≤ head * B + u2 := Int.ediv_mul_le _ (by have := T.vpos; omega)
theorem Tr.init (T : Tr B top v2 head u2) : (head * B + u2) / (top * B + v2) ≤ head / top := T.kn.init T.qnn T.qmul
theorem Tr.step (T : Tr B top v2 head u2) {q r : Int} (hq : (head * B + u2) / (top * B + v2) ≤ q) (hr : head = q * top + r) (hc : B ≤ q ∨ r * B + u2 < q * v2) :
  (head * B + u2) / (top * B + v2) ≤ q - 1 ∧ head = (q - 1) * top + (r + top) :=
 ⟨T.kn.step T.qnn T.qmul hq hr hc, by rw [Int.sub_mul, jiE]; omega⟩
theorem Tr.lt' (T : Tr B top v2 head u2) : (head * B + u2) / (top * B + v2) < B := T.kn.qlt T.qmul
end
structure Tq (B top v2 head u2 Q : Int) : Prop where
 T : Tr B top v2 head u2
 e : (head * B + u2) / (top * B + v2) = Q
section
variable {B top v2 head u2 Q : Int}
theorem Tq.init (T : Tq B top v2 head u2 Q) : Q ≤ head / top := by rw [← T.e]; exact T.T.init
theorem Tq.step (T : Tq B top v2 head u2 Q) {q r : Int} (hq : Q ≤ q) (hr : head = q * top + r) (hc : B ≤ q ∨ r * B + u2 < q * v2) : Q ≤ q - 1 ∧ head = (q - 1) * top + (r + top) := by
 rw [← T.e] at hq ⊢; exact T.T.step hq hr hc
theorem Tq.lt (T : Tq B top v2 head u2 Q) : Q < B := by rw [← T.e]; exact T.T.lt'
end
end Go.Nb
end
section
namespace Go.Proofs.YtgjgpdceghjajaaGreatDoor
open Go Go.V Go.Nb
theorem clamp_b (p q lo hi : Int) : Called Tryz.prog 57 [bA p q, .int .i64 lo, .int .i64 hi] (bD (if vb p q = true then (if vb lo hi = true then mk (min (max p lo) hi) (min (max q lo) hi) else (0, 0, 2)) else (0, 0, 30))) := by
 by_cases hv : vb p q = true
 ·rw [if_pos hv]
  have hc : Called Tryz.prog 94 [.ref [.int .i64 lo], .ref [.int .i64 hi], .ref [.int .i64 p, .int .i64 q]] (bD (if vb lo hi = true then mk (min (max p lo) hi) (min (max q lo) hi) else (0, 0, 2))) := by
   have hvl := jcu lo hi
   have hm := made_b (min (max p lo) hi) (min (max q lo) hi)
   generalize vb lo hi = v at *
   generalize mk (min (max p lo) hi) (min (max q lo) hi) = r at *
   refine V.en tbOk Tryz.func94 ?_
   (conv => whnf)
   refine V.st ?_
   repeat ((try ((with_reducible refine .ext ?_); (conv => whnf))); (with_reducible refine jaa (r := ?_) ?_ ?_); rotate_left; (focus (first | exact (hvl))); (conv => whnf); refine V.st ?_)
   refine V.br (fun hq => ?_) (fun hq => ?_)
   ·simp at hq
    subst hq
    (conv => whnf)
    refine V.st ?_
    exact Fin.of rfl
   ·simp at hq
    subst hq
    (conv => whnf)
    refine V.st ?_
    repeat ((try ((with_reducible refine .ext ?_); (conv => whnf))); (with_reducible refine jaa (r := ?_) ?_ ?_); rotate_left; (focus (first | exact (hm))); (conv => whnf); refine V.st ?_)
    exact Fin.of rfl
  generalize (if vb lo hi = true then mk (min (max p lo) hi) (min (max q lo) hi) else (0, 0, 2)) = r at *
  have hk := ckb3_ok 94 p q lo hi r.1 r.2.1 r.2.2 1 (l1 p q) (fun _ => p) (fun _ => q) (l1_c p q) (by omega) (fun _ _ => hv) hc
  refine V.en tbOk Tryz.func57 ?_
  (conv => whnf)
  refine V.st ?_
  repeat ((try ((with_reducible refine .ext ?_); (conv => whnf))); (with_reducible refine jaa (r := ?_) ?_ ?_); rotate_left; (focus (first | exact (hk))); (conv => whnf); refine V.st ?_)
  exact Fin.of rfl
 ·rw [if_neg hv]
  have hk := ckb3_no 94 p q lo hi 0 0 0 1 (l1 p q) (fun _ => p) (fun _ => q) (l1_c p q) (by omega) (one_no hv)
  refine V.en tbOk Tryz.func57 ?_
  (conv => whnf)
  refine V.st ?_
  repeat ((try ((with_reducible refine .ext ?_); (conv => whnf))); (with_reducible refine jaa (r := ?_) ?_ ?_); rotate_left; (focus (first | exact (hk))); (conv => whnf); refine V.st ?_)
  exact Fin.of rfl
theorem hull_b (p q p2 q2 : Int) : Called Tryz.prog 103 [bA p q, bA p2 q2] (bD (if vb p q = true ∧ vb p2 q2 = true then (if p = p2 ∧ q = q2 then (p, q, 0) else if max q q2 < min p p2 then (0, 0, 4) else (min p p2, max q q2, 0)) else (0, 0, 30))) := by
 have ch : Called Tryz.prog 139 [.int .i64 2, bA p q, bA p2 q2] (bD (if vb p q = true ∧ vb p2 q2 = true then (if p = p2 ∧ q = q2 then (p, q, 0) else if max q q2 < min p p2 then (0, 0, 4) else (min p p2, max q q2, 0)) else (0, 0, 30))) := by
  by_cases hv : vb p q = true ∧ vb p2 q2 = true
  ·rw [if_pos hv]
   have hc : Called Tryz.prog 171 [.ref [.int .i64 p, .int .i64 q], .ref [.int .i64 p2, .int .i64 q2], .ref [.int .i64 2]] (bD (if p = p2 ∧ q = q2 then (p, q, 0) else if max q q2 < min p p2 then (0, 0, 4) else (min p p2, max q q2, 0))) := by
    have k1 := least_c p [p2] (by simp)
    have k2 := greatest_c q [q2] (by simp)
    rw [show [p2].foldl min p = min p p2 from rfl] at k1
    rw [show [q2].foldl max q = max q q2 from rfl] at k2
    generalize min p p2 = lo at *
    generalize max q q2 = hi at *
    refine V.en tbOk Tryz.func171 ?_
    (conv => whnf)
    refine V.st ?_
    refine V.br (fun h1 => ?_) (fun h1 => ?_)
    ·simp only [Bool.and_true, jh9, decide_eq_true_eq] at h1
     rw [if_pos h1]
     (conv => whnf)
     refine V.st ?_
     exact Fin.of rfl
    ·rw [if_neg (fun h => by simp only [Bool.and_true, Bool.and_eq_false_iff, decide_eq_false_iff_not] at h1; omega)]
     (conv => whnf)
     refine V.st ?_
     refine ⟨(V.tk [0,1,2,3,4,5,8,9,10,11,12,13] (.ev (.cons 6 [13,12,11,10,9,8,1,0] (.ev (.cons 7 [13,12,11,10,9,8] (V.e1 14 [9,8] (V.e1 15 [] (V.tk [16,17] .done))) (.cons 14 [9,8,1,0] (V.e1 7 [9,8] (V.e1 15 [] (V.tk [16,17] .done))) .nil))) (.cons 14 [9,8,5,4,3,2,1,0] (V.e1 6 [9,8,1,0] (V.e1 7 [9,8] (V.e1 15 [] (V.tk [16,17] .done)))) .nil)))), [], V.pok, ?_⟩
     refine jab [(7, .int .i64 lo), (8, .int .i64 hi)] [] ?_ ?_
     ·exact V.d2 @jif k1 k2
     (conv => whnf)
     refine V.st ?_
     refine V.br (fun h2 => ?_) (fun h2 => ?_)
     ·rw [decide_eq_true_eq] at h2
      rw [if_pos h2]
      (conv => whnf)
      refine V.st ?_
      exact Fin.of rfl
     ·rw [decide_eq_false_iff_not] at h2
      rw [if_neg h2]
      (conv => whnf)
      refine V.st ?_
      exact Fin.of rfl
   generalize (if p = p2 ∧ q = q2 then (p, q, (0 : Int)) else if max q q2 < min p p2 then (0, 0, 4) else (min p p2, max q q2, 0)) = r at *
   have hk := ckb4_ok 171 p q p2 q2 2 r.1 r.2.1 r.2.2 2 (l2 p q p2 q2) (sel_o p p2) (sel_o q q2) (l2_c p q p2 q2) (by omega) (sel_ok hv.1 hv.2) hc
   refine V.en tbOk Tryz.func139 ?_
   (conv => whnf)
   refine V.st ?_
   repeat ((try ((with_reducible refine .ext ?_); (conv => whnf))); (with_reducible refine jaa (r := ?_) ?_ ?_); rotate_left; (focus (first | exact (hk))); (conv => whnf); refine V.st ?_)
   exact Fin.of rfl
  ·rw [if_neg hv]
   have hk := ckb4_no 171 p q p2 q2 2 0 0 0 2 (l2 p q p2 q2) (sel_o p p2) (sel_o q q2) (l2_c p q p2 q2) (by omega) (sel_no hv)
   refine V.en tbOk Tryz.func139 ?_
   (conv => whnf)
   refine V.st ?_
   repeat ((try ((with_reducible refine .ext ?_); (conv => whnf))); (with_reducible refine jaa (r := ?_) ?_ ?_); rotate_left; (focus (first | exact (hk))); (conv => whnf); refine V.st ?_)
   exact Fin.of rfl
 generalize (if vb p q = true ∧ vb p2 q2 = true then (if p = p2 ∧ q = q2 then (p, q, (0 : Int)) else if max q q2 < min p p2 then (0, 0, 4) else (min p p2, max q q2, 0)) else (0, 0, 30)) = r at *
 refine V.en tbOk Tryz.func103 ?_
 (conv => whnf)
 refine V.st ?_
 repeat ((try ((with_reducible refine .ext ?_); (conv => whnf))); (with_reducible refine jaa (r := ?_) ?_ ?_); rotate_left; (focus (first | exact (ch))); (conv => whnf); refine V.st ?_)
 exact Fin.of rfl
theorem mk_ok {p q : Int} (h : -1000000000000000000 ≤ p ∧ p ≤ q ∧ q ≤ 1000000000000000000) : mk p q = (p, q, 0) := by
 unfold mk; rw [if_pos (jbw.2 h)]
end Go.Proofs.YtgjgpdceghjajaaGreatDoor
end
section
namespace Go.Proofs.YtgjgpdceghjajaaGreatDoor
open Go Go.V Go.Nb Go.RowKit
def u16L : List Lf := [.int .u16]
theorem u16_den {w : World} {v : Value} (h : leavesOk w u16L [v]) : ∃ n, Den Env.dummy (pubOf w) (.int .u16 n) v ∧ (0 ≤ n ∧ n ≤ 65535) := by
 obtain ⟨v0, r0, e0, ⟨n, h0, h0'⟩, e1⟩ := h
 subst e1
 simp only [List.cons.injEq, and_true] at e0
 subst e0 h0
 exact ⟨n, ⟨rfl, h0'⟩, by simpa [InR, V.lo, V.hi] using h0'⟩
theorem okWide_one {P : Program} {w : World} {r : Reach} {base : Nat} {t : TypeId} {v : Value} (ht : (match P.underlying t with | some (.struct _) => false | some (.array _ _) => false | _ => true) = true) (h : Value.okWide P w r base t v) : v.cells.toList = [v] := by
  unfold Value.okWide at h
  split at h
  · rename_i e
    rw [e] at ht
    cases ht
  · rename_i e
    rw [e] at ht
    cases ht
  · cases v <;> first | rfl | skip
    exfalso
    unfold Cell.okWide at h
    split at h
    all_goals first
      | (rename_i h1; simp at h1; done)
      | skip
    unfold Cell.ok at h
    split at h <;> simp_all
theorem glW_of_tab {w : World} (h : Lib.TabIs Tryz.prog w "internal/strconv.uint64pow10" .u64 Lib.pow10Tab) {tp : TypeId} {p : Value} (h2 : w.var? Tryz.prog "strconv.ErrRange" = some #[.iface tp p]) : GlW w := by
 refine ⟨?_, ?_⟩
 rotate_left
 ·intro g hg
  simp only [glbE, jiL, List.not_mem_nil, or_false] at hg
  subst hg
  unfold World.var? at h2
  have hn : Tryz.prog.globalNamed "strconv.ErrRange" = some 1 := by kernel_rfl
  rw [hn] at h2
  simp only [Option.bind_some] at h2
  split at h2
  ·rename_i cs T f he
   cases h2
   exact ⟨tp, p, T, f, he⟩
  ·cases h2
 intro g vs hg
 simp only [glb, jiL, List.not_mem_nil, or_false, Prod.mk.injEq] at hg
 obtain ⟨rfl, rfl⟩ := hg
 refine ⟨by simp, ?_⟩
 unfold Lib.TabIs World.var? at h
 have hg : Tryz.prog.globalNamed "internal/strconv.uint64pow10" = some 2 := by kernel_rfl
 rw [hg] at h
 simp only [Option.bind_some] at h
 split at h
 ·rename_i cs T f he
  cases h
  exact ⟨T, f, he⟩
 ·cases h
def gdraftL : List Lf := [.ints .u8, .int .u8, .ints .u16, .bool]
theorem gdraft_den {w : World} {cs : Array Value} (h : leavesOk w gdraftL cs.toList) : ∃ ds o vals sm, Den Env.dummy (pubOf w) (.agg [.ints .u8 ds, .int .u8 o, .ints .u16 vals, .bool sm]) (.agg cs) ∧
  (∀ v ∈ ds, 0 ≤ v ∧ v ≤ 255) ∧ ds.length ≤ 281474976710656 ∧ (0 ≤ o ∧ o ≤ 255) ∧ (∀ v ∈ vals, 0 ≤ v ∧ v ≤ 65535) ∧ vals.length ≤ 281474976710656 := by
 obtain ⟨v0, r0, e0, ⟨ds, h0⟩, v1, r1, e1, ⟨o, h1, h1'⟩, v2, r2, e2, ⟨vals, h2⟩, v3, r3, e3, ⟨sm, h3⟩, e4⟩ := h
 subst e4 e3 e2 e1
 obtain rfl : cs = #[v0, v1, v2, v3] := by cases cs; simp_all
 subst h1 h3
 have g0 := h0
 have g2 := h2
 obtain ⟨a0, c0, x0, _, y0, z0, _⟩ := g0
 obtain ⟨a2, c2, x2, _, y2, z2, _⟩ := g2
 refine ⟨ds, o, vals, sm, ⟨[v0, .int .u8 o, v2, .bool sm], rfl, ⟨v0, _, rfl, h0, _, _, rfl, ⟨rfl, h1'⟩, _, _, rfl, h2, _, _, rfl, rfl, rfl⟩, ?_⟩, ?_, y0, ?_, ?_, y2⟩
 ·subst x0 x2
  intro v hv
  simp only [jiL, List.not_mem_nil, or_false] at hv
  rcases hv with rfl | rfl | rfl | rfl <;> rfl
 ·intro v hv
  simpa [InR, V.lo, V.hi] using z0 v hv
 ·simpa [InR, V.lo, V.hi] using h1'
 ·intro v hv
  simpa [InR, V.lo, V.hi] using z2 v hv
def s4 {α : Type} (a b c d : α) : Nat → α
 | 0 => a
 | 1 => b
 | 2 => c
 | _ => d
end Go.Proofs.YtgjgpdceghjajaaGreatDoor
end
section
namespace Go.Proofs.YtgjgpdceghjajaaGreatDoor
open Go Go.V Go.Nb
def Fq (n : Nat) (q : Rat) : Prop := q.num.natAbs < 10 ^ n ∧ q.den < 10 ^ n
theorem Fq.mono {m n : Nat} {q : Rat} (h : Fq m q) (hl : m ≤ n) : Fq n q :=
 ⟨jio h.1 (jiy (by decide) hl), jio h.2 (jiy (by decide) hl)⟩
theorem Fq.ok {n : Nat} {q : Rat} (h : Fq n q) (h0 : 0 < n) (h6 : n ≤ 600) : okF q = true := by
 unfold okF
 simp only [jh9, decide_eq_true_eq]
 exact ⟨jiq (jbn n _ h0 h.1).1 h6, jiq (jbn n _ h0 h.2).1 h6⟩
theorem jfk (n : Int) (d : Nat) (hd : 0 < d) : (Rat.divInt n d).num.natAbs ≤ n.natAbs ∧ (Rat.divInt n d).den ≤ d := by
 rw [Rat.num_divInt, Rat.den_divInt, if_neg (by omega), jiG (by omega), jiE]
 refine ⟨?_, ?_⟩
 ·rw [Int.natAbs_ediv_of_dvd (by exact Int.gcd_dvd_right ..)]
  exact jiz _ _
 ·rw [jix]
  exact jiz _ _
theorem jaD {n : Nat} {x : Int} {d : Nat} (hd : 0 < d) (h1 : x.natAbs < 10 ^ n) (h2 : d < 10 ^ n) : Fq n (Rat.divInt x d) :=
 ⟨Nat.lt_of_le_of_lt (jfk x d hd).1 h1, Nat.lt_of_le_of_lt (jfk x d hd).2 h2⟩
theorem jeu {a b x y : Nat} (h1 : x < 10 ^ a) (h2 : y < 10 ^ b) : x * y < 10 ^ (a + b) := by
 rw [Nat.pow_add]
 rcases jij y with e | e
 ·rw [e, Nat.mul_zero]
  exact Nat.mul_pos (Nat.pow_pos (by decide)) (Nat.pow_pos (by decide))
 ·exact jio (Nat.mul_lt_mul_of_pos_right h1 e) (Nat.mul_le_mul_left _ (Nat.le_of_lt h2))
theorem Fq.add {a b : Nat} {p q : Rat} (h : Fq a p) (g : Fq b q) : Fq (a + b + 1) (p + q) := by
 have hp := p.den_pos
 have hq := q.den_pos
 have e : p + q = Rat.divInt (p.num * q.den + q.num * p.den) ((p.den * q.den : Nat) : Int) := by
  conv => lhs; rw [← jiH p, ← jiH q]
  rw [Rat.divInt_add_divInt _ _ (by omega) (by omega), jis]
 rw [e]
 have m1 := jeu h.1 g.2
 have m2 := jeu g.1 h.2
 have m3 := jeu h.2 g.2
 rw [Nat.add_comm b a] at m2
 have e10 : 10 ^ (a + b + 1) = 10 * 10 ^ (a + b) := by rw [Nat.pow_succ, jil]
 refine jaD (Nat.mul_pos hp hq) ?_ ?_
 ·have t := Int.natAbs_add_le (p.num * q.den) (q.num * p.den)
  rw [Int.natAbs_mul, Int.natAbs_mul, jix, jix] at t
  omega
 ·omega
theorem Fq.neg {a : Nat} {p : Rat} (h : Fq a p) : Fq a (-p) := ⟨by rw [Rat.neg_num, Int.natAbs_neg]; exact h.1, by rw [Rat.neg_den]; exact h.2⟩
theorem Fq.sub {a b : Nat} {p q : Rat} (h : Fq a p) (g : Fq b q) : Fq (a + b + 1) (p - q) := by
 rw [Rat.sub_eq_add_neg]
 exact h.add g.neg
theorem Fq.mul {a b : Nat} {p q : Rat} (h : Fq a p) (g : Fq b q) : Fq (a + b) (p * q) := by
 have e : p * q = Rat.divInt (p.num * q.num) ((p.den * q.den : Nat) : Int) := by
  conv => lhs; rw [← jiH p, ← jiH q]
  rw [Rat.divInt_mul_divInt, jis]
 rw [e]
 refine jaD (Nat.mul_pos p.den_pos q.den_pos) ?_ (jeu h.2 g.2)
 rw [Int.natAbs_mul]
 exact jeu h.1 g.1
theorem Fq.inv {a : Nat} {p : Rat} (h : Fq a p) (h0 : p.num ≠ 0) : Fq a p⁻¹ := by
 rw [Rat.inv_def]
 rcases Int.lt_or_gt_of_ne h0 with hn | hn
 ·have e : Rat.divInt (p.den : Int) p.num = Rat.divInt (-(p.den : Int)) ((p.num.natAbs : Nat) : Int) := by
   rw [Rat.divInt_eq_divInt_iff h0 (by omega)]
   have : ((p.num.natAbs : Nat) : Int) = -p.num := by omega
   rw [this]
   grind
  rw [e]
  exact jaD (by omega) (by rw [Int.natAbs_neg, jix]; exact h.2) h.1
 ·have e : p.num = ((p.num.natAbs : Nat) : Int) := by omega
  rw [e]
  exact jaD (by omega) (by rw [jix]; exact h.2) h.1
theorem Fq.div {a b : Nat} {p q : Rat} (h : Fq a p) (g : Fq b q) (h0 : q.num ≠ 0) : Fq (a + b) (p / q) := by
 rw [Rat.div_def]
 exact h.mul (g.inv h0)
theorem fadd_ok (s t u v : List UInt8) (h : okP s t = true) (g : okP u v = true) (hn : (mg 1000000000 (qv s t + qv u v).num.natAbs).length ≤ 90000000) (hd : (mg 1000000000 (qv s t + qv u v).den).length ≤ 90000000) : Called Tryz.prog 100 [.agg [.str s, .str t], .agg [.str u, .str v]] (frR (qv s t + qv u v)) := by
 have r1 := jbm s t h
 have r2 := jbm u v g
 have o := add_c (qv s t) (qv u v) (qsize h) (qsize g)
 have w := jdG (qv s t + qv u v) hn hd
 generalize qv s t + qv u v = q at *
 have ap : Called Tryz.prog 130 [.agg [.str s, .str t], .agg [.str u, .str v], .fn 138 [] []] (.tup [rtD q, .int .i64 0]) := by
  refine V.en tbOk Tryz.func130 ?_
  (conv => whnf)
  refine V.st ?_
  repeat ((try ((with_reducible refine .ext ?_); (conv => whnf))); (with_reducible refine jaa (r := ?_) ?_ ?_); rotate_left; (focus (first | exact (r1) | exact (r2) | exact (o))); (conv => whnf); refine V.st ?_)
  exact Fin.of rfl
 have rs : Called Tryz.prog 129 [rtD q, .int .i64 0] (frR q) := by
  refine V.en tbOk Tryz.func129 ?_
  (conv => whnf)
  refine V.st ?_
  repeat ((try ((with_reducible refine .ext ?_); (conv => whnf))); (with_reducible refine jaa (r := ?_) ?_ ?_); rotate_left; (focus (first | exact (w))); (conv => whnf); refine V.st ?_)
  exact Fin.of rfl
 refine V.en tbOk Tryz.func100 ?_
 (conv => whnf)
 refine V.st ?_
 repeat ((try ((with_reducible refine .ext ?_); (conv => whnf))); (with_reducible refine jaa (r := ?_) ?_ ?_); rotate_left; (focus (first | exact (ap) | exact (rs))); (conv => whnf); refine V.st ?_)
 exact Fin.of rfl
theorem fsub_ok (s t u v : List UInt8) (h : okP s t = true) (g : okP u v = true) (hn : (mg 1000000000 (qv s t - qv u v).num.natAbs).length ≤ 90000000) (hd : (mg 1000000000 (qv s t - qv u v).den).length ≤ 90000000) : Called Tryz.prog 99 [.agg [.str s, .str t], .agg [.str u, .str v]] (frR (qv s t - qv u v)) := by
 have r1 := jbm s t h
 have r2 := jbm u v g
 have o := sub_c (qv s t) (qv u v) (qsize h) (qsize g)
 have w := jdG (qv s t - qv u v) hn hd
 generalize qv s t - qv u v = q at *
 have ap : Called Tryz.prog 130 [.agg [.str s, .str t], .agg [.str u, .str v], .fn 137 [] []] (.tup [rtD q, .int .i64 0]) := by
  refine V.en tbOk Tryz.func130 ?_
  (conv => whnf)
  refine V.st ?_
  repeat ((try ((with_reducible refine .ext ?_); (conv => whnf))); (with_reducible refine jaa (r := ?_) ?_ ?_); rotate_left; (focus (first | exact (r1) | exact (r2) | exact (o))); (conv => whnf); refine V.st ?_)
  exact Fin.of rfl
 have rs : Called Tryz.prog 129 [rtD q, .int .i64 0] (frR q) := by
  refine V.en tbOk Tryz.func129 ?_
  (conv => whnf)
  refine V.st ?_
  repeat ((try ((with_reducible refine .ext ?_); (conv => whnf))); (with_reducible refine jaa (r := ?_) ?_ ?_); rotate_left; (focus (first | exact (w))); (conv => whnf); refine V.st ?_)
  exact Fin.of rfl
 refine V.en tbOk Tryz.func99 ?_
 (conv => whnf)
 refine V.st ?_
 repeat ((try ((with_reducible refine .ext ?_); (conv => whnf))); (with_reducible refine jaa (r := ?_) ?_ ?_); rotate_left; (focus (first | exact (ap) | exact (rs))); (conv => whnf); refine V.st ?_)
 exact Fin.of rfl
theorem fmul_ok (s t u v : List UInt8) (h : okP s t = true) (g : okP u v = true) (hn : (mg 1000000000 (qv s t * qv u v).num.natAbs).length ≤ 90000000) (hd : (mg 1000000000 (qv s t * qv u v).den).length ≤ 90000000) : Called Tryz.prog 85 [.agg [.str s, .str t], .agg [.str u, .str v]] (frR (qv s t * qv u v)) := by
 have r1 := jbm s t h
 have r2 := jbm u v g
 have o := mul_c (qv s t) (qv u v) (qsize h) (qsize g)
 have w := jdG (qv s t * qv u v) hn hd
 generalize qv s t * qv u v = q at *
 have ap : Called Tryz.prog 130 [.agg [.str s, .str t], .agg [.str u, .str v], .fn 131 [] []] (.tup [rtD q, .int .i64 0]) := by
  refine V.en tbOk Tryz.func130 ?_
  (conv => whnf)
  refine V.st ?_
  repeat ((try ((with_reducible refine .ext ?_); (conv => whnf))); (with_reducible refine jaa (r := ?_) ?_ ?_); rotate_left; (focus (first | exact (r1) | exact (r2) | exact (o))); (conv => whnf); refine V.st ?_)
  exact Fin.of rfl
 have rs : Called Tryz.prog 129 [rtD q, .int .i64 0] (frR q) := by
  refine V.en tbOk Tryz.func129 ?_
  (conv => whnf)
  refine V.st ?_
  repeat ((try ((with_reducible refine .ext ?_); (conv => whnf))); (with_reducible refine jaa (r := ?_) ?_ ?_); rotate_left; (focus (first | exact (w))); (conv => whnf); refine V.st ?_)
  exact Fin.of rfl
 refine V.en tbOk Tryz.func85 ?_
 (conv => whnf)
 refine V.st ?_
 repeat ((try ((with_reducible refine .ext ?_); (conv => whnf))); (with_reducible refine jaa (r := ?_) ?_ ?_); rotate_left; (focus (first | exact (ap) | exact (rs))); (conv => whnf); refine V.st ?_)
 exact Fin.of rfl
theorem Q9.inv {k : Nat} {q : Rat} (h : Q9 k q) (h0 : q.num ≠ 0) : Q9 k q⁻¹ := by
 obtain ⟨p1, p2⟩ := jgG q h0
 constructor
 ·rw [p1]
  unfold S9
  have e : (if decide (q.num < 0) = true then -(q.den : Int) else (q.den : Int)).natAbs = q.den := by
   split <;> simp
  rw [e]
  exact h.2
 ·rw [p2]; exact h.1
theorem fdiv_ok (s t u v : List UInt8) (h : okP s t = true) (g : okP u v = true) (h0 : (qv u v).num ≠ 0) (hn : (mg 1000000000 (qv s t / qv u v).num.natAbs).length ≤ 90000000) (hd : (mg 1000000000 (qv s t / qv u v).den).length ≤ 90000000) : Called Tryz.prog 88 [.agg [.str s, .str t], .agg [.str u, .str v]] (frR (qv s t / qv u v)) := by
 have r1 := jbm s t h
 have r2 := jbm u v g
 have z1 := jc9 (qv u v).num.natAbs
 rw [decide_eq_false (show ¬ (qv u v).num.natAbs = 0 by omega)] at z1
 have i1 := inverse_c (qv u v) h0
 have o := mul_c (qv s t) (qv u v)⁻¹ (qsize h) ((qsize g).inv h0)
 have w := jdG (qv s t / qv u v) hn hd
 rw [Rat.div_def] at w ⊢
 unfold frR at *
 generalize qv s t * (qv u v)⁻¹ = q at *
 generalize (qv u v)⁻¹ = y at *
 refine V.en tbOk Tryz.func88 ?_
 (conv => whnf)
 refine V.st ?_
 repeat ((try ((with_reducible refine .ext ?_); (conv => whnf))); (with_reducible refine jaa (r := ?_) ?_ ?_); rotate_left; (focus (first | exact (r1) | exact (r2) | exact (z1))); (conv => whnf); refine V.st ?_)
 refine ⟨(V.tk [0,1] (V.e1 2 [0] (V.e1 3 [] (V.e1 4 [] (V.tk [5,6] (V.e1 7 [] (V.tk [8] .done))))))), [], V.pok, .go (jad ?_)⟩
 (conv => whnf)
 refine V.st ?_
 repeat ((try ((with_reducible refine .ext ?_); (conv => whnf))); (with_reducible refine jaa (r := ?_) ?_ ?_); rotate_left; (focus (first | exact (i1) | exact (o) | exact (w))); (conv => whnf); refine V.st ?_)
 exact Fin.of rfl
def frT (x : Rat) : D := .agg [.str (decZ x.num), .str (dec x.den)]
theorem jaM {q : Rat} (h : okF q = true) : okP (decZ q.num) (dec q.den) = true ∧ qv (decZ q.num) (dec q.den) = q := by
 unfold okF at h
 simp only [jh9, decide_eq_true_eq] at h
 have hdz : dec q.den = decZ (q.den : Int) := by unfold decZ; rw [if_neg (by omega), jix]
 have w1 : wval (decZ q.num) = q.num := jbt _
 have w2 : wval (dec q.den) = (q.den : Int) := by rw [hdz]; exact jbt _
 have o1 := jcj q.num h.1
 have o2 : okW (dec q.den) = true := by rw [hdz]; exact jcj _ (by rw [jix]; exact h.2)
 have hp := q.den_pos
 constructor
 ·unfold okP
  rw [o1, o2, w1, w2]
  simp only [jh9, decide_eq_true_eq, Bool.true_and, jix]
  exact ⟨by omega, q.reduced⟩
 ·unfold qv
  rw [w1, w2]
  exact jiH q
theorem jd7 {q : Rat} (h : okF q = true) : frR q = .tup [frT q, .int .i64 0] := by
 unfold frR
 rw [h]
 rfl
theorem mg_fq {n : Nat} {q : Rat} (h : Fq n q) (h6 : n ≤ 600) : (mg 1000000000 q.num.natAbs).length ≤ 90000000 ∧ (mg 1000000000 q.den).length ≤ 90000000 :=
 ⟨jiq (len9 (h.mono h6).1) (by omega), jiq (len9 (h.mono h6).2) (by omega)⟩
theorem zadd {a b : Nat} {p q : Rat} (h : Fq a p) (g : Fq b q) (ha : 0 < a) (hb : 0 < b) (hab : a + b + 1 ≤ 600) : Called Tryz.prog 100 [frT p, frT q] (.tup [frT (p + q), .int .i64 0]) := by
 obtain ⟨o1, e1⟩ := jaM (h.ok ha (by omega))
 obtain ⟨o2, e2⟩ := jaM (g.ok hb (by omega))
 have hs := h.add g
 have hm := mg_fq hs (by omega)
 have c := fadd_ok _ _ _ _ o1 o2 (by rw [e1, e2]; exact hm.1) (by rw [e1, e2]; exact hm.2)
 rw [e1, e2, jd7 (hs.ok (by omega) (by omega))] at c
 exact c
theorem zsub {a b : Nat} {p q : Rat} (h : Fq a p) (g : Fq b q) (ha : 0 < a) (hb : 0 < b) (hab : a + b + 1 ≤ 600) : Called Tryz.prog 99 [frT p, frT q] (.tup [frT (p - q), .int .i64 0]) := by
 obtain ⟨o1, e1⟩ := jaM (h.ok ha (by omega))
 obtain ⟨o2, e2⟩ := jaM (g.ok hb (by omega))
 have hs := h.sub g
 have hm := mg_fq hs (by omega)
 have c := fsub_ok _ _ _ _ o1 o2 (by rw [e1, e2]; exact hm.1) (by rw [e1, e2]; exact hm.2)
 rw [e1, e2, jd7 (hs.ok (by omega) (by omega))] at c
 exact c
theorem zmul {a b : Nat} {p q : Rat} (h : Fq a p) (g : Fq b q) (ha : 0 < a) (hb : 0 < b) (hab : a + b + 1 ≤ 600) : Called Tryz.prog 85 [frT p, frT q] (.tup [frT (p * q), .int .i64 0]) := by
 obtain ⟨o1, e1⟩ := jaM (h.ok ha (by omega))
 obtain ⟨o2, e2⟩ := jaM (g.ok hb (by omega))
 have hs := h.mul g
 have hm := mg_fq hs (by omega)
 have c := fmul_ok _ _ _ _ o1 o2 (by rw [e1, e2]; exact hm.1) (by rw [e1, e2]; exact hm.2)
 rw [e1, e2, jd7 (hs.ok (by omega) (by omega))] at c
 exact c
theorem zdiv {a b : Nat} {p q : Rat} (h : Fq a p) (g : Fq b q) (h0 : q.num ≠ 0) (ha : 0 < a) (hb : 0 < b) (hab : a + b + 1 ≤ 600) : Called Tryz.prog 88 [frT p, frT q] (.tup [frT (p / q), .int .i64 0]) := by
 obtain ⟨o1, e1⟩ := jaM (h.ok ha (by omega))
 obtain ⟨o2, e2⟩ := jaM (g.ok hb (by omega))
 have hs := h.div g h0
 have hm := mg_fq hs (by omega)
 have c := fdiv_ok _ _ _ _ o1 o2 (by rw [e2]; exact h0) (by rw [e1, e2]; exact hm.1) (by rw [e1, e2]; exact hm.2)
 rw [e1, e2, jd7 (hs.ok (by omega) (by omega))] at c
 exact c
theorem zcmp {a b : Nat} {p q : Rat} (h : Fq a p) (g : Fq b q) (ha : 0 < a ∧ a ≤ 600) (hb : 0 < b ∧ b ≤ 600) : Called Tryz.prog 127 [frT p, frT q] (.tup [.int .i64 (ordQ p q), .int .i64 0]) := by
 obtain ⟨o1, e1⟩ := jaM (h.ok ha.1 ha.2)
 obtain ⟨o2, e2⟩ := jaM (g.ok hb.1 hb.2)
 have c := fcmp_ok _ _ _ _ o1 o2
 rw [e1, e2] at c
 exact c
abbrev Tx := List UInt8 × List UInt8
def okX (x : Tx) : Bool := okP x.1 x.2
def qX (x : Tx) : Rat := qv x.1 x.2
def BdX (n : Nat) (x : Tx) : Prop := (x.1.length ≤ 281474976710656 ∧ x.2.length ≤ 281474976710656) ∧ (okX x = true → Fq n (qX x))
theorem BdX.mono {m n : Nat} {x : Tx} (h : BdX m x) (hl : m ≤ n) : BdX n x := ⟨h.1, fun g => (h.2 g).mono hl⟩
end Go.Proofs.YtgjgpdceghjajaaGreatDoor
end
