/- What functions of the program answer at given values, part 32. Conditions: those that each theorem names. -/
import Derived.Test.YtgjgpdceghjajaaGreatDoorSimplexRefinedH31
import Derived.Test.YtgjgpdceghjajaaGreatDoorSimplexRefinedH30
import Derived.Test.YtgjgpdceghjajaaGreatDoorSimplexRefinedH23
import Derived.Test.YtgjgpdceghjajaaGreatDoorSimplexRefinedH24
import Derived.Test.YtgjgpdceghjajaaGreatDoorSimplexRefinedH22
import Derived.Test.YtgjgpdceghjajaaGreatDoorSimplexRefinedH13
set_option linter.unusedSimpArgs false
set_option linter.unusedVariables false
set_option maxHeartbeats 8000000
set_option maxRecDepth 100000
section
namespace Go.Proofs.YtgjgpdceghjajaaGreatDoor
open Go Go.V Go.Nb Go.Gr
def rfxW : Nat → D
 | 0 => .nil
 | k + 1 => .bsl 106 0 (k + 1) 2
def rfxH (X : Nat → Tx) : Nat → Hp
 | 0 => []
 | k + 1 => [(106, .box (wce X (k + 1)))]
def rzS1 (t0 : Nat) : Nat → List Int
 | 0 => []
 | _ => [(t0 : Int)]
theorem jhL : type_of% @jih ∧ type_of% @List.getD_cons_succ.{0} ∧ type_of% @List.getD_cons_zero.{0} ∧ type_of% @List.take_succ_cons.{0} ∧ type_of% @List.take_zero.{0} ∧ type_of% @jif ∧ type_of% @tn0 ∧ type_of% @tn1 ∧ type_of% @tn2 ∧ type_of% @tn3 ∧ type_of% @xt4 := ⟨@jih, @List.getD_cons_succ.{0}, @List.getD_cons_zero.{0}, @List.take_succ_cons.{0}, @List.take_zero.{0}, @jif, @tn0, @tn1, @tn2, @tn3, @xt4⟩
theorem refined1_t (ds vals data rd ix v : List Int) (oo out z : Int) (sm : Bool) (s0 t0 : Nat) (H2 : Tx) (X Y P LO HI : Nat → Tx) (hs : (2 ≤ s0 ∧ s0 ≤ 9)) (ht : min (2 * (s0 : Int) - 1) 5 = (t0 : Int)) (hlx : ix.length = 1) (hix : ∀ i, 0 ≤ ix.getD i 0 ∧ ix.getD i 0 ≤ 9) (hv : v.length = out.toNat) (hvb : ∀ j, 0 ≤ v.getD j 0 ∧ v.getD j 0 ≤ 65535) (ho : 1 ≤ out ∧ out ≤ 4) (hz : 0 ≤ z ∧ z ≤ 65535) (pr : Nat) (hpr : 0 < pr) (hrd : (rd.length : Int) = pr * out) (hrl : rd.length ≤ 4096) (hdl : data.length ≤ 4096)
  (wk : Called Tryz.prog 10 [] (.bool true))
  (gd : Called Tryz.prog 11 [.agg [.ints .u8 ds, .int .u8 oo, .ints .u16 vals, .bool sm]] (.agg [.ints .i64 [(s0 : Int)], .int .i64 out, .ints .i64 data]))
  (r1 : Called Tryz.prog 33 [.agg [.ints .i64 [(s0 : Int)], .int .i64 out, .ints .i64 data], .ints .i64 [(s0 : Int)]] (.tup [.agg [.ints .i64 [(s0 : Int)], .int .i64 out, .ints .i64 data], .int .i64 0]))
  (r2 : Called Tryz.prog 33 [.agg [.ints .i64 [(s0 : Int)], .int .i64 out, .ints .i64 data], .ints .i64 [(t0 : Int)]] (.tup [.agg [.ints .i64 [(t0 : Int)], .int .i64 out, .ints .i64 rd], .int .i64 0]))
  (sa : Called Tryz.prog 36 [.agg [.ints .i64 [(s0 : Int)], .int .i64 out, .ints .i64 data], .agg [.ints .i64 [(s0 : Int)], .int .i64 out, .ints .i64 data]] (.bool true))
  (ck : Called Tryz.prog 37 [.agg [.ints .i64 [(t0 : Int)], .int .i64 out, .ints .i64 rd]] (.int .i64 0))
  (iq : Called Tryz.prog 24 [.ints .i64 [(t0 : Int)], .int .i64 (z % (pr : Int))] (.ints .i64 ix))
  (xo : ∀ i, i < 1 → Called Tryz.prog 18 [.int .i64 (ix.getD i 0), .int .i64 (([(t0 : Int)] : List Int).getD i 0 - 1)] (.agg [.str (X i).1, .str (X i).2]))
  (ga : Called Tryz.prog 20 [.agg [.ints .i64 [(t0 : Int)], .int .i64 out, .ints .i64 rd], .ints .i64 ix] (.tup [.ints .i64 v, .int .i64 0]))
  (ev : Called Tryz.prog 15 [.agg [.ints .i64 [(s0 : Int)], .int .i64 out, .ints .i64 data], .slf 2 1 (fun j => List.take 2 (List.drop (j * 2) [.str (X 0).1, .str (X 0).2]))] (.tup [.slf 2 out.toNat (fun j => List.take 2 (List.drop (j * 2) (wce Y out.toNat))), .int .i64 0]))
  (of2 : Called Tryz.prog 18 [.int .i64 131070, .int .i64 1] (.agg [.str H2.1, .str H2.2]))
  (tp : ∀ j, j < out.toNat → Called Tryz.prog 23 [.agg [.str (Y j).1, .str (Y j).2], .agg [.str H2.1, .str H2.2]] (.agg [.str (P j).1, .str (P j).2]))
  (ol : ∀ j, j < out.toNat → Called Tryz.prog 18 [.int .i64 (2 * v.getD j 0 - 1), .int .i64 1] (.agg [.str (LO j).1, .str (LO j).2]))
  (oh : ∀ j, j < out.toNat → Called Tryz.prog 18 [.int .i64 (2 * v.getD j 0 + 1), .int .i64 1] (.agg [.str (HI j).1, .str (HI j).2]))
  (ll : ∀ j, j < out.toNat → Called Tryz.prog 21 [.agg [.str (P j).1, .str (P j).2], .agg [.str (LO j).1, .str (LO j).2]] (.bool false))
  (lh : ∀ j, j < out.toNat → Called Tryz.prog 21 [.agg [.str (HI j).1, .str (HI j).2], .agg [.str (P j).1, .str (P j).2]] (.bool false)) :
  Called Tryz.prog 9 [.agg [.ints .u8 ds, .int .u8 oo, .ints .u16 vals, .bool sm], .int .u16 z] (.bool true) := by
 have qe := jcp [(t0 : Int)] [(t0 : Int)] (by simp) (by simp)
 have et0 := ht
 have bt0 : 2 ≤ t0 ∧ t0 ≤ 5 := by omega
 have hsl : (([(s0 : Int)].length : Nat) : Int) = 1 := rfl
 have hvl : ((v.length : Nat) : Int) = out := by rw [hv]; omega
 have hyl : ((out.toNat : Nat) : Int) = out := by omega
 have hxl : ((ix.length : Nat) : Int) = 1 := by rw [hlx]; rfl
 have hdv : (rd.length : Int) / out = (pr : Int) := by rw [hrd]; exact Int.mul_ediv_cancel _ (by omega)
 have hmd : 0 ≤ z % (pr : Int) ∧ z % (pr : Int) < pr := ⟨jic _ (by omega), jiA _ (by omega)⟩
 refine V.en tbOk Tryz.func9 ?_
 refine V.r3 jhL wk gd r1 ?_
 refine Lp.ghostSlot 47 8 .i64 (by decide) ?_
 (conv => whnf)
 refine jac (0 : Nat) (fun k => k ≤ 1) (fun k => 1 - k) (fun k => [(37, .int .i64 (k : Nat)), (8, .osl 47 0 k)]) (fun k => [(47, .arr .i64 (rzS1 t0 k))]) ?_ ?_ ?_
 ·exact V.wk
 ·exact jib _
 intro k hk
 have hk4 : k = 0 ∨ k = 1 := by omega
 rcases hk4 with e | e
 all_goals subst e
 ·simp only [k0, rzS1]
  refine V.r0 (V.a3 jhL hsl et0) ?_
  exact ⟨1, by omega, by omega, V.wk⟩
 ·simp only [k1, rzS1]
  refine V.r5 (V.a3 jhL hsl hdv) r2 sa qe ck iq ?_
  refine jac (0 : Nat) (fun k => k ≤ 1) (fun k => 1 - k) (fun k => [(92, .int .i64 (k : Nat)), (14, rfxW k)]) (fun k => rfxH X k) ?_ ?_ ?_
  ·exact V.wk
  ·exact jib _
  intro k hk
  have hk4 : k = 0 ∨ k = 1 := by omega
  rcases hk4 with e | e
  all_goals subst e
  ·simp only [k0, rfxW, rfxH]
   have c1 := xo 0 (by omega)
   have hi1 := hix 0
   refine V.r1 (V.a3 jhL hsl hxl) c1 ?_
   exact ⟨1, by omega, by omega, V.wk⟩
  ·simp only [k1, rfxW, rfxH]
   refine V.r2 (V.a3 jhL hsl hxl) ga ev ?_
   refine Cnd.split (CondB.mk (fun h => absurd h (by rw [hvl, hyl]; simp)) (fun _ => ?_))
   refine V.r0 jhL ?_
   refine lp_go (out.toNat) (fun k => True) (fun k => [(135, .int .i64 k)]) (fun k => []) V.wk ?_ ?_
   ·trivial
   intro k hk _
   (conv => whnf)
   refine V.st ?_
   refine V.br (fun h => ?_) (fun h => ?_)
   ·simp only [decide_eq_true_eq] at h
    have hk1 : k < out.toNat := by omega
    have e := jev Y out.toNat k hk1
    have c1 := tp k hk1
    have c2 := ol k hk1
    have c3 := oh k hk1
    have c4 := ll k hk1
    have c5 := lh k hk1
    have hvk := hvb k
    have hkv : (k : Int) < v.length := by rw [hv]; omega
    refine V.r0 jhL ?_
    refine ⟨(V.tk [0,1,2,3] (.ev (.cons 4 [3,2,1,0] (.ev (.cons 5 [] (V.e1 6 [] (V.e1 7 [] .done)) (.cons 6 [3,2,1,0] (V.e1 5 [] (V.e1 7 [] .done)) .nil))) (.cons 6 [3,2,1,0] (V.e1 4 [3,2,1,0] (V.e1 5 [] (V.e1 7 [] .done))) .nil)))), [], V.pok, ?_⟩
    refine jab [(22, .box 22 0)] [(22, .box [.str (P k).1, .str (P k).2])] ?_ ?_
    ·(conv => whnf); (try simp only [jhL])
     repeat' (first | exact V.wk | ((with_reducible refine And.intro ?_ jaB); (conv => whnf); (try simp only [jhL])) | ((with_reducible first | refine jas ?_ ?_ | refine jay ?_ ?_) <;> (conv => whnf); (try simp only [jhL])) | ((first | refine V.s1 ?_ | ((with_reducible refine jap ?_ ?_); (focus ((conv => whnf); (try simp only [jhL]); (repeat ((first | refine V.s1 ?_ | ((simp only [e]); (conv => whnf))); (try simp only [jhL]))); exact ⟨rfl⟩)); (conv => whnf)) | ((try ((with_reducible refine .ext ?_); (conv => whnf); (try simp only [jhL]))); (with_reducible refine jaa (r := ?_) ?_ ?_); rotate_left; (focus (first | exact (of2) | exact (c1))); (conv => whnf)) | ((simp only [e]); (conv => whnf))); (try simp only [jhL])) | (refine And.intro ?_ ?_ <;> (conv => whnf); (try simp only [jhL])))
    refine V.r0 jhL ?_
    refine ⟨(V.tk [0,1,2,3,4,5,6] (V.e1 7 [0] (V.e1 8 [] (V.tk [9,10,11,12,13,14,15,17] (V.e1 16 [17] (V.e1 18 [] (V.tk [19] .done))))))), [], V.pok, ?_⟩
    refine jab [(163, .bool false)] [] ?_ ?_
    ·exact V.d4 jhL c2 c3 c4 c5
    refine V.r0 jhL ?_
    exact ⟨k + 1, ⟨by omega, trivial⟩, by omega, V.wk⟩
   ·refine V.r0 jhL ?_
    exact Fin.of rfl
def rzS2 (t0 t1 : Nat) : Nat → List Int
 | 0 => []
 | 1 => [(t0 : Int)]
 | _ => [(t0 : Int), (t1 : Int)]
theorem refined2_t (ds vals data rd ix v : List Int) (oo out z : Int) (sm : Bool) (s0 s1 t0 t1 : Nat) (H2 : Tx) (X Y P LO HI : Nat → Tx) (hs : (2 ≤ s0 ∧ s0 ≤ 9) ∧ (2 ≤ s1 ∧ s1 ≤ 9)) (ht : min (2 * (s0 : Int) - 1) 5 = (t0 : Int) ∧ min (2 * (s1 : Int) - 1) 5 = (t1 : Int)) (hlx : ix.length = 2) (hix : ∀ i, 0 ≤ ix.getD i 0 ∧ ix.getD i 0 ≤ 9) (hv : v.length = out.toNat) (hvb : ∀ j, 0 ≤ v.getD j 0 ∧ v.getD j 0 ≤ 65535) (ho : 1 ≤ out ∧ out ≤ 4) (hz : 0 ≤ z ∧ z ≤ 65535) (pr : Nat) (hpr : 0 < pr) (hrd : (rd.length : Int) = pr * out) (hrl : rd.length ≤ 4096) (hdl : data.length ≤ 4096)
  (wk : Called Tryz.prog 10 [] (.bool true))
  (gd : Called Tryz.prog 11 [.agg [.ints .u8 ds, .int .u8 oo, .ints .u16 vals, .bool sm]] (.agg [.ints .i64 [(s0 : Int), (s1 : Int)], .int .i64 out, .ints .i64 data]))
  (r1 : Called Tryz.prog 33 [.agg [.ints .i64 [(s0 : Int), (s1 : Int)], .int .i64 out, .ints .i64 data], .ints .i64 [(s0 : Int), (s1 : Int)]] (.tup [.agg [.ints .i64 [(s0 : Int), (s1 : Int)], .int .i64 out, .ints .i64 data], .int .i64 0]))
  (r2 : Called Tryz.prog 33 [.agg [.ints .i64 [(s0 : Int), (s1 : Int)], .int .i64 out, .ints .i64 data], .ints .i64 [(t0 : Int), (t1 : Int)]] (.tup [.agg [.ints .i64 [(t0 : Int), (t1 : Int)], .int .i64 out, .ints .i64 rd], .int .i64 0]))
  (sa : Called Tryz.prog 36 [.agg [.ints .i64 [(s0 : Int), (s1 : Int)], .int .i64 out, .ints .i64 data], .agg [.ints .i64 [(s0 : Int), (s1 : Int)], .int .i64 out, .ints .i64 data]] (.bool true))
  (ck : Called Tryz.prog 37 [.agg [.ints .i64 [(t0 : Int), (t1 : Int)], .int .i64 out, .ints .i64 rd]] (.int .i64 0))
  (iq : Called Tryz.prog 24 [.ints .i64 [(t0 : Int), (t1 : Int)], .int .i64 (z % (pr : Int))] (.ints .i64 ix))
  (xo : ∀ i, i < 2 → Called Tryz.prog 18 [.int .i64 (ix.getD i 0), .int .i64 (([(t0 : Int), (t1 : Int)] : List Int).getD i 0 - 1)] (.agg [.str (X i).1, .str (X i).2]))
  (ga : Called Tryz.prog 20 [.agg [.ints .i64 [(t0 : Int), (t1 : Int)], .int .i64 out, .ints .i64 rd], .ints .i64 ix] (.tup [.ints .i64 v, .int .i64 0]))
  (ev : Called Tryz.prog 15 [.agg [.ints .i64 [(s0 : Int), (s1 : Int)], .int .i64 out, .ints .i64 data], .slf 2 2 (fun j => List.take 2 (List.drop (j * 2) [.str (X 0).1, .str (X 0).2, .str (X 1).1, .str (X 1).2]))] (.tup [.slf 2 out.toNat (fun j => List.take 2 (List.drop (j * 2) (wce Y out.toNat))), .int .i64 0]))
  (of2 : Called Tryz.prog 18 [.int .i64 131070, .int .i64 1] (.agg [.str H2.1, .str H2.2]))
  (tp : ∀ j, j < out.toNat → Called Tryz.prog 23 [.agg [.str (Y j).1, .str (Y j).2], .agg [.str H2.1, .str H2.2]] (.agg [.str (P j).1, .str (P j).2]))
  (ol : ∀ j, j < out.toNat → Called Tryz.prog 18 [.int .i64 (2 * v.getD j 0 - 1), .int .i64 1] (.agg [.str (LO j).1, .str (LO j).2]))
  (oh : ∀ j, j < out.toNat → Called Tryz.prog 18 [.int .i64 (2 * v.getD j 0 + 1), .int .i64 1] (.agg [.str (HI j).1, .str (HI j).2]))
  (ll : ∀ j, j < out.toNat → Called Tryz.prog 21 [.agg [.str (P j).1, .str (P j).2], .agg [.str (LO j).1, .str (LO j).2]] (.bool false))
  (lh : ∀ j, j < out.toNat → Called Tryz.prog 21 [.agg [.str (HI j).1, .str (HI j).2], .agg [.str (P j).1, .str (P j).2]] (.bool false)) :
  Called Tryz.prog 9 [.agg [.ints .u8 ds, .int .u8 oo, .ints .u16 vals, .bool sm], .int .u16 z] (.bool true) := by
 have qe := jcp [(t0 : Int), (t1 : Int)] [(t0 : Int), (t1 : Int)] (by simp) (by simp)
 have et0 := ht.1
 have bt0 : 2 ≤ t0 ∧ t0 ≤ 5 := by omega
 have et1 := ht.2
 have bt1 : 2 ≤ t1 ∧ t1 ≤ 5 := by omega
 have hsl : (([(s0 : Int), (s1 : Int)].length : Nat) : Int) = 2 := rfl
 have hvl : ((v.length : Nat) : Int) = out := by rw [hv]; omega
 have hyl : ((out.toNat : Nat) : Int) = out := by omega
 have hxl : ((ix.length : Nat) : Int) = 2 := by rw [hlx]; rfl
 have hdv : (rd.length : Int) / out = (pr : Int) := by rw [hrd]; exact Int.mul_ediv_cancel _ (by omega)
 have hmd : 0 ≤ z % (pr : Int) ∧ z % (pr : Int) < pr := ⟨jic _ (by omega), jiA _ (by omega)⟩
 refine V.en tbOk Tryz.func9 ?_
 refine V.r3 jhL wk gd r1 ?_
 refine Lp.ghostSlot 47 8 .i64 (by decide) ?_
 (conv => whnf)
 refine jac (0 : Nat) (fun k => k ≤ 2) (fun k => 2 - k) (fun k => [(37, .int .i64 (k : Nat)), (8, .osl 47 0 k)]) (fun k => [(47, .arr .i64 (rzS2 t0 t1 k))]) ?_ ?_ ?_
 ·exact V.wk
 ·exact jib _
 intro k hk
 have hk4 : k = 0 ∨ k = 1 ∨ k = 2 := by omega
 rcases hk4 with e | e | e
 all_goals subst e
 ·simp only [k0, rzS2]
  refine V.r0 (V.a4 jhL hsl et0 et1) ?_
  exact ⟨1, by omega, by omega, V.wk⟩
 ·simp only [k1, rzS2]
  refine V.r0 (V.a4 jhL hsl et0 et1) ?_
  exact ⟨2, by omega, by omega, V.wk⟩
 ·simp only [k2, rzS2]
  refine V.r5 (V.a3 jhL hsl hdv) r2 sa qe ck iq ?_
  refine jac (0 : Nat) (fun k => k ≤ 2) (fun k => 2 - k) (fun k => [(92, .int .i64 (k : Nat)), (14, rfxW k)]) (fun k => rfxH X k) ?_ ?_ ?_
  ·exact V.wk
  ·exact jib _
  intro k hk
  have hk4 : k = 0 ∨ k = 1 ∨ k = 2 := by omega
  rcases hk4 with e | e | e
  all_goals subst e
  ·simp only [k0, rfxW, rfxH]
   have c1 := xo 0 (by omega)
   have hi1 := hix 0
   refine V.r1 (V.a3 jhL hsl hxl) c1 ?_
   exact ⟨1, by omega, by omega, V.wk⟩
  ·simp only [k1, rfxW, rfxH]
   have c1 := xo 1 (by omega)
   have hi1 := hix 1
   refine V.r1 (V.a3 jhL hsl hxl) c1 ?_
   exact ⟨2, by omega, by omega, V.wk⟩
  ·simp only [k2, rfxW, rfxH]
   refine V.r2 (V.a3 jhL hsl hxl) ga ev ?_
   refine Cnd.split (CondB.mk (fun h => absurd h (by rw [hvl, hyl]; simp)) (fun _ => ?_))
   refine V.r0 jhL ?_
   refine lp_go (out.toNat) (fun k => True) (fun k => [(135, .int .i64 k)]) (fun k => []) V.wk ?_ ?_
   ·trivial
   intro k hk _
   (conv => whnf)
   refine V.st ?_
   refine V.br (fun h => ?_) (fun h => ?_)
   ·simp only [decide_eq_true_eq] at h
    have hk1 : k < out.toNat := by omega
    have e := jev Y out.toNat k hk1
    have c1 := tp k hk1
    have c2 := ol k hk1
    have c3 := oh k hk1
    have c4 := ll k hk1
    have c5 := lh k hk1
    have hvk := hvb k
    have hkv : (k : Int) < v.length := by rw [hv]; omega
    refine V.r0 jhL ?_
    refine ⟨(V.tk [0,1,2,3] (.ev (.cons 4 [3,2,1,0] (.ev (.cons 5 [] (V.e1 6 [] (V.e1 7 [] .done)) (.cons 6 [3,2,1,0] (V.e1 5 [] (V.e1 7 [] .done)) .nil))) (.cons 6 [3,2,1,0] (V.e1 4 [3,2,1,0] (V.e1 5 [] (V.e1 7 [] .done))) .nil)))), [], V.pok, ?_⟩
    refine jab [(22, .box 22 0)] [(22, .box [.str (P k).1, .str (P k).2])] ?_ ?_
    ·(conv => whnf); (try simp only [jhL])
     repeat' (first | exact V.wk | ((with_reducible refine And.intro ?_ jaB); (conv => whnf); (try simp only [jhL])) | ((with_reducible first | refine jas ?_ ?_ | refine jay ?_ ?_) <;> (conv => whnf); (try simp only [jhL])) | ((first | refine V.s1 ?_ | ((with_reducible refine jap ?_ ?_); (focus ((conv => whnf); (try simp only [jhL]); (repeat ((first | refine V.s1 ?_ | ((simp only [e]); (conv => whnf))); (try simp only [jhL]))); exact ⟨rfl⟩)); (conv => whnf)) | ((try ((with_reducible refine .ext ?_); (conv => whnf); (try simp only [jhL]))); (with_reducible refine jaa (r := ?_) ?_ ?_); rotate_left; (focus (first | exact (of2) | exact (c1))); (conv => whnf)) | ((simp only [e]); (conv => whnf))); (try simp only [jhL])) | (refine And.intro ?_ ?_ <;> (conv => whnf); (try simp only [jhL])))
    refine V.r0 jhL ?_
    refine ⟨(V.tk [0,1,2,3,4,5,6] (V.e1 7 [0] (V.e1 8 [] (V.tk [9,10,11,12,13,14,15,17] (V.e1 16 [17] (V.e1 18 [] (V.tk [19] .done))))))), [], V.pok, ?_⟩
    refine jab [(163, .bool false)] [] ?_ ?_
    ·exact V.d4 jhL c2 c3 c4 c5
    refine V.r0 jhL ?_
    exact ⟨k + 1, ⟨by omega, trivial⟩, by omega, V.wk⟩
   ·refine V.r0 jhL ?_
    exact Fin.of rfl
def rzS3 (t0 t1 t2 : Nat) : Nat → List Int
 | 0 => []
 | 1 => [(t0 : Int)]
 | 2 => [(t0 : Int), (t1 : Int)]
 | _ => [(t0 : Int), (t1 : Int), (t2 : Int)]
theorem refined3_t (ds vals data rd ix v : List Int) (oo out z : Int) (sm : Bool) (s0 s1 s2 t0 t1 t2 : Nat) (H2 : Tx) (X Y P LO HI : Nat → Tx) (hs : (2 ≤ s0 ∧ s0 ≤ 9) ∧ (2 ≤ s1 ∧ s1 ≤ 9) ∧ (2 ≤ s2 ∧ s2 ≤ 9)) (ht : min (2 * (s0 : Int) - 1) 5 = (t0 : Int) ∧ min (2 * (s1 : Int) - 1) 5 = (t1 : Int) ∧ min (2 * (s2 : Int) - 1) 5 = (t2 : Int)) (hlx : ix.length = 3) (hix : ∀ i, 0 ≤ ix.getD i 0 ∧ ix.getD i 0 ≤ 9) (hv : v.length = out.toNat) (hvb : ∀ j, 0 ≤ v.getD j 0 ∧ v.getD j 0 ≤ 65535) (ho : 1 ≤ out ∧ out ≤ 4) (hz : 0 ≤ z ∧ z ≤ 65535) (pr : Nat) (hpr : 0 < pr) (hrd : (rd.length : Int) = pr * out) (hrl : rd.length ≤ 4096) (hdl : data.length ≤ 4096)
  (wk : Called Tryz.prog 10 [] (.bool true))
  (gd : Called Tryz.prog 11 [.agg [.ints .u8 ds, .int .u8 oo, .ints .u16 vals, .bool sm]] (.agg [.ints .i64 [(s0 : Int), (s1 : Int), (s2 : Int)], .int .i64 out, .ints .i64 data]))
  (r1 : Called Tryz.prog 33 [.agg [.ints .i64 [(s0 : Int), (s1 : Int), (s2 : Int)], .int .i64 out, .ints .i64 data], .ints .i64 [(s0 : Int), (s1 : Int), (s2 : Int)]] (.tup [.agg [.ints .i64 [(s0 : Int), (s1 : Int), (s2 : Int)], .int .i64 out, .ints .i64 data], .int .i64 0]))
  (r2 : Called Tryz.prog 33 [.agg [.ints .i64 [(s0 : Int), (s1 : Int), (s2 : Int)], .int .i64 out, .ints .i64 data], .ints .i64 [(t0 : Int), (t1 : Int), (t2 : Int)]] (.tup [.agg [.ints .i64 [(t0 : Int), (t1 : Int), (t2 : Int)], .int .i64 out, .ints .i64 rd], .int .i64 0]))
  (sa : Called Tryz.prog 36 [.agg [.ints .i64 [(s0 : Int), (s1 : Int), (s2 : Int)], .int .i64 out, .ints .i64 data], .agg [.ints .i64 [(s0 : Int), (s1 : Int), (s2 : Int)], .int .i64 out, .ints .i64 data]] (.bool true))
  (ck : Called Tryz.prog 37 [.agg [.ints .i64 [(t0 : Int), (t1 : Int), (t2 : Int)], .int .i64 out, .ints .i64 rd]] (.int .i64 0))
  (iq : Called Tryz.prog 24 [.ints .i64 [(t0 : Int), (t1 : Int), (t2 : Int)], .int .i64 (z % (pr : Int))] (.ints .i64 ix))
  (xo : ∀ i, i < 3 → Called Tryz.prog 18 [.int .i64 (ix.getD i 0), .int .i64 (([(t0 : Int), (t1 : Int), (t2 : Int)] : List Int).getD i 0 - 1)] (.agg [.str (X i).1, .str (X i).2]))
  (ga : Called Tryz.prog 20 [.agg [.ints .i64 [(t0 : Int), (t1 : Int), (t2 : Int)], .int .i64 out, .ints .i64 rd], .ints .i64 ix] (.tup [.ints .i64 v, .int .i64 0]))
  (ev : Called Tryz.prog 15 [.agg [.ints .i64 [(s0 : Int), (s1 : Int), (s2 : Int)], .int .i64 out, .ints .i64 data], .slf 2 3 (fun j => List.take 2 (List.drop (j * 2) [.str (X 0).1, .str (X 0).2, .str (X 1).1, .str (X 1).2, .str (X 2).1, .str (X 2).2]))] (.tup [.slf 2 out.toNat (fun j => List.take 2 (List.drop (j * 2) (wce Y out.toNat))), .int .i64 0]))
  (of2 : Called Tryz.prog 18 [.int .i64 131070, .int .i64 1] (.agg [.str H2.1, .str H2.2]))
  (tp : ∀ j, j < out.toNat → Called Tryz.prog 23 [.agg [.str (Y j).1, .str (Y j).2], .agg [.str H2.1, .str H2.2]] (.agg [.str (P j).1, .str (P j).2]))
  (ol : ∀ j, j < out.toNat → Called Tryz.prog 18 [.int .i64 (2 * v.getD j 0 - 1), .int .i64 1] (.agg [.str (LO j).1, .str (LO j).2]))
  (oh : ∀ j, j < out.toNat → Called Tryz.prog 18 [.int .i64 (2 * v.getD j 0 + 1), .int .i64 1] (.agg [.str (HI j).1, .str (HI j).2]))
  (ll : ∀ j, j < out.toNat → Called Tryz.prog 21 [.agg [.str (P j).1, .str (P j).2], .agg [.str (LO j).1, .str (LO j).2]] (.bool false))
  (lh : ∀ j, j < out.toNat → Called Tryz.prog 21 [.agg [.str (HI j).1, .str (HI j).2], .agg [.str (P j).1, .str (P j).2]] (.bool false)) :
  Called Tryz.prog 9 [.agg [.ints .u8 ds, .int .u8 oo, .ints .u16 vals, .bool sm], .int .u16 z] (.bool true) := by
 have qe := jcp [(t0 : Int), (t1 : Int), (t2 : Int)] [(t0 : Int), (t1 : Int), (t2 : Int)] (by simp) (by simp)
 have et0 := ht.1
 have bt0 : 2 ≤ t0 ∧ t0 ≤ 5 := by omega
 have et1 := ht.2.1
 have bt1 : 2 ≤ t1 ∧ t1 ≤ 5 := by omega
 have et2 := ht.2.2
 have bt2 : 2 ≤ t2 ∧ t2 ≤ 5 := by omega
 have hsl : (([(s0 : Int), (s1 : Int), (s2 : Int)].length : Nat) : Int) = 3 := rfl
 have hvl : ((v.length : Nat) : Int) = out := by rw [hv]; omega
 have hyl : ((out.toNat : Nat) : Int) = out := by omega
 have hxl : ((ix.length : Nat) : Int) = 3 := by rw [hlx]; rfl
 have hdv : (rd.length : Int) / out = (pr : Int) := by rw [hrd]; exact Int.mul_ediv_cancel _ (by omega)
 have hmd : 0 ≤ z % (pr : Int) ∧ z % (pr : Int) < pr := ⟨jic _ (by omega), jiA _ (by omega)⟩
 refine V.en tbOk Tryz.func9 ?_
 refine V.r3 jhL wk gd r1 ?_
 refine Lp.ghostSlot 47 8 .i64 (by decide) ?_
 (conv => whnf)
 refine jac (0 : Nat) (fun k => k ≤ 3) (fun k => 3 - k) (fun k => [(37, .int .i64 (k : Nat)), (8, .osl 47 0 k)]) (fun k => [(47, .arr .i64 (rzS3 t0 t1 t2 k))]) ?_ ?_ ?_
 ·exact V.wk
 ·exact jib _
 intro k hk
 have hk4 : k = 0 ∨ k = 1 ∨ k = 2 ∨ k = 3 := by omega
 rcases hk4 with e | e | e | e
 all_goals subst e
 ·simp only [k0, rzS3]
  refine V.r0 (V.a5 jhL hsl et0 et1 et2) ?_
  exact ⟨1, by omega, by omega, V.wk⟩
 ·simp only [k1, rzS3]
  refine V.r0 (V.a5 jhL hsl et0 et1 et2) ?_
  exact ⟨2, by omega, by omega, V.wk⟩
 ·simp only [k2, rzS3]
  refine V.r0 (V.a5 jhL hsl et0 et1 et2) ?_
  exact ⟨3, by omega, by omega, V.wk⟩
 ·simp only [k3, rzS3]
  refine V.r5 (V.a3 jhL hsl hdv) r2 sa qe ck iq ?_
  refine jac (0 : Nat) (fun k => k ≤ 3) (fun k => 3 - k) (fun k => [(92, .int .i64 (k : Nat)), (14, rfxW k)]) (fun k => rfxH X k) ?_ ?_ ?_
  ·exact V.wk
  ·exact jib _
  intro k hk
  have hk4 : k = 0 ∨ k = 1 ∨ k = 2 ∨ k = 3 := by omega
  rcases hk4 with e | e | e | e
  all_goals subst e
  ·simp only [k0, rfxW, rfxH]
   have c1 := xo 0 (by omega)
   have hi1 := hix 0
   refine V.r1 (V.a3 jhL hsl hxl) c1 ?_
   exact ⟨1, by omega, by omega, V.wk⟩
  ·simp only [k1, rfxW, rfxH]
   have c1 := xo 1 (by omega)
   have hi1 := hix 1
   refine V.r1 (V.a3 jhL hsl hxl) c1 ?_
   exact ⟨2, by omega, by omega, V.wk⟩
  ·simp only [k2, rfxW, rfxH]
   have c1 := xo 2 (by omega)
   have hi1 := hix 2
   refine V.r1 (V.a3 jhL hsl hxl) c1 ?_
   exact ⟨3, by omega, by omega, V.wk⟩
  ·simp only [k3, rfxW, rfxH]
   refine V.r2 (V.a3 jhL hsl hxl) ga ev ?_
   refine Cnd.split (CondB.mk (fun h => absurd h (by rw [hvl, hyl]; simp)) (fun _ => ?_))
   refine V.r0 jhL ?_
   refine lp_go (out.toNat) (fun k => True) (fun k => [(135, .int .i64 k)]) (fun k => []) V.wk ?_ ?_
   ·trivial
   intro k hk _
   (conv => whnf)
   refine V.st ?_
   refine V.br (fun h => ?_) (fun h => ?_)
   ·simp only [decide_eq_true_eq] at h
    have hk1 : k < out.toNat := by omega
    have e := jev Y out.toNat k hk1
    have c1 := tp k hk1
    have c2 := ol k hk1
    have c3 := oh k hk1
    have c4 := ll k hk1
    have c5 := lh k hk1
    have hvk := hvb k
    have hkv : (k : Int) < v.length := by rw [hv]; omega
    refine V.r0 jhL ?_
    refine ⟨(V.tk [0,1,2,3] (.ev (.cons 4 [3,2,1,0] (.ev (.cons 5 [] (V.e1 6 [] (V.e1 7 [] .done)) (.cons 6 [3,2,1,0] (V.e1 5 [] (V.e1 7 [] .done)) .nil))) (.cons 6 [3,2,1,0] (V.e1 4 [3,2,1,0] (V.e1 5 [] (V.e1 7 [] .done))) .nil)))), [], V.pok, ?_⟩
    refine jab [(22, .box 22 0)] [(22, .box [.str (P k).1, .str (P k).2])] ?_ ?_
    ·(conv => whnf); (try simp only [jhL])
     repeat' (first | exact V.wk | ((with_reducible refine And.intro ?_ jaB); (conv => whnf); (try simp only [jhL])) | ((with_reducible first | refine jas ?_ ?_ | refine jay ?_ ?_) <;> (conv => whnf); (try simp only [jhL])) | ((first | refine V.s1 ?_ | ((with_reducible refine jap ?_ ?_); (focus ((conv => whnf); (try simp only [jhL]); (repeat ((first | refine V.s1 ?_ | ((simp only [e]); (conv => whnf))); (try simp only [jhL]))); exact ⟨rfl⟩)); (conv => whnf)) | ((try ((with_reducible refine .ext ?_); (conv => whnf); (try simp only [jhL]))); (with_reducible refine jaa (r := ?_) ?_ ?_); rotate_left; (focus (first | exact (of2) | exact (c1))); (conv => whnf)) | ((simp only [e]); (conv => whnf))); (try simp only [jhL])) | (refine And.intro ?_ ?_ <;> (conv => whnf); (try simp only [jhL])))
    refine V.r0 jhL ?_
    refine ⟨(V.tk [0,1,2,3,4,5,6] (V.e1 7 [0] (V.e1 8 [] (V.tk [9,10,11,12,13,14,15,17] (V.e1 16 [17] (V.e1 18 [] (V.tk [19] .done))))))), [], V.pok, ?_⟩
    refine jab [(163, .bool false)] [] ?_ ?_
    ·exact V.d4 jhL c2 c3 c4 c5
    refine V.r0 jhL ?_
    exact ⟨k + 1, ⟨by omega, trivial⟩, by omega, V.wk⟩
   ·refine V.r0 jhL ?_
    exact Fin.of rfl
end Go.Proofs.YtgjgpdceghjajaaGreatDoor
end
section
namespace Go.Proofs.YtgjgpdceghjajaaGreatDoor
open Go Go.V Go.Nb
def fl (q : Rat) : Int := q.num / (q.den : Int)
def gtr (m x : Rat) : Rat := if m < x then x else m
theorem ordQ_lt {x y : Rat} : ordQ x y < 0 ↔ x < y := by
 unfold ordQ
 by_cases a : x < y
 ·rw [if_pos a]; exact ⟨fun _ => a, fun _ => by omega⟩
 ·rw [if_neg a]
  by_cases b : x = y
  ·rw [if_pos b]; exact ⟨fun h => by omega, fun h => absurd h a⟩
  ·rw [if_neg b]; exact ⟨fun h => by omega, fun h => absurd h a⟩
theorem ordQ_gt {x y : Rat} : ordQ x y > 0 ↔ y < x := by
 unfold ordQ
 by_cases a : x < y
 ·rw [if_pos a]; exact ⟨fun h => by omega, fun h => absurd h (Rat.not_lt.2 (Rat.le_of_lt a))⟩
 ·rw [if_neg a]
  by_cases b : x = y
  ·rw [if_pos b, b]; exact ⟨fun h => by omega, fun h => absurd h (Rat.lt_irrefl)⟩
  ·rw [if_neg b]; exact ⟨fun _ => Rat.lt_of_le_of_ne (Rat.not_lt.1 a) (Ne.symm b), fun _ => by omega⟩
def hasR (x : Rat) (p q : Int) : Bool := decide (ordQ x (unit p) ≥ 0) && decide (ordQ x (unit q) ≤ 0)
theorem jgO (n d : Int) (hd : 0 < d) : (Rat.divInt n d).num * d = n * ((Rat.divInt n d).den : Int) := by
 have h := (Rat.divInt n d).den_pos
 rw [← Rat.divInt_eq_divInt_iff (by omega) (by omega), jiH]
theorem divInt_lt' (n d : Int) (hd : 0 < d) (x : Rat) : Rat.divInt n d < x ↔ n * x.den < x.num * d := by
 have e := jgO n d hd
 have hb : (0 : Int) < ((Rat.divInt n d).den : Int) := by have := (Rat.divInt n d).den_pos; omega
 rw [Rat.lt_iff]
 generalize (Rat.divInt n d).num = a at *
 generalize ((Rat.divInt n d).den : Int) = b at *
 have e1 : a * x.den * d = n * x.den * b := by
  rw [Int.mul_right_comm, e, Int.mul_right_comm]
 have e2 : x.num * b * d = x.num * d * b := by rw [Int.mul_right_comm]
 constructor
 ·intro h
  have := Int.mul_lt_mul_of_pos_right h hd
  rw [e1, e2] at this
  exact Int.lt_of_mul_lt_mul_right this (by omega)
 ·intro h
  have := Int.mul_lt_mul_of_pos_right h hb
  rw [← e1, ← e2] at this
  exact Int.lt_of_mul_lt_mul_right this (by omega)
theorem divInt_eq' (n d : Int) (hd : 0 < d) (x : Rat) : x = Rat.divInt n d ↔ x.num * d = n * x.den := by
 have hp := x.den_pos
 conv => lhs; rw [← jiH x]
 exact Rat.divInt_eq_divInt_iff (by omega) (by omega)
theorem ord_ge (x y : Rat) : ordQ x y ≥ 0 ↔ ¬ x < y := by
 have := ordQ_lt (x := x) (y := y)
 constructor
 ·intro h h2; have := this.2 h2; omega
 ·intro h
  rcases Int.lt_or_le (ordQ x y) 0 with h2 | h2
  ·exact absurd (this.1 h2) h
  ·exact h2
theorem ord_le (x y : Rat) : ordQ x y ≤ 0 ↔ ¬ y < x := by
 have := ordQ_gt (x := x) (y := y)
 constructor
 ·intro h h2; have := this.2 h2; omega
 ·intro h
  rcases Int.lt_or_le 0 (ordQ x y) with h2 | h2
  ·exact absurd (this.1 h2) h
  ·exact h2
theorem jfR (m : Int) (x : Rat) : unit m < x ↔ m * x.den < x.num * 1000000000000 := divInt_lt' m _ (by decide) x
theorem jfS (m : Int) (x : Rat) : x = unit m ↔ x.num * 1000000000000 = m * x.den := divInt_eq' m _ (by decide) x
theorem jhi (m : Int) (x : Rat) : x < unit m ↔ x.num * 1000000000000 < m * x.den := by
 have h1 := jfR m x
 have h2 := jfS m x
 constructor
 ·intro h
  have a1 : ¬ unit m < x := Rat.not_lt.2 (Rat.le_of_lt h)
  have a2 : ¬ x = unit m := Rat.ne_of_lt h
  rw [h1] at a1
  rw [h2] at a2
  omega
 ·intro h
  have a1 : ¬ unit m < x := fun g => by have := h1.1 g; omega
  have a2 : ¬ x = unit m := fun g => by have := h2.1 g; omega
  exact Rat.lt_of_le_of_ne (Rat.not_lt.1 a1) a2
theorem jgd (x : Rat) (p q : Int) : hasR x p q = true ↔ p * x.den ≤ x.num * 1000000000000 ∧ x.num * 1000000000000 ≤ q * x.den := by
 unfold hasR
 rw [jh9, decide_eq_true_eq, decide_eq_true_eq, ord_ge, ord_le, jhi, jfR]
 omega
theorem jhh (x : Rat) : 2 * (nearZ x 1000000000000 * x.den) ≤ 2 * (x.num * 1000000000000) + x.den ∧ 2 * (x.num * 1000000000000) + x.den < 2 * (nearZ x 1000000000000 * x.den) + 2 * x.den := by
 have hp := x.den_pos
 unfold nearZ
 have h1 := jid (x.num * ((1000000000000 * 2 : Nat) : Int) + x.den) ((x.den * 2 : Nat) : Int)
 have h2 := jic (x.num * ((1000000000000 * 2 : Nat) : Int) + x.den) (show ((x.den * 2 : Nat) : Int) ≠ 0 by omega)
 have h3 := jiA (x.num * ((1000000000000 * 2 : Nat) : Int) + x.den) (show 0 < ((x.den * 2 : Nat) : Int) by omega)
 generalize (x.num * ((1000000000000 * 2 : Nat) : Int) + x.den) % ((x.den * 2 : Nat) : Int) = r at *
 generalize (x.num * ((1000000000000 * 2 : Nat) : Int) + x.den) / ((x.den * 2 : Nat) : Int) = n at *
 have e : ((x.den * 2 : Nat) : Int) * n = 2 * (n * x.den) := by
  rw [show ((x.den * 2 : Nat) : Int) = 2 * (x.den : Int) by omega, jiv, jiu (x.den : Int) n]
 rw [e] at h1
 generalize n * (x.den : Int) = y at *
 omega
theorem near_le (x : Rat) (K : Int) (h : -(K * x.den) ≤ x.num ∧ x.num ≤ K * x.den) : -(K * 1000000000000) - 1 ≤ nearZ x 1000000000000 ∧ nearZ x 1000000000000 ≤ K * 1000000000000 + 1 := by
 have hp := x.den_pos
 obtain ⟨b1, b2⟩ := jhh x
 generalize nearZ x 1000000000000 = n at *
 have e : K * 1000000000000 * (x.den : Int) = 1000000000000 * (K * x.den) := by rw [Int.mul_right_comm, jiu]
 constructor
 ·rcases Int.lt_or_le n (-(K * 1000000000000) - 1) with g | g
  ·exfalso
   have := jin (show n ≤ -(K * 1000000000000) - 2 by omega) (show (0 : Int) ≤ x.den by omega)
   rw [Int.sub_mul, Int.neg_mul, e] at this
   omega
  ·exact g
 ·rcases Int.lt_or_le (K * 1000000000000 + 1) n with g | g
  ·exfalso
   have := jin (show K * 1000000000000 + 2 ≤ n by omega) (show (0 : Int) ≤ x.den by omega)
   rw [jiD, e] at this
   omega
  ·exact g
theorem around_law (x : Rat) (h : -999999999999999999 ≤ nearZ x 1000000000000 ∧ nearZ x 1000000000000 ≤ 999999999999999999) :
  ∃ p q, jc8 x = (p, q, 0) ∧ vb p q = true ∧ q - p ≤ 1 ∧ hasR x p q = true ∧ (p = q ↔ unit p = x) := by
 have hp := x.den_pos
 obtain ⟨b1, b2⟩ := jhh x
 unfold jc8
 rw [if_pos (jbw.2 (by omega))]
 generalize nearZ x 1000000000000 = n at *
 have l1 := jhi n x
 have l2 := jfR n x
 have e1 : (n + -1) * (x.den : Int) = n * x.den - x.den := by rw [jiD]; omega
 have e2 : (n + 1) * (x.den : Int) = n * x.den + x.den := by rw [jiD]; omega
 by_cases g1 : x < unit n
 ·have o : ordQ x (unit n) = -1 := by unfold ordQ; rw [if_pos g1]
  rw [o, show min (-1 : Int) 0 = -1 from rfl, show max (-1 : Int) 0 = 0 from rfl, mk_ok (by omega), jiB]
  have := l1.1 g1
  refine ⟨_, _, rfl, jbw.2 (by omega), by omega, (jgd _ _ _).2 (by rw [e1]; omega), ⟨fun h => by omega, fun h => ?_⟩⟩
  have := (jfS (n + -1) x).1 h.symm
  rw [e1] at this
  omega
 ·by_cases g2 : x = unit n
  ·have o : ordQ x (unit n) = 0 := by unfold ordQ; rw [if_neg g1, if_pos g2]
   rw [o, show min (0 : Int) 0 = 0 from rfl, show max (0 : Int) 0 = 0 from rfl, mk_ok (by omega), jiB]
   have := (jfS n x).1 g2
   exact ⟨_, _, rfl, jbw.2 (by omega), by omega, (jgd _ _ _).2 (by omega), ⟨fun _ => g2.symm, fun _ => rfl⟩⟩
  ·have o : ordQ x (unit n) = 1 := by unfold ordQ; rw [if_neg g1, if_neg g2]
   rw [o, show min (1 : Int) 0 = 0 from rfl, show max (1 : Int) 0 = 1 from rfl, mk_ok (by omega), jiB]
   have h3 : unit n < x := Rat.lt_of_le_of_ne (Rat.not_lt.1 g1) (Ne.symm g2)
   have := l2.1 h3
   exact ⟨_, _, rfl, jbw.2 (by omega), by omega, (jgd _ _ _).2 (by rw [e2]; omega), ⟨fun h => by omega, fun h => absurd h.symm g2⟩⟩
theorem near_unit (m : Int) : nearZ (unit m) 1000000000000 = m := by
 obtain ⟨b1, b2⟩ := jhh (unit m)
 have h := (jfS m (unit m)).1 rfl
 have hp := (unit m).den_pos
 generalize nearZ (unit m) 1000000000000 = n at *
 rw [h] at b1 b2
 generalize (unit m).den = d at *
 rcases Int.lt_trichotomy n m with g | g | g
 ·exfalso
  have := jin (show n + 1 ≤ m by omega) (show (0 : Int) ≤ d by omega)
  rw [jiD] at this
  omega
 ·exact g
 ·exfalso
  have := jin (show m + 1 ≤ n by omega) (show (0 : Int) ≤ d by omega)
  rw [jiD] at this
  omega
theorem jff (m : Int) (h : vb m m = true) : jc8 (unit m) = (m, m, 0) := by
 unfold jc8
 rw [near_unit, if_pos h, show ordQ (unit m) (unit m) = 0 by unfold ordQ; rw [if_neg Rat.lt_irrefl, if_pos rfl]]
 rw [show min (0 : Int) 0 = 0 from rfl, show max (0 : Int) 0 = 0 from rfl, jiB]
 unfold mk
 rw [if_pos h]
def flU (x : Rat) : Int := (x * 1000000000000).floor
def clU (x : Rat) : Int := -((-(x * 1000000000000)).floor)
theorem jgp (m : Int) : unit m = (m : Rat) / 1000000000000 := by
 unfold unit
 rw [Rat.divInt_eq_div]
 rfl
theorem jex {x : Rat} {m : Int} : unit m ≤ x ↔ (m : Rat) ≤ x * 1000000000000 := by
 rw [jgp]
 constructor <;> intro h <;> grind
theorem jeN {x : Rat} {m : Int} : x ≤ unit m ↔ x * 1000000000000 ≤ (m : Rat) := by
 rw [jgp]
 constructor <;> intro h <;> grind
theorem jfE {x : Rat} {m : Int} : m ≤ flU x ↔ (m : Rat) ≤ x * 1000000000000 := Rat.le_floor_iff
theorem jfI {x : Rat} {m : Int} : clU x ≤ m ↔ x * 1000000000000 ≤ (m : Rat) := by
 unfold clU
 have := Rat.le_floor_iff (x := -m) (a := -(x * 1000000000000))
 rw [Rat.intCast_neg] at this
 constructor
 ·intro h
  have := this.1 (by omega)
  grind
 ·intro h
  have := this.2 (by grind)
  omega
theorem flU_mono {x y : Rat} (h : x ≤ y) : flU x ≤ flU y := jfE.2 (by
 have := jfE.1 (Int.le_refl (flU x))
 grind)
theorem clU_mono {x y : Rat} (h : x ≤ y) : clU x ≤ clU y := jfI.2 (by
 have := jfI.1 (Int.le_refl (clU y))
 grind)
theorem fl_cl {x y : Rat} (h : x ≤ y) : flU x ≤ clU y := by
 have h1 := jfE.1 (Int.le_refl (flU x))
 have h2 := jfI.1 (Int.le_refl (clU y))
 have h3 : ((flU x : Int) : Rat) ≤ ((clU y : Int) : Rat) := by grind
 exact Rat.intCast_le_intCast.1 h3
theorem around_fl {x : Rat} (h : -100000 ≤ x ∧ x ≤ 100000) : jc8 x = (flU x, clU x, 0) ∧ (-100000000000000001 ≤ nearZ x 1000000000000 ∧ nearZ x 1000000000000 ≤ 100000000000000001) := by
 have hd := x.den_pos
 have k1 : x.num ≤ 100000 * x.den := by
  have := (Rat.le_iff (a := x) (b := 100000)).1 h.2
  rw [show (100000 : Rat).num = 100000 from rfl, show (100000 : Rat).den = 1 from rfl] at this
  omega
 have k2 : -(100000 * (x.den : Int)) ≤ x.num := by
  have := (Rat.le_iff (a := -100000) (b := x)).1 h.1
  rw [show (-100000 : Rat).num = -100000 from rfl, show (-100000 : Rat).den = 1 from rfl] at this
  omega
 have nl := near_le x 100000 ⟨k2, k1⟩
 refine ⟨?_, by omega⟩
 obtain ⟨p, q, e, hv, hq, hh, hu⟩ := around_law x (by omega)
 have hb := (jgd x p q).1 hh
 have p1 : unit p ≤ x := Rat.not_lt.1 fun g => by have := (jhi p x).1 g; omega
 have q1 : x ≤ unit q := Rat.not_lt.1 fun g => by have := (jfR q x).1 g; omega
 have vi := jbw.1 hv
 have f1 : p ≤ flU x := jfE.2 (jex.1 p1)
 have c1 : clU x ≤ q := jfI.2 (jeN.1 q1)
 have f2 : flU x ≤ p := by
  have g1 := jfE.1 (Int.le_refl (flU x))
  rcases Int.lt_or_le p (flU x) with g | g
  ·have e2 : flU x ≤ q := Int.le_trans (fl_cl Rat.le_refl) c1
   have e3 : flU x = q := by omega
   have e4 : unit q = x := Rat.le_antisymm (jex.2 (by rw [← e3]; exact g1)) q1
   have e5 := jff q (jbw.2 (by omega))
   rw [e4, e] at e5
   have : p = q := congrArg Prod.fst e5
   omega
  ·exact g
 have c2 : q ≤ clU x := by
  have g1 := jfI.1 (Int.le_refl (clU x))
  rcases Int.lt_or_le (clU x) q with g | g
  ·have e2 : p ≤ clU x := Int.le_trans f1 (fl_cl Rat.le_refl)
   have e3 : clU x = p := by omega
   have e4 : unit p = x := Rat.le_antisymm p1 (jeN.2 (by rw [← e3]; exact g1))
   have e5 := jff p (jbw.2 (by omega))
   rw [e4, e] at e5
   have : q = p := congrArg (fun r => r.2.1) e5
   omega
  ·exact g
 rw [e, show p = flU x from by omega, show q = clU x from by omega]
theorem jes {n : Nat} {x : Rat} (h : Fq n x) (h0 : 0 < n ∧ n ≤ 600) (hb : -100000 ≤ x ∧ x ≤ 100000) : Called Tryz.prog 102 [frT x] (.tup [.agg [.int .i64 (flU x), .int .i64 (clU x)], .int .i64 0]) := by
 have o := jaM (h.ok h0.1 h0.2)
 have a := around_fl hb
 have c := around_b (decZ x.num) (dec x.den) o.1 (by rw [o.2]; omega)
 rw [o.2, a.1] at c
 exact c
def preI (k : Nat) (l : List D) : List D := l.take k ++ List.replicate (l.length - k) (.int .i64 0)
theorem jhW : type_of% @jif ∧ type_of% @tn0 ∧ type_of% @tn1 ∧ type_of% @tn2 ∧ type_of% @tn3 ∧ type_of% @xt4 := ⟨@jif, @tn0, @tn1, @tn2, @tn3, @xt4⟩
theorem blist2a {F : Nat} {e0 n0 : Nat} {f0 : Nat → List D} (T : Nat → Int × Int) (c0 : Called Tryz.prog F (.int .i64 0 :: [.ref [.slf e0 n0 f0]]) (.tup [.agg [.int .i64 (T 0).1, .int .i64 (T 0).2], .int .i64 0])) (c1 : Called Tryz.prog F (.int .i64 1 :: [.ref [.slf e0 n0 f0]]) (.tup [.agg [.int .i64 (T 1).1, .int .i64 (T 1).2], .int .i64 0])) :
  Called Tryz.prog 55 [.int .i64 2, .fn F [] [.ref [.slf e0 n0 f0]]] (.tup [.slf 2 2 (fun j => List.take 2 (List.drop (j * 2) [.int .i64 (T 0).1, .int .i64 (T 0).2, .int .i64 (T 1).1, .int .i64 (T 1).2])), .int .i64 0]) := by
 refine V.en tbOk Tryz.func55 ?_
 refine V.r0 @jif ?_
 refine jac (0) (fun k => k ≤ 2) (fun k => 2 - k) (fun k => [(14, .int .i64 k)]) (fun k => [(11, .box (preI (2 * k) [.int .i64 (T 0).1, .int .i64 (T 0).2, .int .i64 (T 1).1, .int .i64 (T 1).2]))]) ?_ ?_ ?_
 ·exact V.wk
 ·exact jib _
 intro k hk
 have hk4 : k = 0 ∨ k = 1 ∨ k = 2 := by omega
 rcases hk4 with e | e | e
 all_goals subst e
 ·simp only [k0]
  refine V.r1 jhW c0 ?_
  exact ⟨1, by omega, by omega, V.wk⟩
 ·simp only [k1]
  refine V.r1 jhW c1 ?_
  exact ⟨2, by omega, by omega, V.wk⟩
 ·simp only [k2]
  refine V.r0 @jif ?_
  exact Fin.of rfl
theorem blist4b {F : Nat} {p0 p1 p2 p3 q0 q1 q2 q3 : List UInt8} (T : Nat → Int × Int) (c0 : Called Tryz.prog F (.int .i64 0 :: [.ref [.str p0, .str q0], .ref [.str p1, .str q1], .ref [.str p2, .str q2], .ref [.str p3, .str q3]]) (.tup [.agg [.int .i64 (T 0).1, .int .i64 (T 0).2], .int .i64 0])) (c1 : Called Tryz.prog F (.int .i64 1 :: [.ref [.str p0, .str q0], .ref [.str p1, .str q1], .ref [.str p2, .str q2], .ref [.str p3, .str q3]]) (.tup [.agg [.int .i64 (T 1).1, .int .i64 (T 1).2], .int .i64 0])) (c2 : Called Tryz.prog F (.int .i64 2 :: [.ref [.str p0, .str q0], .ref [.str p1, .str q1], .ref [.str p2, .str q2], .ref [.str p3, .str q3]]) (.tup [.agg [.int .i64 (T 2).1, .int .i64 (T 2).2], .int .i64 0])) (c3 : Called Tryz.prog F (.int .i64 3 :: [.ref [.str p0, .str q0], .ref [.str p1, .str q1], .ref [.str p2, .str q2], .ref [.str p3, .str q3]]) (.tup [.agg [.int .i64 (T 3).1, .int .i64 (T 3).2], .int .i64 0])) :
  Called Tryz.prog 55 [.int .i64 4, .fn F [] [.ref [.str p0, .str q0], .ref [.str p1, .str q1], .ref [.str p2, .str q2], .ref [.str p3, .str q3]]] (.tup [.slf 2 4 (fun j => List.take 2 (List.drop (j * 2) [.int .i64 (T 0).1, .int .i64 (T 0).2, .int .i64 (T 1).1, .int .i64 (T 1).2, .int .i64 (T 2).1, .int .i64 (T 2).2, .int .i64 (T 3).1, .int .i64 (T 3).2])), .int .i64 0]) := by
 refine V.en tbOk Tryz.func55 ?_
 refine V.r0 @jif ?_
 refine jac (0) (fun k => k ≤ 4) (fun k => 4 - k) (fun k => [(14, .int .i64 k)]) (fun k => [(11, .box (preI (2 * k) [.int .i64 (T 0).1, .int .i64 (T 0).2, .int .i64 (T 1).1, .int .i64 (T 1).2, .int .i64 (T 2).1, .int .i64 (T 2).2, .int .i64 (T 3).1, .int .i64 (T 3).2]))]) ?_ ?_ ?_
 ·exact V.wk
 ·exact jib _
 intro k hk
 have hk4 : k = 0 ∨ k = 1 ∨ k = 2 ∨ k = 3 ∨ k = 4 := by omega
 rcases hk4 with e | e | e | e | e
 all_goals subst e
 ·simp only [k0]
  refine V.r1 jhW c0 ?_
  exact ⟨1, by omega, by omega, V.wk⟩
 ·simp only [k1]
  refine V.r1 jhW c1 ?_
  exact ⟨2, by omega, by omega, V.wk⟩
 ·simp only [k2]
  refine V.r1 jhW c2 ?_
  exact ⟨3, by omega, by omega, V.wk⟩
 ·simp only [k3]
  refine V.r1 jhW c3 ?_
  exact ⟨4, by omega, by omega, V.wk⟩
 ·simp only [xk4]
  refine V.r0 @jif ?_
  exact Fin.of rfl
theorem blist1c {F : Nat} {e0 n0 e1 n1 e2 n2 : Nat} {f0 f1 f2 : Nat → List D} {g0 g1 : List Int} (T : Nat → Int × Int) (c0 : Called Tryz.prog F (.int .i64 0 :: [.ref [.slf e0 n0 f0], .ref [.slf e1 n1 f1], .ref [.slf e2 n2 f2], .ref [.ints .i64 g0], .ref [.ints .i64 g1]]) (.tup [.agg [.int .i64 (T 0).1, .int .i64 (T 0).2], .int .i64 0])) :
  Called Tryz.prog 55 [.int .i64 1, .fn F [] [.ref [.slf e0 n0 f0], .ref [.slf e1 n1 f1], .ref [.slf e2 n2 f2], .ref [.ints .i64 g0], .ref [.ints .i64 g1]]] (.tup [.slf 2 1 (fun j => List.take 2 (List.drop (j * 2) [.int .i64 (T 0).1, .int .i64 (T 0).2])), .int .i64 0]) := by
 refine V.en tbOk Tryz.func55 ?_
 refine V.r0 @jif ?_
 refine jac (0) (fun k => k ≤ 1) (fun k => 1 - k) (fun k => [(14, .int .i64 k)]) (fun k => [(11, .box (preI (2 * k) [.int .i64 (T 0).1, .int .i64 (T 0).2]))]) ?_ ?_ ?_
 ·exact V.wk
 ·exact jib _
 intro k hk
 have hk4 : k = 0 ∨ k = 1 := by omega
 rcases hk4 with e | e
 all_goals subst e
 ·simp only [k0]
  refine V.r1 jhW c0 ?_
  exact ⟨1, by omega, by omega, V.wk⟩
 ·simp only [k1]
  refine V.r0 @jif ?_
  exact Fin.of rfl
theorem conf1_0 (p0 p1 p2 p3 q0 q1 q2 q3 : List UInt8) (b : Int × Int) (c : Called Tryz.prog 102 [.agg [.str p0, .str q0]] (.tup [.agg [.int .i64 b.1, .int .i64 b.2], .int .i64 0])) : Called Tryz.prog 101 (.int .i64 0 :: [.ref [.str p0, .str q0], .ref [.str p1, .str q1], .ref [.str p2, .str q2], .ref [.str p3, .str q3]]) (.tup [.agg [.int .i64 b.1, .int .i64 b.2], .int .i64 0]) := by
 refine V.en tbOk Tryz.func101 ?_
 refine V.r1 jhW c ?_
 exact Fin.of rfl
theorem conf1_1 (p0 p1 p2 p3 q0 q1 q2 q3 : List UInt8) (b : Int × Int) (c : Called Tryz.prog 102 [.agg [.str p1, .str q1]] (.tup [.agg [.int .i64 b.1, .int .i64 b.2], .int .i64 0])) : Called Tryz.prog 101 (.int .i64 1 :: [.ref [.str p0, .str q0], .ref [.str p1, .str q1], .ref [.str p2, .str q2], .ref [.str p3, .str q3]]) (.tup [.agg [.int .i64 b.1, .int .i64 b.2], .int .i64 0]) := by
 refine V.en tbOk Tryz.func101 ?_
 refine V.r1 jhW c ?_
 exact Fin.of rfl
theorem conf1_2 (p0 p1 p2 p3 q0 q1 q2 q3 : List UInt8) (b : Int × Int) (c : Called Tryz.prog 102 [.agg [.str p2, .str q2]] (.tup [.agg [.int .i64 b.1, .int .i64 b.2], .int .i64 0])) : Called Tryz.prog 101 (.int .i64 2 :: [.ref [.str p0, .str q0], .ref [.str p1, .str q1], .ref [.str p2, .str q2], .ref [.str p3, .str q3]]) (.tup [.agg [.int .i64 b.1, .int .i64 b.2], .int .i64 0]) := by
 refine V.en tbOk Tryz.func101 ?_
 refine V.r1 jhW c ?_
 exact Fin.of rfl
theorem conf1_3 (p0 p1 p2 p3 q0 q1 q2 q3 : List UInt8) (b : Int × Int) (c : Called Tryz.prog 102 [.agg [.str p3, .str q3]] (.tup [.agg [.int .i64 b.1, .int .i64 b.2], .int .i64 0])) : Called Tryz.prog 101 (.int .i64 3 :: [.ref [.str p0, .str q0], .ref [.str p1, .str q1], .ref [.str p2, .str q2], .ref [.str p3, .str q3]]) (.tup [.agg [.int .i64 b.1, .int .i64 b.2], .int .i64 0]) := by
 refine V.en tbOk Tryz.func101 ?_
 refine V.r1 jhW c ?_
 exact Fin.of rfl
theorem bands1_20 (X : Nat → Int × Int) (b : Int × Int) (c : Called Tryz.prog 57 [.agg [.int .i64 (X 0).1, .int .i64 (X 0).2], .int .i64 0, .int .i64 1000000000000] (.tup [.agg [.int .i64 b.1, .int .i64 b.2], .int .i64 0])) : Called Tryz.prog 56 (.int .i64 0 :: [.ref [.slf 2 2 (fun j => List.take 2 (List.drop (j * 2) [.int .i64 (X 0).1, .int .i64 (X 0).2, .int .i64 (X 1).1, .int .i64 (X 1).2]))]]) (.tup [.agg [.int .i64 b.1, .int .i64 b.2], .int .i64 0]) := by
 refine V.en tbOk Tryz.func56 ?_
 refine V.r1 jhW c ?_
 exact Fin.of rfl
theorem bands1_21 (X : Nat → Int × Int) (b : Int × Int) (c : Called Tryz.prog 57 [.agg [.int .i64 (X 1).1, .int .i64 (X 1).2], .int .i64 0, .int .i64 1000000000000] (.tup [.agg [.int .i64 b.1, .int .i64 b.2], .int .i64 0])) : Called Tryz.prog 56 (.int .i64 1 :: [.ref [.slf 2 2 (fun j => List.take 2 (List.drop (j * 2) [.int .i64 (X 0).1, .int .i64 (X 0).2, .int .i64 (X 1).1, .int .i64 (X 1).2]))]]) (.tup [.agg [.int .i64 b.1, .int .i64 b.2], .int .i64 0]) := by
 refine V.en tbOk Tryz.func56 ?_
 refine V.r1 jhW c ?_
 exact Fin.of rfl
end Go.Proofs.YtgjgpdceghjajaaGreatDoor
end
