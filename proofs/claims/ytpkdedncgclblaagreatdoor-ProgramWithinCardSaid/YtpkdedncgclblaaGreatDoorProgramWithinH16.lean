/- What functions of the program answer at given values, part 16. Conditions: those that each theorem names. -/
import Derived.Test.YtpkdedncgclblaaGreatDoorProgramWithinH15
import Derived.Test.YtpkdedncgclblaaGreatDoorProgramWithinH6
import Derived.Test.YtpkdedncgclblaaGreatDoorProgramWithinH14
set_option linter.unusedSimpArgs false
set_option linter.unusedVariables false
set_option maxHeartbeats 8000000
set_option maxRecDepth 100000
section
namespace Go.Proofs.YtpkdedncgclblaaGreatDoor
open Go Go.V Go.Nb
def wU (p q u:Nat→Int)(i:Nat):Int:=u i%(q i-p i+1)
def wxS:Nat→D
 | 0 => .nil
 | k+1 => .bsl 88 0 (k+1) 2
def wxH (l:List D):Nat→Hp
 | 0=>[]
 | k+1=>[(88,.box (l.take ((k+1)*2)))]
theorem jhA:type_of% @jhS∧type_of% @jhR:=⟨@jhS,@jhR⟩
abbrev LR (Y:Nat→List UInt8×List UInt8)(n:Nat):D := .slf 2 n (fun j=>[.str (Y j).1,.str (Y j).2])
abbrev LB (Y:Nat→Int×Int)(n:Nat):D := .slf 2 n (fun j=>[.int .i64 (Y j).1,.int .i64 (Y j).2])
theorem within1_t (I O : Int) (l P : List (Int × Int)) (xs us : List Int) (p q u v : Nat → Int) (X Y : Nat → List UInt8 × List UInt8) (A S : Nat → Int × Int) (hO : 0 ≤ O ∧ O ≤ 255) (hx : xs.length = 8) (hus : us.length = 8)
    (hp : ∀ i, -32768 ≤ p i ∧ p i ≤ q i ∧ q i ≤ 32767) (hv : ∀ i, (0 ≤ u i ∧ u i ≤ 65535) ∧ 0 ≤ v i ∧ v i ≤ 65535) (hu : ∀ i, us.getD (0 + i * 2 + 0) 0 = u i ∧ us.getD (0 + i * 2 + 1) 0 = v i)
    (pr : Cl 17 [drD I O l] (oL P))
    (co : Cl 21 [drD I O l] (.int .i64 (1 + O % 3)))
    (sp : Cl 18 [drD I O l, .iarr .i16 xs] (sl2 1 [.int .i64 (1000000000 * p 0), .int .i64 (1000000000 * q 0)]))
    (xo : ∀ i, i < 1 → Cl 12 [.int .i64 (p i + wU p q u i), .int .i64 1000] (.agg [.str (X i).1, .str (X i).2]))
    (h : (∃ e f g : Int, ((e = 6 ∧ (f = 0 ∨ f = 6)) ∨ (e = 0 ∧ f = 6)) ∧ Cl 20 [oL P, sl2 1 [.str (X 0).1, .str (X 0).2], .int .i64 (1 + O % 3)] (.tup [.any, .int .i64 e]) ∧ Cl 22 [oL P, sl2 1 [.int .i64 (1000000000 * p 0 + 1000000000 * min (wU p q u 0) (wU p q v 0)), .int .i64 (1000000000 * p 0 + 1000000000 * max (wU p q u 0) (wU p q v 0))], .int .i64 (1 + O % 3)] (.tup [.any, .int .i64 f]) ∧ Cl 22 [oL P, sl2 1 [.int .i64 (1000000000 * p 0), .int .i64 (1000000000 * q 0)], .int .i64 (1 + O % 3)] (.tup [.any, .int .i64 g])) ∨
      (Cl 20 [oL P, sl2 1 [.str (X 0).1, .str (X 0).2], .int .i64 (1 + O % 3)] (.tup [LR Y (1 + O % 3).toNat, .int .i64 0]) ∧ Cl 22 [oL P, sl2 1 [.int .i64 (1000000000 * p 0 + 1000000000 * min (wU p q u 0) (wU p q v 0)), .int .i64 (1000000000 * p 0 + 1000000000 * max (wU p q u 0) (wU p q v 0))], .int .i64 (1 + O % 3)] (.tup [LB S (1 + O % 3).toNat, .int .i64 0]) ∧ (∀ j, j < (1 + O % 3).toNat → Cl 23 [.agg [.int .i64 (S j).1, .int .i64 (S j).2], .agg [.str (Y j).1, .str (Y j).2]] (.tup [.bool true, .int .i64 0])) ∧
        (Cl 22 [oL P, sl2 1 [.int .i64 (1000000000 * p 0), .int .i64 (1000000000 * q 0)], .int .i64 (1 + O % 3)] (.tup [LB A 0, .int .i64 6]) ∨ (Cl 22 [oL P, sl2 1 [.int .i64 (1000000000 * p 0), .int .i64 (1000000000 * q 0)], .int .i64 (1 + O % 3)] (.tup [LB A (1 + O % 3).toNat, .int .i64 0]) ∧ ∀ j, j < (1 + O % 3).toNat → (A j).1 ≤ (S j).1 ∧ (S j).2 ≤ (A j).2)))) :
    Cl 4 [drD I O l, .iarr .i16 xs, .iarr .u16 us] (.bool true) := by
  have wk := jgT
  have hyl : (((1 + O % 3).toNat : Nat) : Int) = 1 + O % 3 := by omega
  refine V.en tbOk Tryz.func4 ?_
  refine V.r1 jhA wk ?_
  refine ⟨Pq46z, [], V.pok, ?_⟩
  refine jal [(7, oL P), (8, sl2 1 [.int .i64 (1000000000 * p 0), .int .i64 (1000000000 * q 0)])] [] ?_ ?_
  · exact V.d2 jhA pr sp
  (conv => whnf)
  (try simp only [jhA])
  repeat ((first | refine V.s1 ?_ | ((try ((with_reducible refine .ext ?_); (conv => whnf); (try simp only [jhA]))); (with_reducible refine jaa (r := ?_) ?_ ?_); rotate_left; (focus (first | fail)); (conv => whnf)) | ((with_reducible refine .inl ?_); (conv => whnf); (first | refine ⟨0, _, _, ⟨Tryz.func19, rfl, rfl, jhL rfl⟩, ?_⟩); (conv => whnf))); (try simp only [jhA]))
  refine jaj (0 : Nat) (fun k => k ≤ 1) (fun k => 1 - k) (fun k => [(36, .int .i64 (k : Nat)), (10, wxS k)]) (fun k => (227, .box (List.take (k * 2) [.int .i64 (1000000000 * p 0 + 1000000000 * min (wU p q u 0) (wU p q v 0)), .int .i64 (1000000000 * p 0 + 1000000000 * max (wU p q u 0) (wU p q v 0))] ++ List.drop (k * 2) [.int .i64 (1000000000 * p 0), .int .i64 (1000000000 * q 0)])) :: wxH [.str (X 0).1, .str (X 0).2] k) ?_ ?_ ?_
  · exact V.wk
  · exact jhM _
  intro k hk
  have hk4 : k = 0 ∨ k = 1 := by omega
  rcases hk4 with e | e
  all_goals subst e
  · dsimp only [wxS, wxH]
    have c1 := xo 0 (by omega)
    have h1 := hp 0
    have h2 := hv 0
    have hm1 : 0 ≤ u 0 % (q 0 - p 0 + 1) ∧ u 0 % (q 0 - p 0 + 1) < q 0 - p 0 + 1 := ⟨jhN _ (by omega), jib _ (by omega)⟩
    have hm2 : 0 ≤ v 0 % (q 0 - p 0 + 1) ∧ v 0 % (q 0 - p 0 + 1) < q 0 - p 0 + 1 := ⟨jhN _ (by omega), jib _ (by omega)⟩
    have e0 : (1000000000 * q 0 - 1000000000 * p 0) / 1000000000 + 1 = q 0 - p 0 + 1 := by omega
    have e1 : (1000000000 * p 0).tdiv 1000000000 = p 0 := Int.mul_tdiv_cancel_left _ (by decide)
    have ga : us.getD (0 + ((0 : Nat) : Int).toNat * 2 + Int.toNat 0) 0 = u 0 := (hu 0).1
    have gb : us.getD (0 + ((0 : Nat) : Int).toNat * 2 + Int.toNat 1) 0 = v 0 := (hu 0).2
    refine V.r0 (V.a2 jhA e0) ?_
    refine ⟨Pq5z, [], V.pok, ?_⟩
    refine jal [(14, .int .i64 (u 0 % (q 0 - p 0 + 1))), (15, .int .i64 (v 0 % (q 0 - p 0 + 1)))] [] ?_ ?_
    · exact V.d0 (V.a2 ga gb)
    (conv => whnf)
    (try simp only [jhA, e1])
    repeat ((first | refine V.s1 ?_ | ((try ((with_reducible refine .ext ?_); (conv => whnf); (try simp only [jhA, e1]))); (with_reducible refine jaa (r := ?_) ?_ ?_); rotate_left; (focus (first | exact (c1))); (conv => whnf)) | ((refine Or.inr ⟨fun _ _ _ => ⟨by decide, by rw [e1]; exact ⟨by simp only [V.lo]; omega, by simp only [V.hi]; omega⟩⟩, ?_⟩); (conv => whnf))); (try simp only [jhA, e1]))
    exact ⟨1, by omega, by omega, V.wk⟩
  · dsimp only [wxS, wxH]
    rcases h with ⟨e, f, g, he, ry, rb, ra⟩ | ⟨ry, rb, hs, h⟩
    · rcases he with ⟨e6, f0 | f6⟩ | ⟨e0, f6⟩
      all_goals subst_vars
      all_goals
        (conv => whnf)
        (try simp only [jhA])
        repeat ((first | refine V.s1 ?_ | ((try ((with_reducible refine .ext ?_); (conv => whnf); (try simp only [jhA]))); (with_reducible refine jaa (r := ?_) ?_ ?_); rotate_left; (focus (first | exact (co) | exact (ry) | exact (rb) | exact (ra))); (conv => whnf)) | ((refine And.intro (fun _ h => absurd h (by decide)) ?_); (conv => whnf))); (try simp only [jhA]))
        exact Fin.of rfl
    rcases h with ra | ⟨ra, le⟩
    · (conv => whnf)
      repeat ((fail_if_success (with_reducible refine Cnd.split ?_)); refine V.s1 ?_; (try simp only [jhR]))
      refine V.s1 ?_
      (conv => whnf)
      (try simp only [jhA])
      repeat ((fail_if_success (with_reducible refine Cnd.split ?_)); (first | refine V.s1 ?_ | ((try ((with_reducible refine .ext ?_); (conv => whnf); (try simp only [jhA]))); (with_reducible refine jaa (r := ?_) ?_ ?_); rotate_left; (focus (first | exact co | exact ry | exact rb | exact ra)); (conv => whnf))); (try simp only [jhA]))
      refine V.cnd_to [(3, .box 3 0), (16, LR Y (1 + O % 3).toNat), (18, LB S (1 + O % 3).toNat), (20, LB A 0), (21, .int .i64 6)] [(3, .box [.int .u8 I, .int .u8 O, dsD l])] (CondB.mk (fun h => absurd h (by simp)) (fun _ => ?_)) ?_
      · (conv => whnf)
        exact V.wk
      (conv => whnf)
      (try simp only [jhA, hyl])
      repeat ((first | refine V.s1 ?_ | ((try ((with_reducible refine .ext ?_); (conv => whnf); (try simp only [jhA, hyl]))); (with_reducible refine jaa (r := ?_) ?_ ?_); rotate_left; (focus (first | exact (co))); (conv => whnf)) | ((refine And.intro (fun h1 h2 => by rw [h1, h2]; rfl) ?_); (conv => whnf)) | ((refine And.intro (fun _ h => absurd h (by decide)) ?_); (conv => whnf))); (try simp only [jhA, hyl]))
      refine V.cnd_to [(16, LR Y (1 + O % 3).toNat), (18, LB S (1 + O % 3).toNat), (20, LB A 0), (21, .int .i64 6)] [] (CondB.mk (fun h => absurd h (by simp)) (fun _ => ?_)) ?_
      · (conv => whnf)
        exact V.wk
      refine V.r0 (V.a2 jhA hyl) ?_
      refine lp_go ((1 + O % 3).toNat) (fun k => True) (fun k => [(167, .int .i64 k)]) (fun k => []) V.wk ?_ ?_
      · trivial
      intro k hk _
      (conv => whnf)
      refine V.st ?_
      refine V.br (fun h => ?_) (fun h => ?_)
      · simp only [decide_eq_true_eq] at h
        have hk1 : k < (1 + O % 3).toNat := by omega
        have c1 := hs k hk1
        refine V.r0 jhA ?_
        refine ⟨Pq13z, [], V.pok, ?_⟩
        refine jal [(23, .bool true), (24, .int .i64 0)] [] ?_ ?_
        · exact V.d1 jhA c1
        refine V.r0 jhA ?_
        refine ⟨Pq1z, [], V.pok, ?_⟩
        refine jal [(217, .bool false)] [] ?_ ?_
        · (conv => whnf); (try simp only [jhA])
          repeat' (first | exact V.wk | ((with_reducible refine And.intro ?_ ja8); (conv => whnf); (try simp only [jhA])) | ((with_reducible first | refine jbg ?_ ?_ | refine jbz ?_ ?_) <;> (conv => whnf); (try simp only [jhA])) | ((first | refine V.s1 ?_ | ((with_reducible refine jaG ?_ ?_); (focus ((conv => whnf); (try simp only [jhA]); (repeat ((first | refine V.s1 ?_ | ((refine And.intro (fun h => absurd h (by simp)) ?_); (conv => whnf))); (try simp only [jhA]))); exact ⟨rfl⟩)); (conv => whnf)) | ((try ((with_reducible refine .ext ?_); (conv => whnf); (try simp only [jhA]))); (with_reducible refine jaa (r := ?_) ?_ ?_); rotate_left; (focus (first | fail)); (conv => whnf)) | ((refine And.intro (fun h => absurd h (by simp)) ?_); (conv => whnf))); (try simp only [jhA])) | (refine And.intro ?_ ?_ <;> (conv => whnf); (try simp only [jhA])))
        refine V.r0 jhA ?_
        exact ⟨k + 1, ⟨by omega, trivial⟩, by omega, V.wk⟩
      · refine V.r0 jhA ?_
        exact Fin.of rfl
    · (conv => whnf)
      repeat ((fail_if_success (with_reducible refine Cnd.split ?_)); refine V.s1 ?_; (try simp only [jhR]))
      refine V.s1 ?_
      (conv => whnf)
      (try simp only [jhA])
      repeat ((fail_if_success (with_reducible refine Cnd.split ?_)); (first | refine V.s1 ?_ | ((try ((with_reducible refine .ext ?_); (conv => whnf); (try simp only [jhA]))); (with_reducible refine jaa (r := ?_) ?_ ?_); rotate_left; (focus (first | exact co | exact ry | exact rb | exact ra)); (conv => whnf))); (try simp only [jhA]))
      refine V.cnd_to [(3, .box 3 0), (16, LR Y (1 + O % 3).toNat), (18, LB S (1 + O % 3).toNat), (20, LB A (1 + O % 3).toNat), (21, .int .i64 0)] [(3, .box [.int .u8 I, .int .u8 O, dsD l])] (CondB.mk (fun h => absurd h (by simp)) (fun _ => ?_)) ?_
      · (conv => whnf)
        exact V.wk
      (conv => whnf)
      (try simp only [jhA, hyl])
      repeat ((first | refine V.s1 ?_ | ((try ((with_reducible refine .ext ?_); (conv => whnf); (try simp only [jhA, hyl]))); (with_reducible refine jaa (r := ?_) ?_ ?_); rotate_left; (focus (first | exact (co))); (conv => whnf)) | ((refine And.intro (fun h1 h2 => by rw [h1, h2]; rfl) ?_); (conv => whnf)) | ((refine And.intro (fun _ h => absurd h (by decide)) ?_); (conv => whnf))); (try simp only [jhA, hyl]))
      refine V.cnd_to [(16, LR Y (1 + O % 3).toNat), (18, LB S (1 + O % 3).toNat), (20, LB A (1 + O % 3).toNat), (21, .int .i64 0)] [] (CondB.mk (fun h => absurd h (by simp)) (fun _ => ?_)) ?_
      · (conv => whnf)
        exact V.wk
      refine V.r0 (V.a2 jhA hyl) ?_
      refine lp_go ((1 + O % 3).toNat) (fun k => True) (fun k => [(167, .int .i64 k)]) (fun k => []) V.wk ?_ ?_
      · trivial
      intro k hk _
      (conv => whnf)
      refine V.st ?_
      refine V.br (fun h => ?_) (fun h => ?_)
      · simp only [decide_eq_true_eq] at h
        have hk1 : k < (1 + O % 3).toNat := by omega
        have c1 := hs k hk1
        have hle := le k hk1
        have hl1 : decide ((S k).1 < (A k).1) = false := decide_eq_false (by omega)
        have hl2 : decide ((S k).2 > (A k).2) = false := decide_eq_false (by omega)
        refine V.r0 jhA ?_
        refine ⟨Pq13z, [], V.pok, ?_⟩
        refine jal [(23, .bool true), (24, .int .i64 0)] [] ?_ ?_
        · exact V.d1 jhA c1
        refine V.r0 jhA ?_
        refine ⟨Pq1z, [], V.pok, ?_⟩
        refine jal [(217, .bool false)] [] ?_ ?_
        · exact V.d0 (V.a3 jhA hl1 hl2)
        refine V.r0 jhA ?_
        exact ⟨k + 1, ⟨by omega, trivial⟩, by omega, V.wk⟩
      · refine V.r0 jhA ?_
        exact Fin.of rfl
theorem within2_t (I O : Int) (l P : List (Int × Int)) (xs us : List Int) (p q u v : Nat → Int) (X Y : Nat → List UInt8 × List UInt8) (A S : Nat → Int × Int) (hO : 0 ≤ O ∧ O ≤ 255) (hx : xs.length = 8) (hus : us.length = 8)
    (hp : ∀ i, -32768 ≤ p i ∧ p i ≤ q i ∧ q i ≤ 32767) (hv : ∀ i, (0 ≤ u i ∧ u i ≤ 65535) ∧ 0 ≤ v i ∧ v i ≤ 65535) (hu : ∀ i, us.getD (0 + i * 2 + 0) 0 = u i ∧ us.getD (0 + i * 2 + 1) 0 = v i)
    (pr : Cl 17 [drD I O l] (oL P))
    (co : Cl 21 [drD I O l] (.int .i64 (1 + O % 3)))
    (sp : Cl 18 [drD I O l, .iarr .i16 xs] (sl2 2 [.int .i64 (1000000000 * p 0), .int .i64 (1000000000 * q 0), .int .i64 (1000000000 * p 1), .int .i64 (1000000000 * q 1)]))
    (xo : ∀ i, i < 2 → Cl 12 [.int .i64 (p i + wU p q u i), .int .i64 1000] (.agg [.str (X i).1, .str (X i).2]))
    (h : (∃ e f g : Int, ((e = 6 ∧ (f = 0 ∨ f = 6)) ∨ (e = 0 ∧ f = 6)) ∧ Cl 20 [oL P, sl2 2 [.str (X 0).1, .str (X 0).2, .str (X 1).1, .str (X 1).2], .int .i64 (1 + O % 3)] (.tup [.any, .int .i64 e]) ∧ Cl 22 [oL P, sl2 2 [.int .i64 (1000000000 * p 0 + 1000000000 * min (wU p q u 0) (wU p q v 0)), .int .i64 (1000000000 * p 0 + 1000000000 * max (wU p q u 0) (wU p q v 0)), .int .i64 (1000000000 * p 1 + 1000000000 * min (wU p q u 1) (wU p q v 1)), .int .i64 (1000000000 * p 1 + 1000000000 * max (wU p q u 1) (wU p q v 1))], .int .i64 (1 + O % 3)] (.tup [.any, .int .i64 f]) ∧ Cl 22 [oL P, sl2 2 [.int .i64 (1000000000 * p 0), .int .i64 (1000000000 * q 0), .int .i64 (1000000000 * p 1), .int .i64 (1000000000 * q 1)], .int .i64 (1 + O % 3)] (.tup [.any, .int .i64 g])) ∨
      (Cl 20 [oL P, sl2 2 [.str (X 0).1, .str (X 0).2, .str (X 1).1, .str (X 1).2], .int .i64 (1 + O % 3)] (.tup [LR Y (1 + O % 3).toNat, .int .i64 0]) ∧ Cl 22 [oL P, sl2 2 [.int .i64 (1000000000 * p 0 + 1000000000 * min (wU p q u 0) (wU p q v 0)), .int .i64 (1000000000 * p 0 + 1000000000 * max (wU p q u 0) (wU p q v 0)), .int .i64 (1000000000 * p 1 + 1000000000 * min (wU p q u 1) (wU p q v 1)), .int .i64 (1000000000 * p 1 + 1000000000 * max (wU p q u 1) (wU p q v 1))], .int .i64 (1 + O % 3)] (.tup [LB S (1 + O % 3).toNat, .int .i64 0]) ∧ (∀ j, j < (1 + O % 3).toNat → Cl 23 [.agg [.int .i64 (S j).1, .int .i64 (S j).2], .agg [.str (Y j).1, .str (Y j).2]] (.tup [.bool true, .int .i64 0])) ∧
        (Cl 22 [oL P, sl2 2 [.int .i64 (1000000000 * p 0), .int .i64 (1000000000 * q 0), .int .i64 (1000000000 * p 1), .int .i64 (1000000000 * q 1)], .int .i64 (1 + O % 3)] (.tup [LB A 0, .int .i64 6]) ∨ (Cl 22 [oL P, sl2 2 [.int .i64 (1000000000 * p 0), .int .i64 (1000000000 * q 0), .int .i64 (1000000000 * p 1), .int .i64 (1000000000 * q 1)], .int .i64 (1 + O % 3)] (.tup [LB A (1 + O % 3).toNat, .int .i64 0]) ∧ ∀ j, j < (1 + O % 3).toNat → (A j).1 ≤ (S j).1 ∧ (S j).2 ≤ (A j).2)))) :
    Cl 4 [drD I O l, .iarr .i16 xs, .iarr .u16 us] (.bool true) := by
  have wk := jgT
  have hyl : (((1 + O % 3).toNat : Nat) : Int) = 1 + O % 3 := by omega
  refine V.en tbOk Tryz.func4 ?_
  refine V.r1 jhA wk ?_
  refine ⟨Pq46z, [], V.pok, ?_⟩
  refine jal [(7, oL P), (8, sl2 2 [.int .i64 (1000000000 * p 0), .int .i64 (1000000000 * q 0), .int .i64 (1000000000 * p 1), .int .i64 (1000000000 * q 1)])] [] ?_ ?_
  · exact V.d2 jhA pr sp
  (conv => whnf)
  (try simp only [jhA])
  repeat ((first | refine V.s1 ?_ | ((try ((with_reducible refine .ext ?_); (conv => whnf); (try simp only [jhA]))); (with_reducible refine jaa (r := ?_) ?_ ?_); rotate_left; (focus (first | fail)); (conv => whnf)) | ((with_reducible refine .inl ?_); (conv => whnf); (first | refine ⟨0, _, _, ⟨Tryz.func19, rfl, rfl, jhL rfl⟩, ?_⟩); (conv => whnf))); (try simp only [jhA]))
  refine jaj (0 : Nat) (fun k => k ≤ 2) (fun k => 2 - k) (fun k => [(36, .int .i64 (k : Nat)), (10, wxS k)]) (fun k => (227, .box (List.take (k * 2) [.int .i64 (1000000000 * p 0 + 1000000000 * min (wU p q u 0) (wU p q v 0)), .int .i64 (1000000000 * p 0 + 1000000000 * max (wU p q u 0) (wU p q v 0)), .int .i64 (1000000000 * p 1 + 1000000000 * min (wU p q u 1) (wU p q v 1)), .int .i64 (1000000000 * p 1 + 1000000000 * max (wU p q u 1) (wU p q v 1))] ++ List.drop (k * 2) [.int .i64 (1000000000 * p 0), .int .i64 (1000000000 * q 0), .int .i64 (1000000000 * p 1), .int .i64 (1000000000 * q 1)])) :: wxH [.str (X 0).1, .str (X 0).2, .str (X 1).1, .str (X 1).2] k) ?_ ?_ ?_
  · exact V.wk
  · exact jhM _
  intro k hk
  have hk4 : k = 0 ∨ k = 1 ∨ k = 2 := by omega
  rcases hk4 with e | e | e
  all_goals subst e
  · dsimp only [wxS, wxH]
    have c1 := xo 0 (by omega)
    have h1 := hp 0
    have h2 := hv 0
    have hm1 : 0 ≤ u 0 % (q 0 - p 0 + 1) ∧ u 0 % (q 0 - p 0 + 1) < q 0 - p 0 + 1 := ⟨jhN _ (by omega), jib _ (by omega)⟩
    have hm2 : 0 ≤ v 0 % (q 0 - p 0 + 1) ∧ v 0 % (q 0 - p 0 + 1) < q 0 - p 0 + 1 := ⟨jhN _ (by omega), jib _ (by omega)⟩
    have e0 : (1000000000 * q 0 - 1000000000 * p 0) / 1000000000 + 1 = q 0 - p 0 + 1 := by omega
    have e1 : (1000000000 * p 0).tdiv 1000000000 = p 0 := Int.mul_tdiv_cancel_left _ (by decide)
    have ga : us.getD (0 + ((0 : Nat) : Int).toNat * 2 + Int.toNat 0) 0 = u 0 := (hu 0).1
    have gb : us.getD (0 + ((0 : Nat) : Int).toNat * 2 + Int.toNat 1) 0 = v 0 := (hu 0).2
    refine V.r0 (V.a2 jhA e0) ?_
    refine ⟨Pq5z, [], V.pok, ?_⟩
    refine jal [(14, .int .i64 (u 0 % (q 0 - p 0 + 1))), (15, .int .i64 (v 0 % (q 0 - p 0 + 1)))] [] ?_ ?_
    · exact V.d0 (V.a2 ga gb)
    (conv => whnf)
    (try simp only [jhA, e1])
    repeat ((first | refine V.s1 ?_ | ((try ((with_reducible refine .ext ?_); (conv => whnf); (try simp only [jhA, e1]))); (with_reducible refine jaa (r := ?_) ?_ ?_); rotate_left; (focus (first | exact (c1))); (conv => whnf)) | ((refine Or.inr ⟨fun _ _ _ => ⟨by decide, by rw [e1]; exact ⟨by simp only [V.lo]; omega, by simp only [V.hi]; omega⟩⟩, ?_⟩); (conv => whnf))); (try simp only [jhA, e1]))
    exact ⟨1, by omega, by omega, V.wk⟩
  · dsimp only [wxS, wxH]
    have c1 := xo 1 (by omega)
    have h1 := hp 1
    have h2 := hv 1
    have hm1 : 0 ≤ u 1 % (q 1 - p 1 + 1) ∧ u 1 % (q 1 - p 1 + 1) < q 1 - p 1 + 1 := ⟨jhN _ (by omega), jib _ (by omega)⟩
    have hm2 : 0 ≤ v 1 % (q 1 - p 1 + 1) ∧ v 1 % (q 1 - p 1 + 1) < q 1 - p 1 + 1 := ⟨jhN _ (by omega), jib _ (by omega)⟩
    have e0 : (1000000000 * q 1 - 1000000000 * p 1) / 1000000000 + 1 = q 1 - p 1 + 1 := by omega
    have e1 : (1000000000 * p 1).tdiv 1000000000 = p 1 := Int.mul_tdiv_cancel_left _ (by decide)
    have ga : us.getD (0 + ((1 : Nat) : Int).toNat * 2 + Int.toNat 0) 0 = u 1 := (hu 1).1
    have gb : us.getD (0 + ((1 : Nat) : Int).toNat * 2 + Int.toNat 1) 0 = v 1 := (hu 1).2
    refine V.r0 (V.a2 jhA e0) ?_
    refine ⟨Pq5z, [], V.pok, ?_⟩
    refine jal [(14, .int .i64 (u 1 % (q 1 - p 1 + 1))), (15, .int .i64 (v 1 % (q 1 - p 1 + 1)))] [] ?_ ?_
    · exact V.d0 (V.a2 ga gb)
    (conv => whnf)
    (try simp only [jhA, e1])
    repeat ((first | refine V.s1 ?_ | ((try ((with_reducible refine .ext ?_); (conv => whnf); (try simp only [jhA, e1]))); (with_reducible refine jaa (r := ?_) ?_ ?_); rotate_left; (focus (first | exact (c1))); (conv => whnf)) | ((refine Or.inr ⟨fun _ _ _ => ⟨by decide, by rw [e1]; exact ⟨by simp only [V.lo]; omega, by simp only [V.hi]; omega⟩⟩, ?_⟩); (conv => whnf))); (try simp only [jhA, e1]))
    exact ⟨2, by omega, by omega, V.wk⟩
  · dsimp only [wxS, wxH]
    rcases h with ⟨e, f, g, he, ry, rb, ra⟩ | ⟨ry, rb, hs, h⟩
    · rcases he with ⟨e6, f0 | f6⟩ | ⟨e0, f6⟩
      all_goals subst_vars
      all_goals
        (conv => whnf)
        (try simp only [jhA])
        repeat ((first | refine V.s1 ?_ | ((try ((with_reducible refine .ext ?_); (conv => whnf); (try simp only [jhA]))); (with_reducible refine jaa (r := ?_) ?_ ?_); rotate_left; (focus (first | exact (co) | exact (ry) | exact (rb) | exact (ra))); (conv => whnf)) | ((refine And.intro (fun _ h => absurd h (by decide)) ?_); (conv => whnf))); (try simp only [jhA]))
        exact Fin.of rfl
    rcases h with ra | ⟨ra, le⟩
    · (conv => whnf)
      repeat ((fail_if_success (with_reducible refine Cnd.split ?_)); refine V.s1 ?_; (try simp only [jhR]))
      refine V.s1 ?_
      (conv => whnf)
      (try simp only [jhA])
      repeat ((fail_if_success (with_reducible refine Cnd.split ?_)); (first | refine V.s1 ?_ | ((try ((with_reducible refine .ext ?_); (conv => whnf); (try simp only [jhA]))); (with_reducible refine jaa (r := ?_) ?_ ?_); rotate_left; (focus (first | exact co | exact ry | exact rb | exact ra)); (conv => whnf))); (try simp only [jhA]))
      refine V.cnd_to [(3, .box 3 0), (16, LR Y (1 + O % 3).toNat), (18, LB S (1 + O % 3).toNat), (20, LB A 0), (21, .int .i64 6)] [(3, .box [.int .u8 I, .int .u8 O, dsD l])] (CondB.mk (fun h => absurd h (by simp)) (fun _ => ?_)) ?_
      · (conv => whnf)
        exact V.wk
      (conv => whnf)
      (try simp only [jhA, hyl])
      repeat ((first | refine V.s1 ?_ | ((try ((with_reducible refine .ext ?_); (conv => whnf); (try simp only [jhA, hyl]))); (with_reducible refine jaa (r := ?_) ?_ ?_); rotate_left; (focus (first | exact (co))); (conv => whnf)) | ((refine And.intro (fun h1 h2 => by rw [h1, h2]; rfl) ?_); (conv => whnf)) | ((refine And.intro (fun _ h => absurd h (by decide)) ?_); (conv => whnf))); (try simp only [jhA, hyl]))
      refine V.cnd_to [(16, LR Y (1 + O % 3).toNat), (18, LB S (1 + O % 3).toNat), (20, LB A 0), (21, .int .i64 6)] [] (CondB.mk (fun h => absurd h (by simp)) (fun _ => ?_)) ?_
      · (conv => whnf)
        exact V.wk
      refine V.r0 (V.a2 jhA hyl) ?_
      refine lp_go ((1 + O % 3).toNat) (fun k => True) (fun k => [(167, .int .i64 k)]) (fun k => []) V.wk ?_ ?_
      · trivial
      intro k hk _
      (conv => whnf)
      refine V.st ?_
      refine V.br (fun h => ?_) (fun h => ?_)
      · simp only [decide_eq_true_eq] at h
        have hk1 : k < (1 + O % 3).toNat := by omega
        have c1 := hs k hk1
        refine V.r0 jhA ?_
        refine ⟨Pq13z, [], V.pok, ?_⟩
        refine jal [(23, .bool true), (24, .int .i64 0)] [] ?_ ?_
        · exact V.d1 jhA c1
        refine V.r0 jhA ?_
        refine ⟨Pq1z, [], V.pok, ?_⟩
        refine jal [(217, .bool false)] [] ?_ ?_
        · (conv => whnf); (try simp only [jhA])
          repeat' (first | exact V.wk | ((with_reducible refine And.intro ?_ ja8); (conv => whnf); (try simp only [jhA])) | ((with_reducible first | refine jbg ?_ ?_ | refine jbz ?_ ?_) <;> (conv => whnf); (try simp only [jhA])) | ((first | refine V.s1 ?_ | ((with_reducible refine jaG ?_ ?_); (focus ((conv => whnf); (try simp only [jhA]); (repeat ((first | refine V.s1 ?_ | ((refine And.intro (fun h => absurd h (by simp)) ?_); (conv => whnf))); (try simp only [jhA]))); exact ⟨rfl⟩)); (conv => whnf)) | ((try ((with_reducible refine .ext ?_); (conv => whnf); (try simp only [jhA]))); (with_reducible refine jaa (r := ?_) ?_ ?_); rotate_left; (focus (first | fail)); (conv => whnf)) | ((refine And.intro (fun h => absurd h (by simp)) ?_); (conv => whnf))); (try simp only [jhA])) | (refine And.intro ?_ ?_ <;> (conv => whnf); (try simp only [jhA])))
        refine V.r0 jhA ?_
        exact ⟨k + 1, ⟨by omega, trivial⟩, by omega, V.wk⟩
      · refine V.r0 jhA ?_
        exact Fin.of rfl
    · (conv => whnf)
      repeat ((fail_if_success (with_reducible refine Cnd.split ?_)); refine V.s1 ?_; (try simp only [jhR]))
      refine V.s1 ?_
      (conv => whnf)
      (try simp only [jhA])
      repeat ((fail_if_success (with_reducible refine Cnd.split ?_)); (first | refine V.s1 ?_ | ((try ((with_reducible refine .ext ?_); (conv => whnf); (try simp only [jhA]))); (with_reducible refine jaa (r := ?_) ?_ ?_); rotate_left; (focus (first | exact co | exact ry | exact rb | exact ra)); (conv => whnf))); (try simp only [jhA]))
      refine V.cnd_to [(3, .box 3 0), (16, LR Y (1 + O % 3).toNat), (18, LB S (1 + O % 3).toNat), (20, LB A (1 + O % 3).toNat), (21, .int .i64 0)] [(3, .box [.int .u8 I, .int .u8 O, dsD l])] (CondB.mk (fun h => absurd h (by simp)) (fun _ => ?_)) ?_
      · (conv => whnf)
        exact V.wk
      (conv => whnf)
      (try simp only [jhA, hyl])
      repeat ((first | refine V.s1 ?_ | ((try ((with_reducible refine .ext ?_); (conv => whnf); (try simp only [jhA, hyl]))); (with_reducible refine jaa (r := ?_) ?_ ?_); rotate_left; (focus (first | exact (co))); (conv => whnf)) | ((refine And.intro (fun h1 h2 => by rw [h1, h2]; rfl) ?_); (conv => whnf)) | ((refine And.intro (fun _ h => absurd h (by decide)) ?_); (conv => whnf))); (try simp only [jhA, hyl]))
      refine V.cnd_to [(16, LR Y (1 + O % 3).toNat), (18, LB S (1 + O % 3).toNat), (20, LB A (1 + O % 3).toNat), (21, .int .i64 0)] [] (CondB.mk (fun h => absurd h (by simp)) (fun _ => ?_)) ?_
      · (conv => whnf)
        exact V.wk
      refine V.r0 (V.a2 jhA hyl) ?_
      refine lp_go ((1 + O % 3).toNat) (fun k => True) (fun k => [(167, .int .i64 k)]) (fun k => []) V.wk ?_ ?_
      · trivial
      intro k hk _
      (conv => whnf)
      refine V.st ?_
      refine V.br (fun h => ?_) (fun h => ?_)
      · simp only [decide_eq_true_eq] at h
        have hk1 : k < (1 + O % 3).toNat := by omega
        have c1 := hs k hk1
        have hle := le k hk1
        have hl1 : decide ((S k).1 < (A k).1) = false := decide_eq_false (by omega)
        have hl2 : decide ((S k).2 > (A k).2) = false := decide_eq_false (by omega)
        refine V.r0 jhA ?_
        refine ⟨Pq13z, [], V.pok, ?_⟩
        refine jal [(23, .bool true), (24, .int .i64 0)] [] ?_ ?_
        · exact V.d1 jhA c1
        refine V.r0 jhA ?_
        refine ⟨Pq1z, [], V.pok, ?_⟩
        refine jal [(217, .bool false)] [] ?_ ?_
        · exact V.d0 (V.a3 jhA hl1 hl2)
        refine V.r0 jhA ?_
        exact ⟨k + 1, ⟨by omega, trivial⟩, by omega, V.wk⟩
      · refine V.r0 jhA ?_
        exact Fin.of rfl
theorem within3_t (I O : Int) (l P : List (Int × Int)) (xs us : List Int) (p q u v : Nat → Int) (X Y : Nat → List UInt8 × List UInt8) (A S : Nat → Int × Int) (hO : 0 ≤ O ∧ O ≤ 255) (hx : xs.length = 8) (hus : us.length = 8)
    (hp : ∀ i, -32768 ≤ p i ∧ p i ≤ q i ∧ q i ≤ 32767) (hv : ∀ i, (0 ≤ u i ∧ u i ≤ 65535) ∧ 0 ≤ v i ∧ v i ≤ 65535) (hu : ∀ i, us.getD (0 + i * 2 + 0) 0 = u i ∧ us.getD (0 + i * 2 + 1) 0 = v i)
    (pr : Cl 17 [drD I O l] (oL P))
    (co : Cl 21 [drD I O l] (.int .i64 (1 + O % 3)))
    (sp : Cl 18 [drD I O l, .iarr .i16 xs] (sl2 3 [.int .i64 (1000000000 * p 0), .int .i64 (1000000000 * q 0), .int .i64 (1000000000 * p 1), .int .i64 (1000000000 * q 1), .int .i64 (1000000000 * p 2), .int .i64 (1000000000 * q 2)]))
    (xo : ∀ i, i < 3 → Cl 12 [.int .i64 (p i + wU p q u i), .int .i64 1000] (.agg [.str (X i).1, .str (X i).2]))
    (h : (∃ e f g : Int, ((e = 6 ∧ (f = 0 ∨ f = 6)) ∨ (e = 0 ∧ f = 6)) ∧ Cl 20 [oL P, sl2 3 [.str (X 0).1, .str (X 0).2, .str (X 1).1, .str (X 1).2, .str (X 2).1, .str (X 2).2], .int .i64 (1 + O % 3)] (.tup [.any, .int .i64 e]) ∧ Cl 22 [oL P, sl2 3 [.int .i64 (1000000000 * p 0 + 1000000000 * min (wU p q u 0) (wU p q v 0)), .int .i64 (1000000000 * p 0 + 1000000000 * max (wU p q u 0) (wU p q v 0)), .int .i64 (1000000000 * p 1 + 1000000000 * min (wU p q u 1) (wU p q v 1)), .int .i64 (1000000000 * p 1 + 1000000000 * max (wU p q u 1) (wU p q v 1)), .int .i64 (1000000000 * p 2 + 1000000000 * min (wU p q u 2) (wU p q v 2)), .int .i64 (1000000000 * p 2 + 1000000000 * max (wU p q u 2) (wU p q v 2))], .int .i64 (1 + O % 3)] (.tup [.any, .int .i64 f]) ∧ Cl 22 [oL P, sl2 3 [.int .i64 (1000000000 * p 0), .int .i64 (1000000000 * q 0), .int .i64 (1000000000 * p 1), .int .i64 (1000000000 * q 1), .int .i64 (1000000000 * p 2), .int .i64 (1000000000 * q 2)], .int .i64 (1 + O % 3)] (.tup [.any, .int .i64 g])) ∨
      (Cl 20 [oL P, sl2 3 [.str (X 0).1, .str (X 0).2, .str (X 1).1, .str (X 1).2, .str (X 2).1, .str (X 2).2], .int .i64 (1 + O % 3)] (.tup [LR Y (1 + O % 3).toNat, .int .i64 0]) ∧ Cl 22 [oL P, sl2 3 [.int .i64 (1000000000 * p 0 + 1000000000 * min (wU p q u 0) (wU p q v 0)), .int .i64 (1000000000 * p 0 + 1000000000 * max (wU p q u 0) (wU p q v 0)), .int .i64 (1000000000 * p 1 + 1000000000 * min (wU p q u 1) (wU p q v 1)), .int .i64 (1000000000 * p 1 + 1000000000 * max (wU p q u 1) (wU p q v 1)), .int .i64 (1000000000 * p 2 + 1000000000 * min (wU p q u 2) (wU p q v 2)), .int .i64 (1000000000 * p 2 + 1000000000 * max (wU p q u 2) (wU p q v 2))], .int .i64 (1 + O % 3)] (.tup [LB S (1 + O % 3).toNat, .int .i64 0]) ∧ (∀ j, j < (1 + O % 3).toNat → Cl 23 [.agg [.int .i64 (S j).1, .int .i64 (S j).2], .agg [.str (Y j).1, .str (Y j).2]] (.tup [.bool true, .int .i64 0])) ∧
        (Cl 22 [oL P, sl2 3 [.int .i64 (1000000000 * p 0), .int .i64 (1000000000 * q 0), .int .i64 (1000000000 * p 1), .int .i64 (1000000000 * q 1), .int .i64 (1000000000 * p 2), .int .i64 (1000000000 * q 2)], .int .i64 (1 + O % 3)] (.tup [LB A 0, .int .i64 6]) ∨ (Cl 22 [oL P, sl2 3 [.int .i64 (1000000000 * p 0), .int .i64 (1000000000 * q 0), .int .i64 (1000000000 * p 1), .int .i64 (1000000000 * q 1), .int .i64 (1000000000 * p 2), .int .i64 (1000000000 * q 2)], .int .i64 (1 + O % 3)] (.tup [LB A (1 + O % 3).toNat, .int .i64 0]) ∧ ∀ j, j < (1 + O % 3).toNat → (A j).1 ≤ (S j).1 ∧ (S j).2 ≤ (A j).2)))) :
    Cl 4 [drD I O l, .iarr .i16 xs, .iarr .u16 us] (.bool true) := by
  have wk := jgT
  have hyl : (((1 + O % 3).toNat : Nat) : Int) = 1 + O % 3 := by omega
  refine V.en tbOk Tryz.func4 ?_
  refine V.r1 jhA wk ?_
  refine ⟨Pq46z, [], V.pok, ?_⟩
  refine jal [(7, oL P), (8, sl2 3 [.int .i64 (1000000000 * p 0), .int .i64 (1000000000 * q 0), .int .i64 (1000000000 * p 1), .int .i64 (1000000000 * q 1), .int .i64 (1000000000 * p 2), .int .i64 (1000000000 * q 2)])] [] ?_ ?_
  · exact V.d2 jhA pr sp
  (conv => whnf)
  (try simp only [jhA])
  repeat ((first | refine V.s1 ?_ | ((try ((with_reducible refine .ext ?_); (conv => whnf); (try simp only [jhA]))); (with_reducible refine jaa (r := ?_) ?_ ?_); rotate_left; (focus (first | fail)); (conv => whnf)) | ((with_reducible refine .inl ?_); (conv => whnf); (first | refine ⟨0, _, _, ⟨Tryz.func19, rfl, rfl, jhL rfl⟩, ?_⟩); (conv => whnf))); (try simp only [jhA]))
  refine jaj (0 : Nat) (fun k => k ≤ 3) (fun k => 3 - k) (fun k => [(36, .int .i64 (k : Nat)), (10, wxS k)]) (fun k => (227, .box (List.take (k * 2) [.int .i64 (1000000000 * p 0 + 1000000000 * min (wU p q u 0) (wU p q v 0)), .int .i64 (1000000000 * p 0 + 1000000000 * max (wU p q u 0) (wU p q v 0)), .int .i64 (1000000000 * p 1 + 1000000000 * min (wU p q u 1) (wU p q v 1)), .int .i64 (1000000000 * p 1 + 1000000000 * max (wU p q u 1) (wU p q v 1)), .int .i64 (1000000000 * p 2 + 1000000000 * min (wU p q u 2) (wU p q v 2)), .int .i64 (1000000000 * p 2 + 1000000000 * max (wU p q u 2) (wU p q v 2))] ++ List.drop (k * 2) [.int .i64 (1000000000 * p 0), .int .i64 (1000000000 * q 0), .int .i64 (1000000000 * p 1), .int .i64 (1000000000 * q 1), .int .i64 (1000000000 * p 2), .int .i64 (1000000000 * q 2)])) :: wxH [.str (X 0).1, .str (X 0).2, .str (X 1).1, .str (X 1).2, .str (X 2).1, .str (X 2).2] k) ?_ ?_ ?_
  · exact V.wk
  · exact jhM _
  intro k hk
  have hk4 : k = 0 ∨ k = 1 ∨ k = 2 ∨ k = 3 := by omega
  rcases hk4 with e | e | e | e
  all_goals subst e
  · dsimp only [wxS, wxH]
    have c1 := xo 0 (by omega)
    have h1 := hp 0
    have h2 := hv 0
    have hm1 : 0 ≤ u 0 % (q 0 - p 0 + 1) ∧ u 0 % (q 0 - p 0 + 1) < q 0 - p 0 + 1 := ⟨jhN _ (by omega), jib _ (by omega)⟩
    have hm2 : 0 ≤ v 0 % (q 0 - p 0 + 1) ∧ v 0 % (q 0 - p 0 + 1) < q 0 - p 0 + 1 := ⟨jhN _ (by omega), jib _ (by omega)⟩
    have e0 : (1000000000 * q 0 - 1000000000 * p 0) / 1000000000 + 1 = q 0 - p 0 + 1 := by omega
    have e1 : (1000000000 * p 0).tdiv 1000000000 = p 0 := Int.mul_tdiv_cancel_left _ (by decide)
    have ga : us.getD (0 + ((0 : Nat) : Int).toNat * 2 + Int.toNat 0) 0 = u 0 := (hu 0).1
    have gb : us.getD (0 + ((0 : Nat) : Int).toNat * 2 + Int.toNat 1) 0 = v 0 := (hu 0).2
    refine V.r0 (V.a2 jhA e0) ?_
    refine ⟨Pq5z, [], V.pok, ?_⟩
    refine jal [(14, .int .i64 (u 0 % (q 0 - p 0 + 1))), (15, .int .i64 (v 0 % (q 0 - p 0 + 1)))] [] ?_ ?_
    · exact V.d0 (V.a2 ga gb)
    (conv => whnf)
    (try simp only [jhA, e1])
    repeat ((first | refine V.s1 ?_ | ((try ((with_reducible refine .ext ?_); (conv => whnf); (try simp only [jhA, e1]))); (with_reducible refine jaa (r := ?_) ?_ ?_); rotate_left; (focus (first | exact (c1))); (conv => whnf)) | ((refine Or.inr ⟨fun _ _ _ => ⟨by decide, by rw [e1]; exact ⟨by simp only [V.lo]; omega, by simp only [V.hi]; omega⟩⟩, ?_⟩); (conv => whnf))); (try simp only [jhA, e1]))
    exact ⟨1, by omega, by omega, V.wk⟩
  · dsimp only [wxS, wxH]
    have c1 := xo 1 (by omega)
    have h1 := hp 1
    have h2 := hv 1
    have hm1 : 0 ≤ u 1 % (q 1 - p 1 + 1) ∧ u 1 % (q 1 - p 1 + 1) < q 1 - p 1 + 1 := ⟨jhN _ (by omega), jib _ (by omega)⟩
    have hm2 : 0 ≤ v 1 % (q 1 - p 1 + 1) ∧ v 1 % (q 1 - p 1 + 1) < q 1 - p 1 + 1 := ⟨jhN _ (by omega), jib _ (by omega)⟩
    have e0 : (1000000000 * q 1 - 1000000000 * p 1) / 1000000000 + 1 = q 1 - p 1 + 1 := by omega
    have e1 : (1000000000 * p 1).tdiv 1000000000 = p 1 := Int.mul_tdiv_cancel_left _ (by decide)
    have ga : us.getD (0 + ((1 : Nat) : Int).toNat * 2 + Int.toNat 0) 0 = u 1 := (hu 1).1
    have gb : us.getD (0 + ((1 : Nat) : Int).toNat * 2 + Int.toNat 1) 0 = v 1 := (hu 1).2
    refine V.r0 (V.a2 jhA e0) ?_
    refine ⟨Pq5z, [], V.pok, ?_⟩
    refine jal [(14, .int .i64 (u 1 % (q 1 - p 1 + 1))), (15, .int .i64 (v 1 % (q 1 - p 1 + 1)))] [] ?_ ?_
    · exact V.d0 (V.a2 ga gb)
    (conv => whnf)
    (try simp only [jhA, e1])
    repeat ((first | refine V.s1 ?_ | ((try ((with_reducible refine .ext ?_); (conv => whnf); (try simp only [jhA, e1]))); (with_reducible refine jaa (r := ?_) ?_ ?_); rotate_left; (focus (first | exact (c1))); (conv => whnf)) | ((refine Or.inr ⟨fun _ _ _ => ⟨by decide, by rw [e1]; exact ⟨by simp only [V.lo]; omega, by simp only [V.hi]; omega⟩⟩, ?_⟩); (conv => whnf))); (try simp only [jhA, e1]))
    exact ⟨2, by omega, by omega, V.wk⟩
  · dsimp only [wxS, wxH]
    have c1 := xo 2 (by omega)
    have h1 := hp 2
    have h2 := hv 2
    have hm1 : 0 ≤ u 2 % (q 2 - p 2 + 1) ∧ u 2 % (q 2 - p 2 + 1) < q 2 - p 2 + 1 := ⟨jhN _ (by omega), jib _ (by omega)⟩
    have hm2 : 0 ≤ v 2 % (q 2 - p 2 + 1) ∧ v 2 % (q 2 - p 2 + 1) < q 2 - p 2 + 1 := ⟨jhN _ (by omega), jib _ (by omega)⟩
    have e0 : (1000000000 * q 2 - 1000000000 * p 2) / 1000000000 + 1 = q 2 - p 2 + 1 := by omega
    have e1 : (1000000000 * p 2).tdiv 1000000000 = p 2 := Int.mul_tdiv_cancel_left _ (by decide)
    have ga : us.getD (0 + ((2 : Nat) : Int).toNat * 2 + Int.toNat 0) 0 = u 2 := (hu 2).1
    have gb : us.getD (0 + ((2 : Nat) : Int).toNat * 2 + Int.toNat 1) 0 = v 2 := (hu 2).2
    refine V.r0 (V.a2 jhA e0) ?_
    refine ⟨Pq5z, [], V.pok, ?_⟩
    refine jal [(14, .int .i64 (u 2 % (q 2 - p 2 + 1))), (15, .int .i64 (v 2 % (q 2 - p 2 + 1)))] [] ?_ ?_
    · exact V.d0 (V.a2 ga gb)
    (conv => whnf)
    (try simp only [jhA, e1])
    repeat ((first | refine V.s1 ?_ | ((try ((with_reducible refine .ext ?_); (conv => whnf); (try simp only [jhA, e1]))); (with_reducible refine jaa (r := ?_) ?_ ?_); rotate_left; (focus (first | exact (c1))); (conv => whnf)) | ((refine Or.inr ⟨fun _ _ _ => ⟨by decide, by rw [e1]; exact ⟨by simp only [V.lo]; omega, by simp only [V.hi]; omega⟩⟩, ?_⟩); (conv => whnf))); (try simp only [jhA, e1]))
    exact ⟨3, by omega, by omega, V.wk⟩
  · dsimp only [wxS, wxH]
    rcases h with ⟨e, f, g, he, ry, rb, ra⟩ | ⟨ry, rb, hs, h⟩
    · rcases he with ⟨e6, f0 | f6⟩ | ⟨e0, f6⟩
      all_goals subst_vars
      all_goals
        (conv => whnf)
        (try simp only [jhA])
        repeat ((first | refine V.s1 ?_ | ((try ((with_reducible refine .ext ?_); (conv => whnf); (try simp only [jhA]))); (with_reducible refine jaa (r := ?_) ?_ ?_); rotate_left; (focus (first | exact (co) | exact (ry) | exact (rb) | exact (ra))); (conv => whnf)) | ((refine And.intro (fun _ h => absurd h (by decide)) ?_); (conv => whnf))); (try simp only [jhA]))
        exact Fin.of rfl
    rcases h with ra | ⟨ra, le⟩
    · (conv => whnf)
      repeat ((fail_if_success (with_reducible refine Cnd.split ?_)); refine V.s1 ?_; (try simp only [jhR]))
      refine V.s1 ?_
      (conv => whnf)
      (try simp only [jhA])
      repeat ((fail_if_success (with_reducible refine Cnd.split ?_)); (first | refine V.s1 ?_ | ((try ((with_reducible refine .ext ?_); (conv => whnf); (try simp only [jhA]))); (with_reducible refine jaa (r := ?_) ?_ ?_); rotate_left; (focus (first | exact co | exact ry | exact rb | exact ra)); (conv => whnf))); (try simp only [jhA]))
      refine V.cnd_to [(3, .box 3 0), (16, LR Y (1 + O % 3).toNat), (18, LB S (1 + O % 3).toNat), (20, LB A 0), (21, .int .i64 6)] [(3, .box [.int .u8 I, .int .u8 O, dsD l])] (CondB.mk (fun h => absurd h (by simp)) (fun _ => ?_)) ?_
      · (conv => whnf)
        exact V.wk
      (conv => whnf)
      (try simp only [jhA, hyl])
      repeat ((first | refine V.s1 ?_ | ((try ((with_reducible refine .ext ?_); (conv => whnf); (try simp only [jhA, hyl]))); (with_reducible refine jaa (r := ?_) ?_ ?_); rotate_left; (focus (first | exact (co))); (conv => whnf)) | ((refine And.intro (fun h1 h2 => by rw [h1, h2]; rfl) ?_); (conv => whnf)) | ((refine And.intro (fun _ h => absurd h (by decide)) ?_); (conv => whnf))); (try simp only [jhA, hyl]))
      refine V.cnd_to [(16, LR Y (1 + O % 3).toNat), (18, LB S (1 + O % 3).toNat), (20, LB A 0), (21, .int .i64 6)] [] (CondB.mk (fun h => absurd h (by simp)) (fun _ => ?_)) ?_
      · (conv => whnf)
        exact V.wk
      refine V.r0 (V.a2 jhA hyl) ?_
      refine lp_go ((1 + O % 3).toNat) (fun k => True) (fun k => [(167, .int .i64 k)]) (fun k => []) V.wk ?_ ?_
      · trivial
      intro k hk _
      (conv => whnf)
      refine V.st ?_
      refine V.br (fun h => ?_) (fun h => ?_)
      · simp only [decide_eq_true_eq] at h
        have hk1 : k < (1 + O % 3).toNat := by omega
        have c1 := hs k hk1
        refine V.r0 jhA ?_
        refine ⟨Pq13z, [], V.pok, ?_⟩
        refine jal [(23, .bool true), (24, .int .i64 0)] [] ?_ ?_
        · exact V.d1 jhA c1
        refine V.r0 jhA ?_
        refine ⟨Pq1z, [], V.pok, ?_⟩
        refine jal [(217, .bool false)] [] ?_ ?_
        · (conv => whnf); (try simp only [jhA])
          repeat' (first | exact V.wk | ((with_reducible refine And.intro ?_ ja8); (conv => whnf); (try simp only [jhA])) | ((with_reducible first | refine jbg ?_ ?_ | refine jbz ?_ ?_) <;> (conv => whnf); (try simp only [jhA])) | ((first | refine V.s1 ?_ | ((with_reducible refine jaG ?_ ?_); (focus ((conv => whnf); (try simp only [jhA]); (repeat ((first | refine V.s1 ?_ | ((refine And.intro (fun h => absurd h (by simp)) ?_); (conv => whnf))); (try simp only [jhA]))); exact ⟨rfl⟩)); (conv => whnf)) | ((try ((with_reducible refine .ext ?_); (conv => whnf); (try simp only [jhA]))); (with_reducible refine jaa (r := ?_) ?_ ?_); rotate_left; (focus (first | fail)); (conv => whnf)) | ((refine And.intro (fun h => absurd h (by simp)) ?_); (conv => whnf))); (try simp only [jhA])) | (refine And.intro ?_ ?_ <;> (conv => whnf); (try simp only [jhA])))
        refine V.r0 jhA ?_
        exact ⟨k + 1, ⟨by omega, trivial⟩, by omega, V.wk⟩
      · refine V.r0 jhA ?_
        exact Fin.of rfl
    · (conv => whnf)
      repeat ((fail_if_success (with_reducible refine Cnd.split ?_)); refine V.s1 ?_; (try simp only [jhR]))
      refine V.s1 ?_
      (conv => whnf)
      (try simp only [jhA])
      repeat ((fail_if_success (with_reducible refine Cnd.split ?_)); (first | refine V.s1 ?_ | ((try ((with_reducible refine .ext ?_); (conv => whnf); (try simp only [jhA]))); (with_reducible refine jaa (r := ?_) ?_ ?_); rotate_left; (focus (first | exact co | exact ry | exact rb | exact ra)); (conv => whnf))); (try simp only [jhA]))
      refine V.cnd_to [(3, .box 3 0), (16, LR Y (1 + O % 3).toNat), (18, LB S (1 + O % 3).toNat), (20, LB A (1 + O % 3).toNat), (21, .int .i64 0)] [(3, .box [.int .u8 I, .int .u8 O, dsD l])] (CondB.mk (fun h => absurd h (by simp)) (fun _ => ?_)) ?_
      · (conv => whnf)
        exact V.wk
      (conv => whnf)
      (try simp only [jhA, hyl])
      repeat ((first | refine V.s1 ?_ | ((try ((with_reducible refine .ext ?_); (conv => whnf); (try simp only [jhA, hyl]))); (with_reducible refine jaa (r := ?_) ?_ ?_); rotate_left; (focus (first | exact (co))); (conv => whnf)) | ((refine And.intro (fun h1 h2 => by rw [h1, h2]; rfl) ?_); (conv => whnf)) | ((refine And.intro (fun _ h => absurd h (by decide)) ?_); (conv => whnf))); (try simp only [jhA, hyl]))
      refine V.cnd_to [(16, LR Y (1 + O % 3).toNat), (18, LB S (1 + O % 3).toNat), (20, LB A (1 + O % 3).toNat), (21, .int .i64 0)] [] (CondB.mk (fun h => absurd h (by simp)) (fun _ => ?_)) ?_
      · (conv => whnf)
        exact V.wk
      refine V.r0 (V.a2 jhA hyl) ?_
      refine lp_go ((1 + O % 3).toNat) (fun k => True) (fun k => [(167, .int .i64 k)]) (fun k => []) V.wk ?_ ?_
      · trivial
      intro k hk _
      (conv => whnf)
      refine V.st ?_
      refine V.br (fun h => ?_) (fun h => ?_)
      · simp only [decide_eq_true_eq] at h
        have hk1 : k < (1 + O % 3).toNat := by omega
        have c1 := hs k hk1
        have hle := le k hk1
        have hl1 : decide ((S k).1 < (A k).1) = false := decide_eq_false (by omega)
        have hl2 : decide ((S k).2 > (A k).2) = false := decide_eq_false (by omega)
        refine V.r0 jhA ?_
        refine ⟨Pq13z, [], V.pok, ?_⟩
        refine jal [(23, .bool true), (24, .int .i64 0)] [] ?_ ?_
        · exact V.d1 jhA c1
        refine V.r0 jhA ?_
        refine ⟨Pq1z, [], V.pok, ?_⟩
        refine jal [(217, .bool false)] [] ?_ ?_
        · exact V.d0 (V.a3 jhA hl1 hl2)
        refine V.r0 jhA ?_
        exact ⟨k + 1, ⟨by omega, trivial⟩, by omega, V.wk⟩
      · refine V.r0 jhA ?_
        exact Fin.of rfl
theorem opB_e (c:Int)(l:List (Int×Int)):(opB c l).2=0∨(opB c l).2=6:=by
 have hm:∀ a b:Int,(prB (mk a b)).2=0∨(prB (mk a b)).2=6:=fun a b=>by
  unfold mk
  split
  ·exact .inl rfl
  ·exact .inr rfl
 unfold opB
 split
 ·split
  ·exact hm _ _
  ·split
   ·exact hm _ _
   ·exact .inl rfl
 ·split
  ·exact hm _ _
  ·split
   ·exact hm _ _
   ·split
    ·unfold mulR;exact hm _ _
    ·split<;>exact .inl rfl
 ·split
  ·exact .inl rfl
  ·split<;>exact .inl rfl
 ·exact .inl rfl
theorem rnB_e {x:List (Int×Int)} : ∀ (p:List (Int×Int)) {l:List (Int×Int)} {e:Int},rnM mB x p l = .error e→e=6
 | [],_,_,h=>by cases h
 | o::p,l,e,h=>by
  simp only[rnM] at h
  cases e2:stM mB x o l with
  | ok l2=>rw[e2] at h;exact rnB_e p h
  | error er=>
   rw[e2] at h
   cases h
   unfold stM at e2
   split at e2
   ·cases e2
   split at e2
   ·cases e2
   split at e2
   ·cases e2
   unfold putM at e2
   split at e2
   ·cases e2
   ·rename_i c
    cases e2
    have:=opB_e o.1 (l.drop (l.length-(tkn o.1).toNat))
    rcases this with h3|h3
    ·exact absurd h3 c
    ·exact h3
theorem has_in {x:Rat}{b:Int×Int}(h:inBd b x):hasR x b.1 b.2=true:=by
 obtain⟨h1,h2⟩:=h
 have hd:(0:Rat)≤((x.den:Int):Rat):=by exact_mod_cast Int.natCast_nonneg _
 have hn:((x.den:Int):Rat)≠0:=fun h=>x.den_nz (by exact_mod_cast h)
 have e:x*((x.den:Int):Rat)=((x.num:Int):Rat):=by
  conv=>lhs;lhs;rw[← jig x,Rat.divInt_eq_div]
  exact Rat.div_mul_cancel hn
 have a:=Rat.mul_le_mul_of_nonneg_right h1 hd
 have b':=Rat.mul_le_mul_of_nonneg_right h2 hd
 have e2:x*1000000000000*((x.den:Int):Rat)=((x.num*1000000000000:Int):Rat):=by
  rw[Rat.intCast_mul,← e,show ((1000000000000:Int):Rat)=1000000000000 from rfl];grind
 rw[e2] at a b'
 refine has_iff x b.1 b.2 |>.2 ⟨Rat.intCast_le_intCast.1 ?_,Rat.intCast_le_intCast.1 ?_⟩
 ·rw[Rat.intCast_mul b.1];exact a
 ·rw[Rat.intCast_mul b.2];exact b'
theorem has_T {x:Rat}{b:Int×Int}(ok:okF x=true)(h:inBd b x)(hv:okB b):Cl 23 [.agg [.int .i64 b.1,.int .i64 b.2],.agg [.str (decZ x.num),.str (dec x.den)]] (.tup [.bool true,.int .i64 0]):=by
 obtain⟨p1,p2⟩:=jgu ok
 have ln:=(jdV p1)
 have c:=has_r b.1 b.2 (decZ x.num) (dec x.den) (jhU (jca ln.1).1 (by decide)) (jhU (jca ln.2.1).1 (by decide))
 unfold hasA at c
 rw[if_pos hv,if_pos p1,p2,has_in h] at c
 exact c
theorem fin_r {a b:D}(F:Fin a b)(e:Int):Fin (.tup [a,.int .i64 e]) (.tup [b,.int .i64 e]):=Fin.tup (show FinL [a,.int .i64 e] [b,.int .i64 e] from ⟨F,Fin.same _,trivial⟩)
theorem jcy (b:D):Fin .any b:=⟨fun _ _ _=>by simp[Den]⟩
theorem fin_LR (y:List Rat)(n:Nat)(h:y.length=n):Fin (LR (fun j=>(decZ (y.getD j 0).num,dec (y.getD j 0).den)) n) (fL y):=by
 subst h
 exact jeG (fun j hj=>fcl_at y j hj)
theorem fin_LB (y:List (Int×Int))(n:Nat)(h:y.length=n):Fin (LB (fun j=>y.getD j (0,0)) n) (oL y):=by
 subst h
 exact jeG (fun j hj=>bcl_at y j hj)
theorem rnF_ok {x:List Rat}(hx:∀ q∈x,okF q=true):∀ (p:List (Int×Int)) {s t:Int×Int} {l l':List Rat},(∀ q∈l,okF q=true)→s.1=(l.length:Int)→svL x.length s p=some t→rnM mF x p l = .ok l' → ∀ q∈l',okF q=true
 | [],s,t,l,l',h,_,_,h1=>by cases h1;exact h
 | o::p,s,t,l,l',h,hs,hv,h1=>by
  simp only[svL,rnM] at hv h1
  cases e1:svS x.length s o with
  | none=>rw[e1] at hv;cases hv
  | some s2=>
   rw[e1] at hv
   cases e2:stM mF x o l with
   | error e=>rw[e2] at h1;cases h1
   | ok l2=>
    rw[e2] at h1
    refine rnF_ok hx p (l:=l2) ?_ (jdA e1 hs e2) hv h1
    obtain⟨⟨g1,g2,g3,g4,g5⟩,_⟩:=svS_out e1
    obtain⟨c,a⟩:=o
    dsimp only at g1 g2 g3 g4 g5
    unfold tkb at g1
    simp only[decide_eq_true_eq] at g1
    have okd:∀ (y:List Rat) (n:Nat),n<y.length→(∀ q∈y,okF q=true)→okF (y.getD n default)=true:=fun y n hn h=>by
     rw[jij,jim hn];exact h _ (jin hn)
    unfold stM at e2
    dsimp only at e2
    split at e2
    ·rename_i c1
     subst c1
     have ha:0≤a∧a<x.length:=by simp[loA,hiA] at g3 g4;omega
     cases e2
     exact jbv h (okd x a.toNat (by omega) hx)
    split at e2
    ·rename_i c1 c2
     subst c2
     have ha : -1000000000≤a∧a≤1000000000:=by simp[loA,hiA] at g3 g4;omega
     cases e2
     exact jbv h (jgt a ha)
    split at e2
    ·rename_i c1 c2 c3
     subst c3
     have ha:0≤a∧a≤s.1-1:=by simp[loA,hiA] at g3 g4;omega
     cases e2
     exact jbv h (okd l _ (by omega) h)
    ·rename_i c1 c2 c3
     obtain⟨p1,p2⟩:=jdj e2
     rw[p2]
     have hd:∀ q∈l.drop (l.length-(tkn c).toNat),okF q=true:=fun q hq=>h q (jit hq)
     have hl2:((l.drop (l.length-(tkn c).toNat)).length:Int)=tkn c:=by
      have:=jei c
      rw[jiy];omega
     refine jbv (fun q hq=>h q (jiu hq)) ?_
     have p1':(opF c (l.drop (l.length-(tkn c).toNat))).2=0:=p1
     show okF (opF c (l.drop (l.length-(tkn c).toNat))).1=true
     generalize l.drop (l.length-(tkn c).toNat)=m at *
     have hc:(tkn c=1∧(c=8∨c=9∨c=12))∨(tkn c=2)∨(tkn c=3∧c=10):=by
      rcases (by omega:c=3∨c=4∨c=5∨c=6∨c=7∨c=8∨c=9∨c=12∨c=10) with e|e|e|e|e|e|e|e|e<;>subst e<;>simp[tkn]
     match m,hl2 with
     | [],hl2=>simp at hl2;omega
     | [u],hl2=>
      have ou:=hd u (by simp)
      unfold opF
      dsimp only
      split
      ·exact jfQ ou
      ·split
       ·exact jfR ou
       ·exact(jhh (jbB ou) (by omega)).ok (by omega) (by omega)
     | [u,v],hl2=>
      unfold opF at p1' ⊢
      dsimp only at p1' ⊢
      generalize (if c=3 then u+v else if c=4 then u-v else if c=5 then u*v else if c=6 then (if v<u then v else u) else (if u<v then v else u))=r at *
      cases hr:okF r with
      | true=>rfl
      | false=>rw[hr] at p1';cases p1'
     | [u,v,w],hl2=>
      unfold opF
      dsimp only
      exact okF_if (hd v (by simp)) (hd u (by simp))
     | _::_::_::_::_,hl2=>simp at hl2;omega
theorem jfv {P : List (Int × Int)} {XQ : List Rat} {SB WB : List (Int × Int)} {o d : Int} (hs : surv P XQ.length o = some d) (okx : ∀ q ∈ XQ, okF q = true) (hin : All2 (fun q b => inBd b q) XQ SB) (hsub : All2 subR SB WB) : ∃ (Y : Nat → List UInt8 × List UInt8) (A S : Nat → Int × Int),
    (∃ e f g : Int, ((e = 6 ∧ (f = 0 ∨ f = 6)) ∨ (e = 0 ∧ f = 6)) ∧ Cl 20 [oL P, fL XQ, .int .i64 o] (.tup [.any, .int .i64 e]) ∧ Cl 22 [oL P, oL SB, .int .i64 o] (.tup [.any, .int .i64 f]) ∧ Cl 22 [oL P, oL WB, .int .i64 o] (.tup [.any, .int .i64 g])) ∨
    (Cl 20 [oL P, fL XQ, .int .i64 o] (.tup [LR Y o.toNat, .int .i64 0]) ∧ Cl 22 [oL P, oL SB, .int .i64 o] (.tup [LB S o.toNat, .int .i64 0]) ∧ (∀ j, j < o.toNat → Cl 23 [.agg [.int .i64 (S j).1, .int .i64 (S j).2], .agg [.str (Y j).1, .str (Y j).2]] (.tup [.bool true, .int .i64 0])) ∧
      (Cl 22 [oL P, oL WB, .int .i64 o] (.tup [LB A 0, .int .i64 6]) ∨ (Cl 22 [oL P, oL WB, .int .i64 o] (.tup [LB A o.toNat, .int .i64 0]) ∧ ∀ j, j < o.toNat → (A j).1 ≤ (S j).1 ∧ (S j).2 ≤ (A j).2))) := by
  have l1 := hin.len
  have l2 := hsub.len
  have okS : ∀ b ∈ SB, okB b := fun b hb => by
    obtain ⟨i, hi, rfl⟩ := List.getElem_of_mem hb
    have := (hsub.get (0, 0) (0, 0) i hi).1
    rwa [jij, jim hi] at this
  have okW : ∀ b ∈ WB, okB b := fun b hb => by
    obtain ⟨i, hi, rfl⟩ := List.getElem_of_mem hb
    have := (hsub.get (0, 0) (0, 0) i (by omega)).2.1
    rwa [jij (l := WB), jim hi] at this
  have sS : surv P SB.length o = some d := by rw [← l1]; exact hs
  have sW : surv P WB.length o = some d := by rw [← l2, ← l1]; exact hs
  have c1 := run_o P XQ o d okx hs
  have c2 := jgb P SB o d okS sS
  have c3 := jgb P WB o d okW sW
  have hv := (jfy hs).2
  cases e1 : rnM mF XQ P [] with
  | error a =>
    obtain rfl := rnF_e P e1
    rw [e1] at c1
    refine ⟨fun _ => ([], []), fun _ => (0, 0), fun _ => (0, 0), .inl ?_⟩
    have k2 : ∃ f, (f = 0 ∨ f = 6) ∧ Cl 22 [oL P, oL SB, .int .i64 o] (.tup [.any, .int .i64 f]) := by
      cases e2 : rnM mB SB P [] with
      | error a => obtain rfl := rnB_e P e2; rw [e2] at c2; exact ⟨6, .inr rfl, c2.fin (fin_r (jcy _) 6)⟩
      | ok y => rw [e2] at c2; exact ⟨0, .inl rfl, c2.fin (fin_r (jcy _) 0)⟩
    have k3 : ∃ f, Cl 22 [oL P, oL WB, .int .i64 o] (.tup [.any, .int .i64 f]) := by
      cases e2 : rnM mB WB P [] with
      | error a => rw [e2] at c3; exact ⟨a, c3.fin (fin_r (jcy _) a)⟩
      | ok y => rw [e2] at c3; exact ⟨0, c3.fin (fin_r (jcy _) 0)⟩
    obtain ⟨f, hf, k2⟩ := k2
    obtain ⟨g, k3⟩ := k3
    exact ⟨6, f, g, .inl ⟨rfl, hf⟩, c1.fin (fin_r (jcy _) 6), k2, k3⟩
  | ok y =>
    rw [e1] at c1
    cases e2 : rnM mB SB P [] with
    | error a =>
      obtain rfl := rnB_e P e2
      rw [e2] at c2
      refine ⟨fun _ => ([], []), fun _ => (0, 0), fun _ => (0, 0), .inl ?_⟩
      have k3 : ∃ f, Cl 22 [oL P, oL WB, .int .i64 o] (.tup [.any, .int .i64 f]) := by
        cases e3 : rnM mB WB P [] with
        | error a => rw [e3] at c3; exact ⟨a, c3.fin (fin_r (jcy _) a)⟩
        | ok y => rw [e3] at c3; exact ⟨0, c3.fin (fin_r (jcy _) 0)⟩
      obtain ⟨g, k3⟩ := k3
      exact ⟨0, 6, g, .inr ⟨rfl, rfl⟩, c1.fin (fin_r (jcy _) 0), c2.fin (fin_r (jcy _) 6), k3⟩
    | ok b =>
      rw [e2] at c2
      have ly : y.length = o.toNat := by have := jfz hs e1; omega
      have lb : b.length = o.toNat := by have := jfz sS e2; omega
      have yin := rn_in hin P .nil rfl hv e1 e2
      have oky := rnF_ok okx P (l := []) (fun _ h => absurd h List.not_mem_nil) rfl hv e1
      refine ⟨fun j => (decZ (y.getD j 0).num, dec (y.getD j 0).den), ?_⟩
      have hasb : ∀ j, j < o.toNat → okB (b.getD j (0, 0)) → Cl 23 [.agg [.int .i64 (b.getD j (0, 0)).1, .int .i64 (b.getD j (0, 0)).2], .agg [.str (decZ (y.getD j 0).num), .str (dec (y.getD j 0).den)]] (.tup [.bool true, .int .i64 0]) := fun j hj hb => by
        refine has_T ?_ (yin.get 0 (0, 0) j (by omega)) hb
        rw [jij, jim (by omega)]
        exact oky _ (jin _)
      have self : All2 subR SB SB := by
        have : ∀ m : List (Int × Int), (∀ b ∈ m, okB b) → All2 subR m m := fun m => by
          induction m with
          | nil => intro _; exact .nil
          | cons a m ih => intro h; exact .cons ⟨h a (by simp), h a (by simp), Int.le_refl _, Int.le_refl _⟩ (ih (fun b hb => h b (by simp [hb])))
        exact this SB okS
      have svs := (jfy sS).2
      have bself := rn_sub self P .nil rfl svs e2 e2
      have okb : ∀ j, j < o.toNat → okB (b.getD j (0, 0)) := fun j hj => (bself.get (0, 0) (0, 0) j (by omega)).1
      cases e3 : rnM mB WB P [] with
      | error a =>
        obtain rfl := rnB_e P e3
        rw [e3] at c3
        exact ⟨fun _ => (0, 0), fun j => b.getD j (0, 0), .inr ⟨c1.fin (fin_r (fin_LR y _ ly) 0), c2.fin (fin_r (fin_LB b _ lb) 0), fun j hj => hasb j hj (okb j hj), .inl (c3.fin (fin_r (fin_nil 2 _) 6))⟩⟩
      | ok a =>
        rw [e3] at c3
        have la : a.length = o.toNat := by have := jfz sW e3; omega
        have sub := rn_sub hsub P .nil rfl svs e2 e3
        exact ⟨fun j => a.getD j (0, 0), fun j => b.getD j (0, 0), .inr ⟨c1.fin (fin_r (fin_LR y _ ly) 0), c2.fin (fin_r (fin_LB b _ lb) 0), fun j hj => hasb j hj (okb j hj), .inr ⟨c3.fin (fin_r (fin_LB a _ la) 0), fun j hj => (sub.get (0, 0) (0, 0) j (by omega)).2.2⟩⟩⟩
def th (n:Int):Rat:=Rat.divInt n 1000
theorem th_eq (n:Int):th n=(n:Rat)/1000:=by unfold th;rw[Rat.divInt_eq_div];rfl
theorem fq_th {n:Int}(h : -32768≤n∧n≤32768):Fq 20 (th n):=jdz (by omega) (by omega)
section
variable {a b : Rat}
end
theorem wU_bd {p q u:Nat→Int}{i:Nat}(h:p i≤q i):0≤wU p q u i∧p i+wU p q u i≤q i:=by
 unfold wU
 have h1:=jhN (u i) (show q i-p i+1≠0 by omega)
 have h2:=jib (u i) (show 0<q i-p i+1 by omega)
 omega
theorem in_unit (a b c:Int)(h:a≤c∧c≤b):inBd (1000000000*a,1000000000*b) (th c):=by
 have e:th c*1000000000000=((1000000000*c:Int):Rat):=by
  rw[th_eq,Rat.intCast_mul];grind
 unfold inBd
 rw[e]
 exact⟨jaY.2 (by dsimp only;omega),jaY.2 (by dsimp only;omega)⟩
theorem within_c (I O:Int)(l:List (Int×Int))(xs us:List Int)(hI:0≤I∧I≤255)(hO:0≤O∧O≤255)(hl:∀ s∈l,(0≤s.1∧s.1≤255) ∧ -32768≤s.2∧s.2≤32767)(hlen:l.length≤281474976710656)(hx:xs.length=8)(hb:∀ x∈xs, -32768≤x∧x≤32767)(hus:us.length=8)(hub:∀ x∈us,0≤x∧x≤65535) :
  Cl 4 [drD I O l,.iarr .i16 xs,.iarr .u16 us] (.bool true):=by
 have pr:=program_c I O l hI hO hl hlen
 have co:=douts_c I O l hO
 have sp:=spans_c I O l xs hI hx hb
 obtain⟨⟨d,hs⟩,_⟩:=dprog_ok (ins:=1+I%3) (o:=1+O%3) (by omega) (by omega) l (fun s h=>(hl s h).2)
 generalize dprog (1+I%3) (1+O%3) l=P at *
 obtain⟨p,hp⟩:∃ p:Nat→Int,p=fun i=>min (xs.getD (2*i) 0) (xs.getD (2*i+1) 0):=⟨_,rfl⟩
 obtain⟨q,hq⟩:∃ q:Nat→Int,q=fun i=>max (xs.getD (2*i) 0) (xs.getD (2*i+1) 0):=⟨_,rfl⟩
 have bp:∀ i, -32768≤p i∧p i≤q i∧q i≤32767:=fun i=>by
  have h1:=jdN hb (2*i)
  have h2:=jdN hb (2*i+1)
  rw[hp,hq]
  dsimp only
  omega
 have ub:∀ i,0≤us.getD i 0∧us.getD i 0≤65535:=fun i=>by
  rw[jij]
  rcases jh0 i us.length with h|h
  ·rw[jim h];exact hub _ (jin h)
  ·rw[List.getElem?_eq_none h];simp
 obtain⟨u,hu⟩:∃ u:Nat→Int,u=fun i=>us.getD (0+i*2+0) 0:=⟨_,rfl⟩
 obtain⟨v,hv⟩:∃ v:Nat→Int,v=fun i=>us.getD (0+i*2+1) 0:=⟨_,rfl⟩
 have huv:∀ i,us.getD (0+i*2+0) 0=u i∧us.getD (0+i*2+1) 0=v i:=fun i=>by rw[hu,hv];exact⟨rfl,rfl⟩
 have buv:∀ i,(0≤u i∧u i≤65535)∧0≤v i∧v i≤65535:=fun i=>by rw[← (huv i).1,← (huv i).2];exact⟨ub _,ub _⟩
 have bx:∀ i, -32768≤p i+wU p q u i∧p i+wU p q u i≤32767:=fun i=>by
  have:=wU_bd (u:=u) (bp i).2.1
  have:=bp i
  omega
 have okx:∀ i,okF (th (p i+wU p q u i))=true:=fun i=>(fq_th (by have:=bx i;omega)).ok (by omega) (by omega)
 have spn_eq:∀ i,spn xs i=(1000000000*p i,1000000000*q i):=fun i=>by rw[hp,hq];rfl
 have hin:∀ i,inBd (1000000000*p i+1000000000*min (wU p q u i) (wU p q v i),1000000000*p i+1000000000*max (wU p q u i) (wU p q v i)) (th (p i+wU p q u i)):=fun i=>by
  have:=in_unit (p i+min (wU p q u i) (wU p q v i)) (p i+max (wU p q u i) (wU p q v i)) (p i+wU p q u i) (by omega)
  rw[jh4,jh4] at this
  exact this
 have hsub:∀ i,subR (1000000000*p i+1000000000*min (wU p q u i) (wU p q v i),1000000000*p i+1000000000*max (wU p q u i) (wU p q v i)) (1000000000*p i,1000000000*q i):=fun i=>by
  have h0:=bp i
  have h1:=wU_bd (u:=u) h0.2.1
  have h2:=wU_bd (u:=v) h0.2.1
  refine⟨jan.2 ?_,jan.2 ?_,?_,?_⟩<;>(try dsimp only)<;>omega
 have xo:∀ i,Cl 12 [.int .i64 (p i+wU p q u i),.int .i64 1000] (.agg [.str (decZ (th (p i+wU p q u i)).num),.str (dec (th (p i+wU p q u i)).den)]):=fun i=>jdk (by have:=bx i;omega) (by omega)
 have h3:I%3=0∨I%3=1∨I%3=2:=by omega
 clear hu hv hp hq
 rcases h3 with h3|h3|h3
 ·rw[h3] at sp hs
  have sp:Cl 18 [drD I O l,.iarr .i16 xs] (oL [spn xs 0]):=sp
  simp only[spn_eq] at sp
  obtain⟨Y,A,S,h⟩:=jfv (P:=P) (XQ:=[th (p 0+wU p q u 0)]) (SB:=[(1000000000*p 0+1000000000*min (wU p q u 0) (wU p q v 0),1000000000*p 0+1000000000*max (wU p q u 0) (wU p q v 0))]) (WB:=[(1000000000*p 0,1000000000*q 0)]) (o:=1+O%3) (d:=d) hs (fun r hr=>by
   simp only[jil,List.not_mem_nil,or_false] at hr
   rcases hr with rfl<;>exact okx _) (.cons (hin 0) (.nil)) (.cons (hsub 0) (.nil))
  exact within1_t I O l P xs us p q u v (fun i=>(decZ (th (p i+wU p q u i)).num,dec (th (p i+wU p q u i)).den)) Y A S hO hx hus bp buv huv pr co sp (fun i _=>xo i) h
 ·rw[h3] at sp hs
  have sp:Cl 18 [drD I O l,.iarr .i16 xs] (oL [spn xs 0,spn xs 1]):=sp
  simp only[spn_eq] at sp
  obtain⟨Y,A,S,h⟩:=jfv (P:=P) (XQ:=[th (p 0+wU p q u 0),th (p 1+wU p q u 1)]) (SB:=[(1000000000*p 0+1000000000*min (wU p q u 0) (wU p q v 0),1000000000*p 0+1000000000*max (wU p q u 0) (wU p q v 0)),(1000000000*p 1+1000000000*min (wU p q u 1) (wU p q v 1),1000000000*p 1+1000000000*max (wU p q u 1) (wU p q v 1))]) (WB:=[(1000000000*p 0,1000000000*q 0),(1000000000*p 1,1000000000*q 1)]) (o:=1+O%3) (d:=d) hs (fun r hr=>by
   simp only[jil,List.not_mem_nil,or_false] at hr
   rcases hr with rfl|rfl<;>exact okx _) (.cons (hin 0) (.cons (hin 1) (.nil))) (.cons (hsub 0) (.cons (hsub 1) (.nil)))
  exact within2_t I O l P xs us p q u v (fun i=>(decZ (th (p i+wU p q u i)).num,dec (th (p i+wU p q u i)).den)) Y A S hO hx hus bp buv huv pr co sp (fun i _=>xo i) h
 ·rw[h3] at sp hs
  have sp:Cl 18 [drD I O l,.iarr .i16 xs] (oL [spn xs 0,spn xs 1,spn xs 2]):=sp
  simp only[spn_eq] at sp
  obtain⟨Y,A,S,h⟩:=jfv (P:=P) (XQ:=[th (p 0+wU p q u 0),th (p 1+wU p q u 1),th (p 2+wU p q u 2)]) (SB:=[(1000000000*p 0+1000000000*min (wU p q u 0) (wU p q v 0),1000000000*p 0+1000000000*max (wU p q u 0) (wU p q v 0)),(1000000000*p 1+1000000000*min (wU p q u 1) (wU p q v 1),1000000000*p 1+1000000000*max (wU p q u 1) (wU p q v 1)),(1000000000*p 2+1000000000*min (wU p q u 2) (wU p q v 2),1000000000*p 2+1000000000*max (wU p q u 2) (wU p q v 2))]) (WB:=[(1000000000*p 0,1000000000*q 0),(1000000000*p 1,1000000000*q 1),(1000000000*p 2,1000000000*q 2)]) (o:=1+O%3) (d:=d) hs (fun r hr=>by
   simp only[jil,List.not_mem_nil,or_false] at hr
   rcases hr with rfl|rfl|rfl<;>exact okx _) (.cons (hin 0) (.cons (hin 1) (.cons (hin 2) (.nil)))) (.cons (hsub 0) (.cons (hsub 1) (.cons (hsub 2) (.nil))))
  exact within3_t I O l P xs us p q u v (fun i=>(decZ (th (p i+wU p q u i)).num,dec (th (p i+wU p q u i)).den)) Y A S hO hx hus bp buv huv pr co sp (fun i _=>xo i) h
end Go.Proofs.YtpkdedncgclblaaGreatDoor
end
