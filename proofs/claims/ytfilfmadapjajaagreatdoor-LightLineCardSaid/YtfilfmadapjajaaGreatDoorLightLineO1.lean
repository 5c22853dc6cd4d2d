/- What some functions of the program answer at values that mean given lists, texts and numbers, each proved of the program's own code: part 7. Conditions: those that each theorem names. -/
import Derived.Test.YtfilfmadapjajaaGreatDoorH6
set_option linter.unusedSimpArgs false
set_option linter.unusedVariables false
set_option maxHeartbeats 8000000
set_option maxRecDepth 100000
section
namespace Go.Proofs.YtfilfmadapjajaaGreatDoor
open Go Go.V Go.Nb
theorem toz {n : Nat} {p0 p1 p2 : Rat} (hf : Fq n p0 ∧ Fq n p1 ∧ Fq n p2) (h0 : 0 < n ∧ n ≤ 100) (hp : 0 ≤ p0 ∧ 0 ≤ p1 ∧ 0 ≤ p2) : ∃ x0 x1 y0 y1 l0 l1 e, Called Tryz.prog 27 [triQ p0 p1 p2] (.tup [.agg [.str x0, .str x1], .agg [.str y0, .str y1], .agg [.str l0, .str l1], .int .i64 e]) ∧
    ((e = 0 ∧ p0 + p1 + p2 ≠ 0 ∧ x0 = decZ (p0 / (p0 + p1 + p2)).num ∧ x1 = dec (p0 / (p0 + p1 + p2)).den ∧ y0 = decZ (p1 / (p0 + p1 + p2)).num ∧ y1 = dec (p1 / (p0 + p1 + p2)).den) ∨ (e = 7 ∧ p0 = 0 ∧ p1 = 0 ∧ p2 = 0)) := by
  have c := lto_q hf h0 hp
  unfold toQ at c
  by_cases hs : p0 + p1 + p2 = 0
  · rw [if_pos hs] at c
    exact ⟨_, _, _, _, _, _, _, c, .inr ⟨rfl, by grind, by grind, by grind⟩⟩
  · rw [if_neg hs] at c
    exact ⟨_, _, _, _, _, _, _, c, .inl ⟨rfl, hs, rfl, rfl, rfl, rfl⟩⟩
theorem ord_bd (p q r s : Rat) : InR .i64 (ordQ p q * ordQ r s) := by
  have h : ∀ p q : Rat, ordQ p q = -1 ∨ ordQ p q = 0 ∨ ordQ p q = 1 := fun p q => by
    unfold ordQ
    split
    · exact .inl rfl
    · split
      · exact .inr (.inl rfl)
      · exact .inr (.inr rfl)
  rcases h p q with e | e | e <;> rcases h r s with f | f | f <;> rw [e, f] <;> exact inRb_iff (by decide)
def cut2 (p q : Rat) (a0 a1 b0 b1 : List UInt8) : Prop := a0 = decZ p.num ∧ a1 = dec p.den ∧ b0 = decZ q.num ∧ b1 = dec q.den
theorem line_x (c0 c1 c2 d0 d1 d2 n d : Int) (hc : (0 ≤ c0 ∧ c0 ≤ 65535) ∧ (0 ≤ c1 ∧ c1 ≤ 65535) ∧ (0 ≤ c2 ∧ c2 ≤ 65535)) (hd : (0 ≤ d0 ∧ d0 ≤ 65535) ∧ (0 ≤ d1 ∧ d1 ≤ 65535) ∧ (0 ≤ d2 ∧ d2 ≤ 65535)) (hn : -32768 ≤ n ∧ n ≤ 32767) (hdd : 0 ≤ d ∧ d ≤ 255) :
    ∃ A0 A1 A2 A3 A4 A5 B0 B1 B2 B3 B4 B5 S0 S1 M0 M1 M2 M3 M4 M5 Z0 Z1 X00 X01 Y00 Y01 L00 L01 e0 X10 X11 Y10 Y11 L10 L11 e1 X20 X21 Y20 Y21 L20 L21 e2,
    Called Tryz.prog 12 [.iarr .u16 [c0, c1, c2]] (.agg [.str A0, .str A1, .str A2, .str A3, .str A4, .str A5]) ∧
    Called Tryz.prog 12 [.iarr .u16 [d0, d1, d2]] (.agg [.str B0, .str B1, .str B2, .str B3, .str B4, .str B5]) ∧
    Called Tryz.prog 23 [.agg [.int .i16 n, .int .u8 d]] (.agg [.str S0, .str S1]) ∧
    Called Tryz.prog 33 [.agg [.str A0, .str A1, .str A2, .str A3, .str A4, .str A5], .agg [.str B0, .str B1, .str B2, .str B3, .str B4, .str B5], .agg [.str S0, .str S1]] (.tup [.agg [.str M0, .str M1, .str M2, .str M3, .str M4, .str M5], .int .i64 0]) ∧
    Called Tryz.prog 35 [.int .i64 0, .int .i64 1] (.agg [.str Z0, .str Z1]) ∧
    Called Tryz.prog 27 [.agg [.str A0, .str A1, .str A2, .str A3, .str A4, .str A5]] (.tup [.agg [.str X00, .str X01], .agg [.str Y00, .str Y01], .agg [.str L00, .str L01], .int .i64 e0]) ∧
    Called Tryz.prog 27 [.agg [.str M0, .str M1, .str M2, .str M3, .str M4, .str M5]] (.tup [.agg [.str X10, .str X11], .agg [.str Y10, .str Y11], .agg [.str L10, .str L11], .int .i64 e1]) ∧
    Called Tryz.prog 27 [.agg [.str B0, .str B1, .str B2, .str B3, .str B4, .str B5]] (.tup [.agg [.str X20, .str X21], .agg [.str Y20, .str Y21], .agg [.str L20, .str L21], .int .i64 e2]) ∧
    (¬ e0 = 0 → e0 = 7 ∧ A0 = Z0 ∧ A1 = Z1 ∧ A2 = Z0 ∧ A3 = Z1 ∧ A4 = Z0 ∧ A5 = Z1) ∧
    (¬ e1 = 0 → e1 = 7 ∧ M0 = Z0 ∧ M1 = Z1 ∧ M2 = Z0 ∧ M3 = Z1 ∧ M4 = Z0 ∧ M5 = Z1) ∧
    (¬ e2 = 0 → e2 = 7 ∧ B0 = Z0 ∧ B1 = Z1 ∧ B2 = Z0 ∧ B3 = Z1 ∧ B4 = Z0 ∧ B5 = Z1) ∧
    (e0 = 0 → e1 = 0 → e2 = 0 → ∃ u0 u1 v0 v1 w0 w1 p0 p1 q0 q1 g0 g1 h0 h1,
      Called Tryz.prog 75 [.agg [.str X10, .str X11], .agg [.str X00, .str X01]] (.tup [.agg [.str u0, .str u1], .int .i64 0]) ∧
      Called Tryz.prog 75 [.agg [.str Y20, .str Y21], .agg [.str Y00, .str Y01]] (.tup [.agg [.str v0, .str v1], .int .i64 0]) ∧
      Called Tryz.prog 74 [.agg [.str u0, .str u1], .agg [.str v0, .str v1]] (.tup [.agg [.str w0, .str w1], .int .i64 0]) ∧
      Called Tryz.prog 75 [.agg [.str X20, .str X21], .agg [.str X00, .str X01]] (.tup [.agg [.str p0, .str p1], .int .i64 0]) ∧
      Called Tryz.prog 75 [.agg [.str Y10, .str Y11], .agg [.str Y00, .str Y01]] (.tup [.agg [.str q0, .str q1], .int .i64 0]) ∧
      Called Tryz.prog 74 [.agg [.str p0, .str p1], .agg [.str q0, .str q1]] (.tup [.agg [.str w0, .str w1], .int .i64 0]) ∧
      Called Tryz.prog 38 [.agg [.str X00, .str X01], .agg [.str X10, .str X11]] (.tup [.int .i64 g0, .int .i64 0]) ∧
      Called Tryz.prog 38 [.agg [.str X10, .str X11], .agg [.str X20, .str X21]] (.tup [.int .i64 g1, .int .i64 0]) ∧
      Called Tryz.prog 38 [.agg [.str Y00, .str Y01], .agg [.str Y10, .str Y11]] (.tup [.int .i64 h0, .int .i64 0]) ∧
      Called Tryz.prog 38 [.agg [.str Y10, .str Y11], .agg [.str Y20, .str Y21]] (.tup [.int .i64 h1, .int .i64 0]) ∧
      0 ≤ g0 * g1 ∧ 0 ≤ h0 * h1 ∧ InR .i64 (g0 * g1) ∧ InR .i64 (h0 * h1)) := by
  have ta := tri_c c0 c1 c2 hc.1 hc.2.1 hc.2.2
  have tb' := tri_c d0 d1 d2 hd.1 hd.2.1 hd.2.2
  have us := numShare_c n d hn hdd
  have fa : Fq 5 (Rat.divInt c0 1000) ∧ Fq 5 (Rat.divInt c1 1000) ∧ Fq 5 (Rat.divInt c2 1000) := ⟨fq_colour hc.1, fq_colour hc.2.1, fq_colour hc.2.2⟩
  have fb : Fq 5 (Rat.divInt d0 1000) ∧ Fq 5 (Rat.divInt d1 1000) ∧ Fq 5 (Rat.divInt d2 1000) := ⟨fq_colour hd.1, fq_colour hd.2.1, fq_colour hd.2.2⟩
  have pa : 0 ≤ Rat.divInt c0 1000 ∧ 0 ≤ Rat.divInt c1 1000 ∧ 0 ≤ Rat.divInt c2 1000 := ⟨nn_divInt hc.1.1 (by omega), nn_divInt hc.2.1.1 (by omega), nn_divInt hc.2.2.1 (by omega)⟩
  have pb : 0 ≤ Rat.divInt d0 1000 ∧ 0 ≤ Rat.divInt d1 1000 ∧ 0 ≤ Rat.divInt d2 1000 := ⟨nn_divInt hd.1.1 (by omega), nn_divInt hd.2.1.1 (by omega), nn_divInt hd.2.2.1 (by omega)⟩
  have ft := fq_share (n := n) hdd
  have bt := share_bd (n := n) hdd
  have o := law_of (n := 0) (m := 1) (by omega) (by omega)
  rw [Rat.zero_divInt] at o
  generalize Rat.divInt c0 1000 = a0 at *
  generalize Rat.divInt c1 1000 = a1 at *
  generalize Rat.divInt c2 1000 = a2 at *
  generalize Rat.divInt d0 1000 = b0 at *
  generalize Rat.divInt d1 1000 = b1 at *
  generalize Rat.divInt d2 1000 = b2 at *
  generalize shQ n d = t at *
  clear hc hd hn hdd
  have fm : ∀ {a b : Rat}, Fq 5 a → Fq 5 b → Fq 23 (mixQ t a b) := fun ha hb => (((fq_one.sub ft).mul ha).add (ft.mul hb)).mono (by omega)
  have fm3 : Fq 23 (mixQ t a0 b0) ∧ Fq 23 (mixQ t a1 b1) ∧ Fq 23 (mixQ t a2 b2) := ⟨fm fa.1 fb.1, fm fa.2.1 fb.2.1, fm fa.2.2 fb.2.2⟩
  have pm : 0 ≤ mixQ t a0 b0 ∧ 0 ≤ mixQ t a1 b1 ∧ 0 ≤ mixQ t a2 b2 := ⟨mix_nonneg bt.1 bt.2 pa.1 pb.1, mix_nonneg bt.1 bt.2 pa.2.1 pb.2.1, mix_nonneg bt.1 bt.2 pa.2.2 pb.2.2⟩
  have mx := lmix_q (n := 5) fa fb ft (by omega) pa pb bt
  obtain ⟨X00, X01, Y00, Y01, L00, L01, e0, t0, r0⟩ := toz fa (by omega) pa
  obtain ⟨X10, X11, Y10, Y11, L10, L11, e1, t1, r1⟩ := toz fm3 (by omega) pm
  obtain ⟨X20, X21, Y20, Y21, L20, L21, e2, t2, r2⟩ := toz fb (by omega) pb
  have zero : ∀ {p0 p1 p2 : Rat}, p0 = 0 ∧ p1 = 0 ∧ p2 = 0 → decZ p0.num = decZ (0 : Rat).num ∧ dec p0.den = dec (0 : Rat).den ∧ decZ p1.num = decZ (0 : Rat).num ∧ dec p1.den = dec (0 : Rat).den ∧ decZ p2.num = decZ (0 : Rat).num ∧ dec p2.den = dec (0 : Rat).den := fun {p0 p1 p2} h => by
    obtain ⟨h0, h1, h2⟩ := h
    subst h0 h1 h2
    exact ⟨rfl, rfl, rfl, rfl, rfl, rfl⟩
  have zz : ∀ {p0 p1 p2 : Rat} {e : Int} {R : Prop}, ((e = 0 ∧ R) ∨ (e = 7 ∧ p0 = 0 ∧ p1 = 0 ∧ p2 = 0)) → ¬ e = 0 → e = 7 ∧ decZ p0.num = decZ (0 : Rat).num ∧ dec p0.den = dec (0 : Rat).den ∧ decZ p1.num = decZ (0 : Rat).num ∧ dec p1.den = dec (0 : Rat).den ∧ decZ p2.num = decZ (0 : Rat).num ∧ dec p2.den = dec (0 : Rat).den := fun h he => by
    rcases h with h | h
    · exact absurd h.1 he
    · exact ⟨h.1, zero h.2⟩
  refine ⟨_, _, _, _, _, _, _, _, _, _, _, _, _, _, _, _, _, _, _, _, _, _, _, _, _, _, _, _, _, _, _, _, _, _, _, _, _, _, _, _, _, _, _, ta, tb', us, mx, o, t0, t1, t2, zz r0, zz r1, zz r2, fun he0 he1 he2 => ?_⟩
  have k : ∀ {p0 p1 p2 : Rat} {e : Int} {R : Prop}, ((e = 0 ∧ R) ∨ (e = 7 ∧ p0 = 0 ∧ p1 = 0 ∧ p2 = 0)) → e = 0 → R := fun h he => by
    rcases h with h | h
    · exact h.2
    · omega
  obtain ⟨s0, k0, k1, k2, k3⟩ := k r0 he0
  obtain ⟨s1, k4, k5, k6, k7⟩ := k r1 he1
  obtain ⟨s2, k8, k9, k10, k11⟩ := k r2 he2
  subst k0 k1 k2 k3 k4 k5 k6 k7 k8 k9 k10 k11
  clear t0 t1 t2 r0 r1 r2 zz zero k mx ta tb' us o
  have nz : ∀ {q : Rat}, q ≠ 0 → q.num ≠ 0 := fun h e => h (Rat.num_eq_zero.1 e)
  have fsa := (fa.1.add fa.2.1).add fa.2.2
  have fsb := (fb.1.add fb.2.1).add fb.2.2
  have fsm := (fm3.1.add fm3.2.1).add fm3.2.2
  have x0 : Fq 22 (a0 / (a0 + a1 + a2)) := (fa.1.div fsa (nz s0)).mono (by omega)
  have y0 : Fq 22 (a1 / (a0 + a1 + a2)) := (fa.2.1.div fsa (nz s0)).mono (by omega)
  have x2 : Fq 22 (b0 / (b0 + b1 + b2)) := (fb.1.div fsb (nz s2)).mono (by omega)
  have y2 : Fq 22 (b1 / (b0 + b1 + b2)) := (fb.2.1.div fsb (nz s2)).mono (by omega)
  have x1 : Fq 100 (mixQ t a0 b0 / (mixQ t a0 b0 + mixQ t a1 b1 + mixQ t a2 b2)) := (fm3.1.div fsm (nz s1)).mono (by omega)
  have y1 : Fq 100 (mixQ t a1 b1 / (mixQ t a0 b0 + mixQ t a1 b1 + mixQ t a2 b2)) := (fm3.2.1.div fsm (nz s1)).mono (by omega)
  have hl := line_eq t a0 a1 a2 b0 b1 b2 s0 s2 s1
  have hs := sum_mix t a0 a1 a2 b0 b1 b2
  have c1 := zsub x1 x0 (by omega) (by omega) (by omega)
  have c2 := zsub y2 y0 (by omega) (by omega) (by omega)
  have c3 := zmul (x1.sub x0) (y2.sub y0) (by omega) (by omega) (by omega)
  have c4 := zsub x2 x0 (by omega) (by omega) (by omega)
  have c5 := zsub y1 y0 (by omega) (by omega) (by omega)
  have c6 := zmul (x2.sub x0) (y1.sub y0) (by omega) (by omega) (by omega)
  rw [← hl] at c6
  have z1 := zcmp x0 x1 (by omega) (by omega)
  have z2 := zcmp x1 x2 (by omega) (by omega)
  have z3 := zcmp y0 y1 (by omega) (by omega)
  have z4 := zcmp y1 y2 (by omega) (by omega)
  have sa : 0 ≤ a0 + a1 + a2 := by grind
  have sb : 0 ≤ b0 + b1 + b2 := by grind
  have sm : 0 ≤ mixQ t a0 b0 + mixQ t a1 b1 + mixQ t a2 b2 := by grind
  have hk : 0 ≤ t * (b0 + b1 + b2) * (mixQ t a0 b0 + mixQ t a1 b1 + mixQ t a2 b2)⁻¹ := Rat.mul_nonneg (Rat.mul_nonneg bt.1 sb) (inv_nonneg' sm)
  have hk2 : 0 ≤ (1 - t) * (a0 + a1 + a2) * (mixQ t a0 b0 + mixQ t a1 b1 + mixQ t a2 b2)⁻¹ := Rat.mul_nonneg (Rat.mul_nonneg (by grind) sa) (inv_nonneg' sm)
  have g1 := between hk hk2 (part_eq t a0 b0 _ _ _ s0 s2 s1 hs) (part_eq2 t a0 b0 _ _ _ s0 s2 s1 hs)
  have g2 := between hk hk2 (part_eq t a1 b1 _ _ _ s0 s2 s1 hs) (part_eq2 t a1 b1 _ _ _ s0 s2 s1 hs)
  exact ⟨_, _, _, _, _, _, _, _, _, _, _, _, _, _, c1, c2, c3, c4, c5, c6, z1, z2, z3, z4, g1, g2, ord_bd _ _ _ _, ord_bd _ _ _ _⟩
end Go.Proofs.YtfilfmadapjajaaGreatDoor
end
section
namespace Go.Proofs.YtfilfmadapjajaaGreatDoor
open Go Go.V Go.Nb
def ndZ57_7_16 : List Nd := [⟨[4, 9, 10, 15, 20, 21, 22, 24, 25], [0, 1, 2, 3, 5, 6, 7, 8, 11, 12, 13, 14, 16, 17, 18, 19], .ev (.cons 4 [5, 6, 7, 8, 11, 12, 13, 14, 16, 17, 18, 19] (.goto 9) (.cons 22 [0, 1, 2, 3, 5, 6, 7, 8, 11, 12, 13, 14, 16, 17, 18, 19] (.goto 1) (.nil)))⟩, ⟨[4, 9, 10, 15, 20, 21, 24, 25], [0, 1, 2, 3, 5, 6, 7, 8, 11, 12, 13, 14, 16, 17, 18, 19], .ev (.cons 4 [5, 6, 7, 8, 11, 12, 13, 14, 16, 17, 18, 19] (.goto 2) (.nil))⟩, ⟨[9, 10, 15, 20, 21, 24, 25], [5, 6, 7, 8, 11, 12, 13, 14, 16, 17, 18, 19], .ev (.cons 9 [11, 12, 13, 14, 16, 17, 18, 19] (.goto 3) (.nil))⟩, ⟨[10, 15, 20, 21, 24, 25], [11, 12, 13, 14, 16, 17, 18, 19], .ev (.cons 10 [11, 12, 13, 14, 16, 17, 18, 19] (.goto 4) (.nil))⟩, ⟨[15, 20, 21, 24, 25], [11, 12, 13, 14, 16, 17, 18, 19], .ev (.cons 15 [16, 17, 18, 19] (.goto 5) (.nil))⟩, ⟨[20, 21, 24, 25], [16, 17, 18, 19], .ev (.cons 20 [] (.goto 6) (.nil))⟩, ⟨[21, 24, 25], [], .ev (.cons 21 [] (.goto 7) (.nil))⟩, ⟨[24, 25], [], .ev (.cons 24 [] (.goto 8) (.nil))⟩, ⟨[25], [], .ev (.cons 25 [] (.done) (.nil))⟩, ⟨[9, 10, 15, 20, 21, 22, 24, 25], [5, 6, 7, 8, 11, 12, 13, 14, 16, 17, 18, 19], .ev (.cons 9 [11, 12, 13, 14, 16, 17, 18, 19] (.goto 10) (.cons 22 [5, 6, 7, 8, 11, 12, 13, 14, 16, 17, 18, 19] (.goto 2) (.nil)))⟩, ⟨[10, 15, 20, 21, 22, 24, 25], [11, 12, 13, 14, 16, 17, 18, 19], .ev (.cons 10 [11, 12, 13, 14, 16, 17, 18, 19] (.goto 11) (.cons 22 [11, 12, 13, 14, 16, 17, 18, 19] (.goto 3) (.nil)))⟩, ⟨[15, 20, 21, 22, 24, 25], [11, 12, 13, 14, 16, 17, 18, 19], .ev (.cons 15 [16, 17, 18, 19] (.goto 12) (.cons 22 [11, 12, 13, 14, 16, 17, 18, 19] (.goto 4) (.nil)))⟩, ⟨[20, 21, 22, 24, 25], [16, 17, 18, 19], .ev (.cons 20 [] (.goto 13) (.cons 22 [16, 17, 18, 19] (.goto 5) (.nil)))⟩, ⟨[21, 22, 24, 25], [], .ev (.cons 21 [] (.goto 14) (.cons 22 [] (.goto 6) (.nil)))⟩, ⟨[22, 24, 25], [], .ev (.cons 22 [] (.goto 7) (.nil))⟩, ⟨[4, 9, 10, 15, 20, 21, 23, 24, 25], [0, 1, 2, 3, 5, 6, 7, 8, 11, 12, 13, 14, 16, 17, 18, 19], .ev (.cons 4 [5, 6, 7, 8, 11, 12, 13, 14, 16, 17, 18, 19] (.goto 16) (.cons 23 [0, 1, 2, 3, 5, 6, 7, 8, 11, 12, 13, 14, 16, 17, 18, 19] (.goto 1) (.nil)))⟩, ⟨[9, 10, 15, 20, 21, 23, 24, 25], [5, 6, 7, 8, 11, 12, 13, 14, 16, 17, 18, 19], .ev (.cons 9 [11, 12, 13, 14, 16, 17, 18, 19] (.goto 17) (.cons 23 [5, 6, 7, 8, 11, 12, 13, 14, 16, 17, 18, 19] (.goto 2) (.nil)))⟩, ⟨[10, 15, 20, 21, 23, 24, 25], [11, 12, 13, 14, 16, 17, 18, 19], .ev (.cons 10 [11, 12, 13, 14, 16, 17, 18, 19] (.goto 18) (.cons 23 [11, 12, 13, 14, 16, 17, 18, 19] (.goto 3) (.nil)))⟩, ⟨[15, 20, 21, 23, 24, 25], [11, 12, 13, 14, 16, 17, 18, 19], .ev (.cons 15 [16, 17, 18, 19] (.goto 19) (.cons 23 [11, 12, 13, 14, 16, 17, 18, 19] (.goto 4) (.nil)))⟩, ⟨[20, 21, 23, 24, 25], [16, 17, 18, 19], .ev (.cons 20 [] (.goto 20) (.cons 23 [16, 17, 18, 19] (.goto 5) (.nil)))⟩, ⟨[21, 23, 24, 25], [], .ev (.cons 21 [] (.goto 21) (.cons 23 [] (.goto 6) (.nil)))⟩, ⟨[23, 24, 25], [], .ev (.cons 23 [] (.goto 7) (.nil))⟩, ⟨[9, 10, 15, 20, 21, 22, 23, 24, 25], [5, 6, 7, 8, 11, 12, 13, 14, 16, 17, 18, 19], .ev (.cons 9 [11, 12, 13, 14, 16, 17, 18, 19] (.goto 23) (.cons 22 [5, 6, 7, 8, 11, 12, 13, 14, 16, 17, 18, 19] (.goto 16) (.cons 23 [5, 6, 7, 8, 11, 12, 13, 14, 16, 17, 18, 19] (.goto 9) (.nil))))⟩, ⟨[10, 15, 20, 21, 22, 23, 24, 25], [11, 12, 13, 14, 16, 17, 18, 19], .ev (.cons 10 [11, 12, 13, 14, 16, 17, 18, 19] (.goto 24) (.cons 22 [11, 12, 13, 14, 16, 17, 18, 19] (.goto 17) (.cons 23 [11, 12, 13, 14, 16, 17, 18, 19] (.goto 10) (.nil))))⟩, ⟨[15, 20, 21, 22, 23, 24, 25], [11, 12, 13, 14, 16, 17, 18, 19], .ev (.cons 15 [16, 17, 18, 19] (.goto 25) (.cons 22 [11, 12, 13, 14, 16, 17, 18, 19] (.goto 18) (.cons 23 [11, 12, 13, 14, 16, 17, 18, 19] (.goto 11) (.nil))))⟩, ⟨[20, 21, 22, 23, 24, 25], [16, 17, 18, 19], .ev (.cons 20 [] (.goto 26) (.cons 22 [16, 17, 18, 19] (.goto 19) (.cons 23 [16, 17, 18, 19] (.goto 12) (.nil))))⟩, ⟨[21, 22, 23, 24, 25], [], .ev (.cons 21 [] (.goto 27) (.cons 22 [] (.goto 20) (.cons 23 [] (.goto 13) (.nil))))⟩, ⟨[22, 23, 24, 25], [], .ev (.cons 22 [] (.goto 21) (.cons 23 [] (.goto 14) (.nil)))⟩]
theorem zZ57_0 : type_of% @Nat.zero_add ∧ type_of% @tn0 ∧ type_of% @tn1 ∧ type_of% @tn2 := ⟨@Nat.zero_add, @tn0, @tn1, @tn2⟩
theorem zZ57_1 : type_of% @Nat.zero_add ∧ type_of% @dec_refl ∧ type_of% @dec_reflz := ⟨@Nat.zero_add, @dec_refl, @dec_reflz⟩
theorem zZ57_2 : type_of% @Nat.zero_add ∧ type_of% @dec_refl ∧ type_of% @dec_reflz ∧ type_of% @tn0 ∧ type_of% @tn1 ∧ type_of% @tn2 := ⟨@Nat.zero_add, @dec_refl, @dec_reflz, @tn0, @tn1, @tn2⟩
theorem lightLine_c (c0 c1 c2 d0 d1 d2 n d : Int) (hc : (0 ≤ c0 ∧ c0 ≤ 65535) ∧ (0 ≤ c1 ∧ c1 ≤ 65535) ∧ (0 ≤ c2 ∧ c2 ≤ 65535)) (hd : (0 ≤ d0 ∧ d0 ≤ 65535) ∧ (0 ≤ d1 ∧ d1 ≤ 65535) ∧ (0 ≤ d2 ∧ d2 ≤ 65535)) (hn : -32768 ≤ n ∧ n ≤ 32767) (hdd : 0 ≤ d ∧ d ≤ 255) :
    Called Tryz.prog 7 [.iarr .u16 [c0, c1, c2], .iarr .u16 [d0, d1, d2], .agg [.int .i16 n, .int .u8 d]] (.bool true) := by
  obtain ⟨A0, A1, A2, A3, A4, A5, B0, B1, B2, B3, B4, B5, S0, S1, M0, M1, M2, M3, M4, M5, Z0, Z1, X00, X01, Y00, Y01, L00, L01, e0, X10, X11, Y10, Y11, L10, L11, e1, X20, X21, Y20, Y21, L20, L21, e2, ta, tb', us, mx, o, t0, t1, t2, z0, z1, z2, H⟩ := line_x c0 c1 c2 d0 d1 d2 n d hc hd hn hdd
  clear hc hd hn hdd
  refine called_of_run tbOk 6 ⟨Tryz.func7, rfl, rfl, Nat.le_of_ble_eq_true rfl⟩ ?_
  (conv => whnf)
  (conv => whnf)
  (try simp only [Nat.zero_add])
  repeat ((first | refine V.s1 ?_ | ((try ((with_reducible refine .ext ?_); (conv => whnf); (try simp only [Nat.zero_add]))); (with_reducible refine call_intro (r := ?_) ?_ ?_); rotate_left; (focus (first | exact (works_c))); (conv => whnf))); (try simp only [Nat.zero_add]))
  (conv => whnf)
  (try simp only [Nat.zero_add])
  repeat ((first | refine V.s1 ?_); (try simp only [Nat.zero_add]))
  refine ⟨(.take 0 (.take 2 (.take 4 (.ev (.cons 1 [4, 2] (.ev (.cons 3 [4] (.ev (.cons 5 [] (.ev (.cons 6 [] (.take 7 (.take 8 (.take 9 (.ev (.cons 10 [9, 8, 7] (.ev (.cons 11 [9] (.take 12 (.done)) (.nil))) (.nil)))))) (.cons 10 [] (.ev (.cons 6 [] (.take 7 (.take 8 (.take 9 (.ev (.cons 11 [9] (.take 12 (.done)) (.nil)))))) (.nil))) (.nil)))) (.cons 10 [4] (.ev (.cons 5 [] (.ev (.cons 6 [] (.take 7 (.take 8 (.take 9 (.ev (.cons 11 [9] (.take 12 (.done)) (.nil)))))) (.nil))) (.nil))) (.nil)))) (.cons 10 [4, 2] (.ev (.cons 3 [4] (.ev (.cons 5 [] (.ev (.cons 6 [] (.take 7 (.take 8 (.take 9 (.ev (.cons 11 [9] (.take 12 (.done)) (.nil)))))) (.nil))) (.nil))) (.nil))) (.nil)))) (.cons 10 [4, 2, 0] (.ev (.cons 1 [4, 2] (.ev (.cons 3 [4] (.ev (.cons 5 [] (.ev (.cons 6 [] (.take 7 (.take 8 (.take 9 (.ev (.cons 11 [9] (.take 12 (.done)) (.nil)))))) (.nil))) (.nil))) (.nil))) (.nil))) (.nil))))))), [], ⟨by kernel_rfl, by kernel_rfl, by kernel_rfl, by kernel_rfl⟩, ?_⟩
  refine drw_meet [(7, .box 7 0), (8, .int .i64 0)] [(7, .box [.str M0, .str M1, .str M2, .str M3, .str M4, .str M5])] ?_ ?_
  · (conv => whnf); (try simp only [Nat.zero_add])
    repeat' (first | exact V.wk | ((with_reducible refine And.intro ?_ draw_nil); (conv => whnf); (try simp only [Nat.zero_add])) | ((with_reducible first | refine draw_split ?_ ?_ | refine nds_split ?_ ?_) <;> (conv => whnf); (try simp only [Nat.zero_add])) | ((first | refine V.s1 ?_ | ((with_reducible refine recheck_and ?_ ?_); (focus ((conv => whnf); (try simp only [Nat.zero_add]); (repeat (refine V.s1 ?_; (try simp only [Nat.zero_add]))); exact ⟨rfl⟩)); (conv => whnf)) | ((try ((with_reducible refine .ext ?_); (conv => whnf); (try simp only [Nat.zero_add]))); (with_reducible refine call_intro (r := ?_) ?_ ?_); rotate_left; (focus (first | exact (ta) | exact (tb') | exact (us) | exact (mx))); (conv => whnf))); (try simp only [Nat.zero_add])) | (refine And.intro ?_ ?_ <;> (conv => whnf); (try simp only [Nat.zero_add])))
  (conv => whnf)
  (try simp only [Nat.zero_add])
  repeat ((first | refine V.s1 ?_); (try simp only [Nat.zero_add]))
  refine ⟨(.take 0 (.take 2 (.take 3 (.take 6 (.ev (.cons 1 [6, 3, 2] (.ev (.cons 4 [6, 2] (.take 5 (.done)) (.nil))) (.nil))))))), [], ⟨by kernel_rfl, by kernel_rfl, by kernel_rfl, by kernel_rfl⟩, ?_⟩
  refine drw_meet [(46, .agg [.str A0, .str A1, .str A2, .str A3, .str A4, .str A5, .str M0, .str M1, .str M2, .str M3, .str M4, .str M5, .str B0, .str B1, .str B2, .str B3, .str B4, .str B5]), (47, .int .i64 0)] [] ?_ ?_
  · (conv => whnf); (try simp only [Nat.zero_add])
    repeat' (first | exact V.wk | ((with_reducible refine And.intro ?_ draw_nil); (conv => whnf); (try simp only [Nat.zero_add])) | ((with_reducible first | refine draw_split ?_ ?_ | refine nds_split ?_ ?_) <;> (conv => whnf); (try simp only [Nat.zero_add])) | ((first | refine V.s1 ?_ | ((with_reducible refine recheck_and ?_ ?_); (focus ((conv => whnf); (try simp only [Nat.zero_add]); (repeat (refine V.s1 ?_; (try simp only [Nat.zero_add]))); exact ⟨rfl⟩)); (conv => whnf)) | ((try ((with_reducible refine .ext ?_); (conv => whnf); (try simp only [Nat.zero_add]))); (with_reducible refine call_intro (r := ?_) ?_ ?_); rotate_left; (focus (first | exact (ta) | exact (tb'))); (conv => whnf))); (try simp only [Nat.zero_add])) | (refine And.intro ?_ ?_ <;> (conv => whnf); (try simp only [Nat.zero_add])))
  (conv => whnf)
  (try simp only [zZ57_0])
  repeat ((first | refine V.s1 ?_); (try simp only [zZ57_0]))
  refine lp_any (0) (fun k => k ≤ 3 ∧ (0 < k → e0 = 0) ∧ (1 < k → e1 = 0) ∧ (2 < k → e2 = 0)) (fun k => 3 - k) (fun k => [(47, .int .i64 k)]) (fun k => [(9, .box (mxS X00 X01 X10 X11 X20 X21 k)), (10, .box (mxS Y00 Y01 Y10 Y11 Y20 Y21 k))]) ?_ ?_ ?_
  · exact V.wk
  · exact ⟨Nat.zero_le _, by omega, by omega, by omega⟩
  intro k hk
  obtain ⟨hk, y0, y1, y2⟩ := hk
  have hk4 : k = 0 ∨ k = 1 ∨ k = 2 ∨ k = 3 := by omega
  rcases hk4 with e | e | e | e
  all_goals subst e
  · simp only [k0, mxS]
    (conv => whnf)
    (try simp only [zZ57_0])
    repeat ((first | refine V.s1 ?_ | ((try ((with_reducible refine .ext ?_); (conv => whnf); (try simp only [zZ57_0]))); (with_reducible refine call_intro (r := ?_) ?_ ?_); rotate_left; (focus (first | exact (t0))); (conv => whnf))); (try simp only [zZ57_0]))
    refine Cnd.split (CondB.mk (fun hq => ?_) (fun hq => ?_))
    · have hz := z0 (by simpa using hq)
      obtain ⟨h1, h2, h3, h4, h5, h6, h7⟩ := hz
      clear H hq y0 y1 y2 z0 z1 z2
      subst h1 h2 h3 h4 h5 h6 h7
      (conv => whnf)
      (try simp only [zZ57_0])
      repeat ((first | refine V.s1 ?_); (try simp only [zZ57_0]))
      refine ⟨(.take 0 (.take 1 (.take 2 (.take 3 (.take 4 (.ev (.cons 5 [4, 3] (.take 6 (.take 7 (.take 8 (.take 9 (.take 10 (.ev (.cons 11 [10, 9] (.take 12 (.take 13 (.take 14 (.take 15 (.take 16 (.ev (.cons 17 [16, 15] (.take 18 (.take 19 (.take 20 (.done)))) (.nil)))))))) (.nil)))))))) (.nil)))))))), [], ⟨by kernel_rfl, by kernel_rfl, by kernel_rfl, by kernel_rfl⟩, ?_⟩
      refine drw_meet [(6, .bool true)] [] ?_ ?_
      · (conv => whnf); (try simp only [zZ57_1, decide_true, Bool.and_true, Bool.true_and, Bool.and_self, Bool.not_true, Bool.not_false, Bool.or_false, Bool.or_self, ne_eq, not_true_eq_false, decide_false])
        repeat' (first | exact V.wk | ((with_reducible refine And.intro ?_ draw_nil); (conv => whnf); (try simp only [zZ57_1, decide_true, Bool.and_true, Bool.true_and, Bool.and_self, Bool.not_true, Bool.not_false, Bool.or_false, Bool.or_self, ne_eq, not_true_eq_false, decide_false])) | ((with_reducible first | refine draw_split ?_ ?_ | refine nds_split ?_ ?_) <;> (conv => whnf); (try simp only [zZ57_1, decide_true, Bool.and_true, Bool.true_and, Bool.and_self, Bool.not_true, Bool.not_false, Bool.or_false, Bool.or_self, ne_eq, not_true_eq_false, decide_false])) | ((first | refine V.s1 ?_ | ((with_reducible refine recheck_and ?_ ?_); (focus ((conv => whnf); (try simp only [zZ57_1, decide_true, Bool.and_true, Bool.true_and, Bool.and_self, Bool.not_true, Bool.not_false, Bool.or_false, Bool.or_self, ne_eq, not_true_eq_false, decide_false]); (repeat (refine V.s1 ?_; (try simp only [zZ57_1, decide_true, Bool.and_true, Bool.true_and, Bool.and_self, Bool.not_true, Bool.not_false, Bool.or_false, Bool.or_self, ne_eq, not_true_eq_false, decide_false]))); exact ⟨rfl⟩)); (conv => whnf)) | ((try ((with_reducible refine .ext ?_); (conv => whnf); (try simp only [zZ57_1, decide_true, Bool.and_true, Bool.true_and, Bool.and_self, Bool.not_true, Bool.not_false, Bool.or_false, Bool.or_self, ne_eq, not_true_eq_false, decide_false]))); (with_reducible refine call_intro (r := ?_) ?_ ?_); rotate_left; (focus (first | exact (o))); (conv => whnf))); (try simp only [zZ57_1, decide_true, Bool.and_true, Bool.true_and, Bool.and_self, Bool.not_true, Bool.not_false, Bool.or_false, Bool.or_self, ne_eq, not_true_eq_false, decide_false])) | (refine And.intro ?_ ?_ <;> (conv => whnf); (try simp only [zZ57_1, decide_true, Bool.and_true, Bool.true_and, Bool.and_self, Bool.not_true, Bool.not_false, Bool.or_false, Bool.or_self, ne_eq, not_true_eq_false, decide_false])))
      (conv => whnf)
      (try simp only [zZ57_0])
      repeat ((first | refine V.s1 ?_); (try simp only [zZ57_0]))
      exact Fin.of rfl
    (conv => whnf)
    (try simp only [zZ57_0])
    repeat ((first | refine V.s1 ?_); (try simp only [zZ57_0]))
    refine ⟨(.take 0 (.take 1 (.take 2 (.take 3 (.take 4 (.ev (.cons 5 [3, 1] (.take 6 (.ev (.cons 7 [] (.done) (.nil)))) (.nil)))))))), [], ⟨by kernel_rfl, by kernel_rfl, by kernel_rfl, by kernel_rfl⟩, ?_⟩
    refine drw_meet [] [(9, .box (mxS X00 X01 X10 X11 X20 X21 1)), (10, .box (mxS Y00 Y01 Y10 Y11 Y20 Y21 1))] ?_ ?_
    · (conv => whnf); (try simp only [zZ57_0])
      repeat' (first | exact V.wk | ((with_reducible refine And.intro ?_ draw_nil); (conv => whnf); (try simp only [zZ57_0])) | ((with_reducible first | refine draw_split ?_ ?_ | refine nds_split ?_ ?_) <;> (conv => whnf); (try simp only [zZ57_0])) | ((first | refine V.s1 ?_ | ((with_reducible refine recheck_and ?_ ?_); (focus ((conv => whnf); (try simp only [zZ57_0]); (repeat (refine V.s1 ?_; (try simp only [zZ57_0]))); exact ⟨rfl⟩)); (conv => whnf))); (try simp only [zZ57_0])) | (refine And.intro ?_ ?_ <;> (conv => whnf); (try simp only [zZ57_0])))
    (conv => whnf)
    (try simp only [zZ57_0])
    repeat ((first | refine V.s1 ?_); (try simp only [zZ57_0]))
    simp at hq
    exact ⟨1, ⟨by omega, by omega, by omega, by omega⟩, by omega, V.wk⟩
  · simp only [k1, mxS]
    (conv => whnf)
    (try simp only [zZ57_0])
    repeat ((first | refine V.s1 ?_ | ((try ((with_reducible refine .ext ?_); (conv => whnf); (try simp only [zZ57_0]))); (with_reducible refine call_intro (r := ?_) ?_ ?_); rotate_left; (focus (first | exact (t1))); (conv => whnf))); (try simp only [zZ57_0]))
    refine Cnd.split (CondB.mk (fun hq => ?_) (fun hq => ?_))
    · have hz := z1 (by simpa using hq)
      obtain ⟨h1, h2, h3, h4, h5, h6, h7⟩ := hz
      clear H hq y0 y1 y2 z0 z1 z2
      subst h1 h2 h3 h4 h5 h6 h7
      (conv => whnf)
      (try simp only [zZ57_0])
      repeat ((first | refine V.s1 ?_); (try simp only [zZ57_0]))
      refine ⟨(.take 0 (.take 1 (.take 2 (.take 3 (.take 4 (.ev (.cons 5 [4, 3] (.take 6 (.take 7 (.take 8 (.take 9 (.take 10 (.ev (.cons 11 [10, 9] (.take 12 (.take 13 (.take 14 (.take 15 (.take 16 (.ev (.cons 17 [16, 15] (.take 18 (.take 19 (.take 20 (.done)))) (.nil)))))))) (.nil)))))))) (.nil)))))))), [], ⟨by kernel_rfl, by kernel_rfl, by kernel_rfl, by kernel_rfl⟩, ?_⟩
      refine drw_meet [(6, .bool true)] [] ?_ ?_
      · (conv => whnf); (try simp only [zZ57_1, decide_true, Bool.and_true, Bool.true_and, Bool.and_self, Bool.not_true, Bool.not_false, Bool.or_false, Bool.or_self, ne_eq, not_true_eq_false, decide_false])
        repeat' (first | exact V.wk | ((with_reducible refine And.intro ?_ draw_nil); (conv => whnf); (try simp only [zZ57_1, decide_true, Bool.and_true, Bool.true_and, Bool.and_self, Bool.not_true, Bool.not_false, Bool.or_false, Bool.or_self, ne_eq, not_true_eq_false, decide_false])) | ((with_reducible first | refine draw_split ?_ ?_ | refine nds_split ?_ ?_) <;> (conv => whnf); (try simp only [zZ57_1, decide_true, Bool.and_true, Bool.true_and, Bool.and_self, Bool.not_true, Bool.not_false, Bool.or_false, Bool.or_self, ne_eq, not_true_eq_false, decide_false])) | ((first | refine V.s1 ?_ | ((with_reducible refine recheck_and ?_ ?_); (focus ((conv => whnf); (try simp only [zZ57_1, decide_true, Bool.and_true, Bool.true_and, Bool.and_self, Bool.not_true, Bool.not_false, Bool.or_false, Bool.or_self, ne_eq, not_true_eq_false, decide_false]); (repeat (refine V.s1 ?_; (try simp only [zZ57_1, decide_true, Bool.and_true, Bool.true_and, Bool.and_self, Bool.not_true, Bool.not_false, Bool.or_false, Bool.or_self, ne_eq, not_true_eq_false, decide_false]))); exact ⟨rfl⟩)); (conv => whnf)) | ((try ((with_reducible refine .ext ?_); (conv => whnf); (try simp only [zZ57_1, decide_true, Bool.and_true, Bool.true_and, Bool.and_self, Bool.not_true, Bool.not_false, Bool.or_false, Bool.or_self, ne_eq, not_true_eq_false, decide_false]))); (with_reducible refine call_intro (r := ?_) ?_ ?_); rotate_left; (focus (first | exact (o))); (conv => whnf))); (try simp only [zZ57_1, decide_true, Bool.and_true, Bool.true_and, Bool.and_self, Bool.not_true, Bool.not_false, Bool.or_false, Bool.or_self, ne_eq, not_true_eq_false, decide_false])) | (refine And.intro ?_ ?_ <;> (conv => whnf); (try simp only [zZ57_1, decide_true, Bool.and_true, Bool.true_and, Bool.and_self, Bool.not_true, Bool.not_false, Bool.or_false, Bool.or_self, ne_eq, not_true_eq_false, decide_false])))
      (conv => whnf)
      (try simp only [zZ57_0])
      repeat ((first | refine V.s1 ?_); (try simp only [zZ57_0]))
      exact Fin.of rfl
    (conv => whnf)
    (try simp only [zZ57_0])
    repeat ((first | refine V.s1 ?_); (try simp only [zZ57_0]))
    refine ⟨(.take 0 (.take 1 (.take 2 (.take 3 (.take 4 (.ev (.cons 5 [3, 1] (.take 6 (.ev (.cons 7 [] (.done) (.nil)))) (.nil)))))))), [], ⟨by kernel_rfl, by kernel_rfl, by kernel_rfl, by kernel_rfl⟩, ?_⟩
    refine drw_meet [] [(9, .box (mxS X00 X01 X10 X11 X20 X21 2)), (10, .box (mxS Y00 Y01 Y10 Y11 Y20 Y21 2))] ?_ ?_
    · (conv => whnf); (try simp only [zZ57_0])
      repeat' (first | exact V.wk | ((with_reducible refine And.intro ?_ draw_nil); (conv => whnf); (try simp only [zZ57_0])) | ((with_reducible first | refine draw_split ?_ ?_ | refine nds_split ?_ ?_) <;> (conv => whnf); (try simp only [zZ57_0])) | ((first | refine V.s1 ?_ | ((with_reducible refine recheck_and ?_ ?_); (focus ((conv => whnf); (try simp only [zZ57_0]); (repeat (refine V.s1 ?_; (try simp only [zZ57_0]))); exact ⟨rfl⟩)); (conv => whnf))); (try simp only [zZ57_0])) | (refine And.intro ?_ ?_ <;> (conv => whnf); (try simp only [zZ57_0])))
    (conv => whnf)
    (try simp only [zZ57_0])
    repeat ((first | refine V.s1 ?_); (try simp only [zZ57_0]))
    simp at hq
    exact ⟨2, ⟨by omega, by omega, by omega, by omega⟩, by omega, V.wk⟩
  · simp only [k2, mxS]
    (conv => whnf)
    (try simp only [zZ57_0])
    repeat ((first | refine V.s1 ?_ | ((try ((with_reducible refine .ext ?_); (conv => whnf); (try simp only [zZ57_0]))); (with_reducible refine call_intro (r := ?_) ?_ ?_); rotate_left; (focus (first | exact (t2))); (conv => whnf))); (try simp only [zZ57_0]))
    refine Cnd.split (CondB.mk (fun hq => ?_) (fun hq => ?_))
    · have hz := z2 (by simpa using hq)
      obtain ⟨h1, h2, h3, h4, h5, h6, h7⟩ := hz
      clear H hq y0 y1 y2 z0 z1 z2
      subst h1 h2 h3 h4 h5 h6 h7
      (conv => whnf)
      (try simp only [zZ57_0])
      repeat ((first | refine V.s1 ?_); (try simp only [zZ57_0]))
      refine ⟨(.take 0 (.take 1 (.take 2 (.take 3 (.take 4 (.ev (.cons 5 [4, 3] (.take 6 (.take 7 (.take 8 (.take 9 (.take 10 (.ev (.cons 11 [10, 9] (.take 12 (.take 13 (.take 14 (.take 15 (.take 16 (.ev (.cons 17 [16, 15] (.take 18 (.take 19 (.take 20 (.done)))) (.nil)))))))) (.nil)))))))) (.nil)))))))), [], ⟨by kernel_rfl, by kernel_rfl, by kernel_rfl, by kernel_rfl⟩, ?_⟩
      refine drw_meet [(6, .bool true)] [] ?_ ?_
      · (conv => whnf); (try simp only [zZ57_1, decide_true, Bool.and_true, Bool.true_and, Bool.and_self, Bool.not_true, Bool.not_false, Bool.or_false, Bool.or_self, ne_eq, not_true_eq_false, decide_false])
        repeat' (first | exact V.wk | ((with_reducible refine And.intro ?_ draw_nil); (conv => whnf); (try simp only [zZ57_1, decide_true, Bool.and_true, Bool.true_and, Bool.and_self, Bool.not_true, Bool.not_false, Bool.or_false, Bool.or_self, ne_eq, not_true_eq_false, decide_false])) | ((with_reducible first | refine draw_split ?_ ?_ | refine nds_split ?_ ?_) <;> (conv => whnf); (try simp only [zZ57_1, decide_true, Bool.and_true, Bool.true_and, Bool.and_self, Bool.not_true, Bool.not_false, Bool.or_false, Bool.or_self, ne_eq, not_true_eq_false, decide_false])) | ((first | refine V.s1 ?_ | ((with_reducible refine recheck_and ?_ ?_); (focus ((conv => whnf); (try simp only [zZ57_1, decide_true, Bool.and_true, Bool.true_and, Bool.and_self, Bool.not_true, Bool.not_false, Bool.or_false, Bool.or_self, ne_eq, not_true_eq_false, decide_false]); (repeat (refine V.s1 ?_; (try simp only [zZ57_1, decide_true, Bool.and_true, Bool.true_and, Bool.and_self, Bool.not_true, Bool.not_false, Bool.or_false, Bool.or_self, ne_eq, not_true_eq_false, decide_false]))); exact ⟨rfl⟩)); (conv => whnf)) | ((try ((with_reducible refine .ext ?_); (conv => whnf); (try simp only [zZ57_1, decide_true, Bool.and_true, Bool.true_and, Bool.and_self, Bool.not_true, Bool.not_false, Bool.or_false, Bool.or_self, ne_eq, not_true_eq_false, decide_false]))); (with_reducible refine call_intro (r := ?_) ?_ ?_); rotate_left; (focus (first | exact (o))); (conv => whnf))); (try simp only [zZ57_1, decide_true, Bool.and_true, Bool.true_and, Bool.and_self, Bool.not_true, Bool.not_false, Bool.or_false, Bool.or_self, ne_eq, not_true_eq_false, decide_false])) | (refine And.intro ?_ ?_ <;> (conv => whnf); (try simp only [zZ57_1, decide_true, Bool.and_true, Bool.true_and, Bool.and_self, Bool.not_true, Bool.not_false, Bool.or_false, Bool.or_self, ne_eq, not_true_eq_false, decide_false])))
      (conv => whnf)
      (try simp only [zZ57_0])
      repeat ((first | refine V.s1 ?_); (try simp only [zZ57_0]))
      exact Fin.of rfl
    (conv => whnf)
    (try simp only [zZ57_0])
    repeat ((first | refine V.s1 ?_); (try simp only [zZ57_0]))
    refine ⟨(.take 0 (.take 1 (.take 2 (.take 3 (.take 4 (.ev (.cons 5 [3, 1] (.take 6 (.ev (.cons 7 [] (.done) (.nil)))) (.nil)))))))), [], ⟨by kernel_rfl, by kernel_rfl, by kernel_rfl, by kernel_rfl⟩, ?_⟩
    refine drw_meet [] [(9, .box (mxS X00 X01 X10 X11 X20 X21 3)), (10, .box (mxS Y00 Y01 Y10 Y11 Y20 Y21 3))] ?_ ?_
    · (conv => whnf); (try simp only [zZ57_0])
      repeat' (first | exact V.wk | ((with_reducible refine And.intro ?_ draw_nil); (conv => whnf); (try simp only [zZ57_0])) | ((with_reducible first | refine draw_split ?_ ?_ | refine nds_split ?_ ?_) <;> (conv => whnf); (try simp only [zZ57_0])) | ((first | refine V.s1 ?_ | ((with_reducible refine recheck_and ?_ ?_); (focus ((conv => whnf); (try simp only [zZ57_0]); (repeat (refine V.s1 ?_; (try simp only [zZ57_0]))); exact ⟨rfl⟩)); (conv => whnf))); (try simp only [zZ57_0])) | (refine And.intro ?_ ?_ <;> (conv => whnf); (try simp only [zZ57_0])))
    (conv => whnf)
    (try simp only [zZ57_0])
    repeat ((first | refine V.s1 ?_); (try simp only [zZ57_0]))
    simp at hq
    exact ⟨3, ⟨by omega, by omega, by omega, by omega⟩, by omega, V.wk⟩
  simp only [k3, mxS]
  obtain ⟨u0, u1, v0, v1, w0, w1, p0, p1, q0, q1, g0, g1, h0, h1, s1, s2, s3, s4, s5, s6, m1, m2, m3, m4, hg, hh, ig, ih⟩ := H (y0 (by omega)) (y1 (by omega)) (y2 (by omega))
  clear H y0 y1 y2 z0 z1 z2
  have rg : decide (g0 * g1 ≥ 0) = true := decide_eq_true hg
  have rh : decide (h0 * h1 ≥ 0) = true := decide_eq_true hh
  clear hg hh
  (conv => whnf)
  (try simp only [zZ57_0])
  repeat ((first | refine V.s1 ?_); (try simp only [zZ57_0]))
  refine ⟨(.take 0 (.take 1 (.take 2 (.take 3 (.take 5 (.take 6 (.take 7 (.take 8 (.take 11 (.take 12 (.take 13 (.take 14 (.take 16 (.take 17 (.take 18 (.take 19 (.ev (.cons 4 [19, 18, 17, 16, 14, 13, 12, 11, 8, 7, 6, 5] (.goto 22) (.cons 22 [19, 18, 17, 16, 14, 13, 12, 11, 8, 7, 6, 5, 3, 2, 1, 0] (.goto 15) (.cons 23 [19, 18, 17, 16, 14, 13, 12, 11, 8, 7, 6, 5, 3, 2, 1, 0] (.goto 0) (.nil))))))))))))))))))))), ndZ57_7_16, ⟨by kernel_rfl, by kernel_rfl, by kernel_rfl, by kernel_rfl⟩, ?_⟩
  refine dag_meet [(18, .box 18 0), (19, .box 19 0)] [(18, .box [.str w0, .str w1]), (19, .box [.str w0, .str w1])] [(0, [(87, .box 9 2)], []), (1, [(88, .agg [.str X10, .str X11])], []), (2, [(89, .box 9 0)], []), (3, [(90, .agg [.str X00, .str X01])], []), (4, [(91, .agg [.str u0, .str u1])], []), (5, [(92, .box 10 4)], []), (6, [(93, .agg [.str Y20, .str Y21])], []), (7, [(94, .box 10 0)], []), (8, [(95, .agg [.str Y00, .str Y01])], []), (9, [(96, .agg [.str v0, .str v1])], []), (10, [(97, .agg [.str w0, .str w1])], []), (11, [(98, .box 9 4)], []), (12, [(99, .agg [.str X20, .str X21])], []), (13, [(100, .box 9 0)], []), (14, [(101, .agg [.str X00, .str X01])], []), (15, [(102, .agg [.str p0, .str p1])], []), (16, [(103, .box 10 2)], []), (17, [(104, .agg [.str Y10, .str Y11])], []), (18, [(105, .box 10 0)], []), (19, [(106, .agg [.str Y00, .str Y01])], []), (20, [(107, .agg [.str q0, .str q1])], []), (21, [(108, .agg [.str w0, .str w1])], []), (22, [(18, .box 18 0)], [(18, .box [.str [], .str []])]), (23, [(19, .box 19 0)], [(19, .box [.str [], .str []])]), (24, [], [(18, .box [.str w0, .str w1])]), (25, [], [(19, .box [.str w0, .str w1])])] ?_ ?_ ?_
  · (conv => whnf); (try simp only [zZ57_2, decide_true, Bool.and_true, Bool.true_and, Bool.and_self, Bool.not_true, Bool.not_false, Bool.or_false, Bool.or_self, ne_eq, not_true_eq_false, decide_false])
    repeat' (first | exact V.wk | ((with_reducible refine And.intro ?_ draw_nil); (conv => whnf); (try simp only [zZ57_2, decide_true, Bool.and_true, Bool.true_and, Bool.and_self, Bool.not_true, Bool.not_false, Bool.or_false, Bool.or_self, ne_eq, not_true_eq_false, decide_false])) | ((with_reducible first | refine draw_split ?_ ?_ | refine nds_split ?_ ?_) <;> (conv => whnf); (try simp only [zZ57_2, decide_true, Bool.and_true, Bool.true_and, Bool.and_self, Bool.not_true, Bool.not_false, Bool.or_false, Bool.or_self, ne_eq, not_true_eq_false, decide_false])) | ((first | refine V.s1 ?_ | ((with_reducible refine recheck_and ?_ ?_); (focus ((conv => whnf); (try simp only [zZ57_2, decide_true, Bool.and_true, Bool.true_and, Bool.and_self, Bool.not_true, Bool.not_false, Bool.or_false, Bool.or_self, ne_eq, not_true_eq_false, decide_false]); (repeat (refine V.s1 ?_; (try simp only [zZ57_2, decide_true, Bool.and_true, Bool.true_and, Bool.and_self, Bool.not_true, Bool.not_false, Bool.or_false, Bool.or_self, ne_eq, not_true_eq_false, decide_false]))); exact ⟨rfl⟩)); (conv => whnf)) | ((try ((with_reducible refine .ext ?_); (conv => whnf); (try simp only [zZ57_2, decide_true, Bool.and_true, Bool.true_and, Bool.and_self, Bool.not_true, Bool.not_false, Bool.or_false, Bool.or_self, ne_eq, not_true_eq_false, decide_false]))); (with_reducible refine call_intro (r := ?_) ?_ ?_); rotate_left; (focus (first | exact (s1) | exact (s2) | exact (s3) | exact (s4) | exact (s5) | exact (s6))); (conv => whnf)) | ((with_reducible refine .inl ?_); (conv => whnf); (first | refine ⟨0, _, _, ⟨Tryz.func36, rfl, rfl, Nat.le_of_ble_eq_true rfl⟩, ?_⟩ | refine ⟨0, _, _, ⟨Tryz.func37, rfl, rfl, Nat.le_of_ble_eq_true rfl⟩, ?_⟩ | refine ⟨0, _, _, ⟨Tryz.func73, rfl, rfl, Nat.le_of_ble_eq_true rfl⟩, ?_⟩); (conv => whnf))); (try simp only [zZ57_2, decide_true, Bool.and_true, Bool.true_and, Bool.and_self, Bool.not_true, Bool.not_false, Bool.or_false, Bool.or_self, ne_eq, not_true_eq_false, decide_false])) | (refine And.intro ?_ ?_ <;> (conv => whnf); (try simp only [zZ57_2, decide_true, Bool.and_true, Bool.true_and, Bool.and_self, Bool.not_true, Bool.not_false, Bool.or_false, Bool.or_self, ne_eq, not_true_eq_false, decide_false])))
  · (conv => whnf); (try simp only [zZ57_2, decide_true, Bool.and_true, Bool.true_and, Bool.and_self, Bool.not_true, Bool.not_false, Bool.or_false, Bool.or_self, ne_eq, not_true_eq_false, decide_false])
    repeat' (first | exact V.wk | ((with_reducible refine And.intro ?_ draw_nil); (conv => whnf); (try simp only [zZ57_2, decide_true, Bool.and_true, Bool.true_and, Bool.and_self, Bool.not_true, Bool.not_false, Bool.or_false, Bool.or_self, ne_eq, not_true_eq_false, decide_false])) | ((with_reducible first | refine draw_split ?_ ?_ | refine nds_split ?_ ?_) <;> (conv => whnf); (try simp only [zZ57_2, decide_true, Bool.and_true, Bool.true_and, Bool.and_self, Bool.not_true, Bool.not_false, Bool.or_false, Bool.or_self, ne_eq, not_true_eq_false, decide_false])) | ((first | refine V.s1 ?_ | ((with_reducible refine recheck_and ?_ ?_); (focus ((conv => whnf); (try simp only [zZ57_2, decide_true, Bool.and_true, Bool.true_and, Bool.and_self, Bool.not_true, Bool.not_false, Bool.or_false, Bool.or_self, ne_eq, not_true_eq_false, decide_false]); (repeat (refine V.s1 ?_; (try simp only [zZ57_2, decide_true, Bool.and_true, Bool.true_and, Bool.and_self, Bool.not_true, Bool.not_false, Bool.or_false, Bool.or_self, ne_eq, not_true_eq_false, decide_false]))); exact ⟨rfl⟩)); (conv => whnf)) | ((try ((with_reducible refine .ext ?_); (conv => whnf); (try simp only [zZ57_2, decide_true, Bool.and_true, Bool.true_and, Bool.and_self, Bool.not_true, Bool.not_false, Bool.or_false, Bool.or_self, ne_eq, not_true_eq_false, decide_false]))); (with_reducible refine call_intro (r := ?_) ?_ ?_); rotate_left; (focus (first | exact (s1) | exact (s2) | exact (s3) | exact (s4) | exact (s5) | exact (s6))); (conv => whnf)) | ((with_reducible refine .inl ?_); (conv => whnf); (first | refine ⟨0, _, _, ⟨Tryz.func36, rfl, rfl, Nat.le_of_ble_eq_true rfl⟩, ?_⟩ | refine ⟨0, _, _, ⟨Tryz.func37, rfl, rfl, Nat.le_of_ble_eq_true rfl⟩, ?_⟩ | refine ⟨0, _, _, ⟨Tryz.func73, rfl, rfl, Nat.le_of_ble_eq_true rfl⟩, ?_⟩); (conv => whnf))); (try simp only [zZ57_2, decide_true, Bool.and_true, Bool.true_and, Bool.and_self, Bool.not_true, Bool.not_false, Bool.or_false, Bool.or_self, ne_eq, not_true_eq_false, decide_false])) | (refine And.intro ?_ ?_ <;> (conv => whnf); (try simp only [zZ57_2, decide_true, Bool.and_true, Bool.true_and, Bool.and_self, Bool.not_true, Bool.not_false, Bool.or_false, Bool.or_self, ne_eq, not_true_eq_false, decide_false])))
    exact True.intro
  (conv => whnf)
  (try simp only [zZ57_0])
  repeat ((first | refine V.s1 ?_); (try simp only [zZ57_0]))
  refine lp_any (0) (fun k => k ≤ 2) (fun k => 2 - k) (fun k => [(112, .int .i64 k), (20, .bool true)]) (fun k => []) ?_ ?_ ?_
  · exact V.wk
  · exact Nat.zero_le _
  intro k hk
  have hk4 : k = 0 ∨ k = 1 ∨ k = 2 := by omega
  rcases hk4 with e | e | e
  all_goals subst e
  · simp only [k0]
    (conv => whnf)
    (try simp only [zZ57_2, decide_true, Bool.and_true, Bool.true_and, Bool.and_self, Bool.not_true, Bool.not_false, Bool.or_false, Bool.or_self, ne_eq, not_true_eq_false, decide_false, rg])
    repeat ((first | refine V.s1 ?_ | ((try ((with_reducible refine .ext ?_); (conv => whnf); (try simp only [zZ57_2, decide_true, Bool.and_true, Bool.true_and, Bool.and_self, Bool.not_true, Bool.not_false, Bool.or_false, Bool.or_self, ne_eq, not_true_eq_false, decide_false, rg]))); (with_reducible refine call_intro (r := ?_) ?_ ?_); rotate_left; (focus (first | exact (m1) | exact (m2))); (conv => whnf))); (try simp only [zZ57_2, decide_true, Bool.and_true, Bool.true_and, Bool.and_self, Bool.not_true, Bool.not_false, Bool.or_false, Bool.or_self, ne_eq, not_true_eq_false, decide_false, rg]))
    exact ⟨1, by omega, by omega, V.wk⟩
  · simp only [k1]
    (conv => whnf)
    (try simp only [zZ57_2, decide_true, Bool.and_true, Bool.true_and, Bool.and_self, Bool.not_true, Bool.not_false, Bool.or_false, Bool.or_self, ne_eq, not_true_eq_false, decide_false, rh])
    repeat ((first | refine V.s1 ?_ | ((try ((with_reducible refine .ext ?_); (conv => whnf); (try simp only [zZ57_2, decide_true, Bool.and_true, Bool.true_and, Bool.and_self, Bool.not_true, Bool.not_false, Bool.or_false, Bool.or_self, ne_eq, not_true_eq_false, decide_false, rh]))); (with_reducible refine call_intro (r := ?_) ?_ ?_); rotate_left; (focus (first | exact (m3) | exact (m4))); (conv => whnf))); (try simp only [zZ57_2, decide_true, Bool.and_true, Bool.true_and, Bool.and_self, Bool.not_true, Bool.not_false, Bool.or_false, Bool.or_self, ne_eq, not_true_eq_false, decide_false, rh]))
    exact ⟨2, by omega, by omega, V.wk⟩
  simp only [k2]
  (conv => whnf)
  (try simp only [zZ57_2, decide_true, Bool.and_true, Bool.true_and, Bool.and_self, Bool.not_true, Bool.not_false, Bool.or_false, Bool.or_self, ne_eq, not_true_eq_false, decide_false])
  repeat ((first | refine V.s1 ?_); (try simp only [zZ57_2, decide_true, Bool.and_true, Bool.true_and, Bool.and_self, Bool.not_true, Bool.not_false, Bool.or_false, Bool.or_self, ne_eq, not_true_eq_false, decide_false]))
  exact Fin.of rfl
end Go.Proofs.YtfilfmadapjajaaGreatDoor
end
