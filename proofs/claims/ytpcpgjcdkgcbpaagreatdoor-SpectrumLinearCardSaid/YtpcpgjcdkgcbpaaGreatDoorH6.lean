/- What some functions of the program answer at values that mean given lists, texts and numbers, each proved of the program's own code: part 6. Conditions: those that each theorem names. -/
import Derived.Test.YtpcpgjcdkgcbpaaGreatDoorH5
set_option linter.unusedSimpArgs false
set_option linter.unusedVariables false
set_option maxHeartbeats 8000000
set_option maxRecDepth 100000
section
namespace Go.Proofs.YtpcpgjcdkgcbpaaGreatDoor
open Go Go.V Go.Nb
theorem dec_refl (l : List UInt8) [Decidable (l = l)] : decide (l = l) = true := decide_eq_true rfl
theorem dec_reflz (n : Int) [Decidable (n = n)] : decide (n = n) = true := decide_eq_true rfl
theorem zY26_0 : type_of% @Nat.zero_add ∧ type_of% @dec_refl ∧ type_of% @dec_reflz := ⟨@Nat.zero_add, @dec_refl, @dec_reflz⟩
theorem zY26_1 : type_of% @Nat.zero_add ∧ type_of% @dec_refl ∧ type_of% @dec_reflz ∧ type_of% @tn0 ∧ type_of% @tn1 ∧ type_of% @tn2 ∧ type_of% @tn3 := ⟨@Nat.zero_add, @dec_refl, @dec_reflz, @tn0, @tn1, @tn2, @tn3⟩
theorem works_c : Called Tryz.prog 9 [] (.bool true) := by
  refine called_of_run tbOk 6 ⟨Tryz.func9, rfl, rfl, Nat.le_of_ble_eq_true rfl⟩ ?_
  (conv => whnf)
  (conv => whnf)
  (try simp only [zY26_0])
  repeat ((first | refine V.s1 ?_ | ((try ((with_reducible refine .ext ?_); (conv => whnf); (try simp only [zY26_0]))); (with_reducible refine call_intro (r := ?_) ?_ ?_); rotate_left; (focus (first | exact (o_1_1) | exact (o_1_2) | exact (o_1083_1000) | exact (o_m83_1000) | exact (o_0_1) | exact (o_1166_1000) | exact (o_5_2) | exact (o_1_3) | exact (x_only0) | exact (x_only1) | exact (x_w7) | exact (x_w3) | exact (x_f12) | exact (x_f01) | exact (x_f11) | exact (x_f13) | exact (x_f52) | exact (x_xyz) | exact (x_cor0) | exact (x_cor1) | exact (x_mix))); (conv => whnf))); (try simp only [zY26_0]))
  refine ⟨(.take 0 (.take 1 (.ev (.cons 2 [1, 0] (.ev (.cons 3 [] (.take 4 (.take 5 (.take 6 (.ev (.cons 7 [6, 5, 4] (.ev (.cons 8 [6] (.take 9 (.done)) (.nil))) (.nil)))))) (.cons 7 [1, 0] (.ev (.cons 3 [] (.take 4 (.take 5 (.take 6 (.ev (.cons 8 [6] (.take 9 (.done)) (.nil)))))) (.nil))) (.nil)))) (.cons 7 [1, 0] (.ev (.cons 2 [1, 0] (.ev (.cons 3 [] (.take 4 (.take 5 (.take 6 (.ev (.cons 8 [6] (.take 9 (.done)) (.nil)))))) (.nil))) (.nil))) (.nil)))))), [], ⟨by kernel_rfl, by kernel_rfl, by kernel_rfl, by kernel_rfl⟩, ?_⟩
  refine drw_meet [(22, .int .i64 0), (21, .box 21 0)] [(21, .box [.str [49], .str [51], .str [49], .str [51], .str [49], .str [51], .str [49], .str [51], .str [49], .str [51], .str [49], .str [51], .str [49], .str [51], .str [49], .str [51], .str [49], .str [51], .str [49], .str [51], .str [49], .str [51], .str [49], .str [51], .str [49], .str [51], .str [49], .str [51], .str [49], .str [51], .str [49], .str [51]])] ?_ ?_
  · (conv => whnf); (try simp only [zY26_0])
    repeat' (first | exact V.wk | ((with_reducible refine And.intro ?_ draw_nil); (conv => whnf); (try simp only [zY26_0])) | ((with_reducible first | refine draw_split ?_ ?_ | refine nds_split ?_ ?_) <;> (conv => whnf); (try simp only [zY26_0])) | ((first | refine V.s1 ?_ | ((with_reducible refine recheck_and ?_ ?_); (focus ((conv => whnf); (try simp only [zY26_0]); (repeat ((first | refine V.s1 ?_); (try simp only [zY26_0]))); exact ⟨rfl⟩)); (conv => whnf)) | ((try ((with_reducible refine .ext ?_); (conv => whnf); (try simp only [zY26_0]))); (with_reducible refine call_intro (r := ?_) ?_ ?_); rotate_left; (focus (first | exact (o_1_3) | exact (x_mix))); (conv => whnf))); (try simp only [zY26_0])) | (refine And.intro ?_ ?_ <;> (conv => whnf); (try simp only [zY26_0])))
  (conv => whnf)
  (try simp only [zY26_0])
  repeat ((first | refine V.s1 ?_ | ((try ((with_reducible refine .ext ?_); (conv => whnf); (try simp only [zY26_0]))); (with_reducible refine call_intro (r := ?_) ?_ ?_); rotate_left; (focus (first | exact (o_1_1) | exact (o_1_2) | exact (o_1083_1000) | exact (o_m83_1000) | exact (o_0_1) | exact (o_1166_1000) | exact (o_5_2) | exact (o_1_3) | exact (x_only0) | exact (x_only1) | exact (x_w7) | exact (x_w3) | exact (x_f12) | exact (x_f01) | exact (x_f11) | exact (x_f13) | exact (x_f52) | exact (x_xyz) | exact (x_cor0) | exact (x_cor1) | exact (x_mix))); (conv => whnf))); (try simp only [zY26_0]))
  refine ⟨(.take 0 (.take 1 (.take 2 (.take 3 (.take 4 (.ev (.cons 5 [4, 3] (.take 6 (.take 7 (.take 8 (.take 9 (.take 10 (.take 11 (.take 12 (.take 13 (.take 14 (.take 15 (.take 16 (.take 17 (.take 18 (.take 19 (.take 20 (.take 21 (.take 22 (.ev (.cons 23 [22, 21] (.take 24 (.take 25 (.take 26 (.take 27 (.take 28 (.take 29 (.take 30 (.take 31 (.take 32 (.ev (.cons 33 [32, 31] (.take 34 (.take 35 (.take 36 (.take 37 (.take 38 (.take 39 (.take 40 (.take 41 (.take 42 (.take 43 (.take 44 (.ev (.cons 45 [44, 43] (.take 46 (.take 47 (.take 48 (.take 49 (.take 50 (.take 51 (.take 52 (.take 53 (.take 54 (.take 55 (.take 56 (.take 57 (.take 58 (.take 59 (.take 60 (.ev (.cons 61 [60, 59] (.take 62 (.take 63 (.take 64 (.take 65 (.take 66 (.take 67 (.take 68 (.take 69 (.take 70 (.take 71 (.take 72 (.ev (.cons 73 [72, 71] (.take 74 (.take 75 (.take 76 (.take 77 (.take 78 (.take 79 (.take 80 (.take 81 (.take 82 (.take 83 (.take 84 (.take 85 (.take 86 (.take 87 (.take 88 (.take 89 (.take 90 (.take 91 (.take 92 (.take 93 (.take 94 (.take 95 (.take 96 (.take 97 (.take 98 (.take 99 (.take 100 (.take 101 (.done))))))))))))))))))))))))))))) (.nil)))))))))))))) (.nil)))))))))))))))))) (.nil)))))))))))))) (.nil)))))))))))) (.nil)))))))))))))))))))) (.nil)))))))), [], ⟨by kernel_rfl, by kernel_rfl, by kernel_rfl, by kernel_rfl⟩, ?_⟩
  refine drw_meet [(0, .bool true)] [] ?_ ?_
  · (conv => whnf); (try simp only [zY26_1, decide_true, Bool.and_true, Bool.and_self, Bool.true_and])
    repeat' (first | exact V.wk | ((with_reducible refine And.intro ?_ draw_nil); (conv => whnf); (try simp only [zY26_1, decide_true, Bool.and_true, Bool.and_self, Bool.true_and])) | ((with_reducible first | refine draw_split ?_ ?_ | refine nds_split ?_ ?_) <;> (conv => whnf); (try simp only [zY26_1, decide_true, Bool.and_true, Bool.and_self, Bool.true_and])) | ((first | refine V.s1 ?_ | ((with_reducible refine recheck_and ?_ ?_); (focus ((conv => whnf); (try simp only [zY26_1, decide_true, Bool.and_true, Bool.and_self, Bool.true_and]); (repeat ((first | refine V.s1 ?_); (try simp only [zY26_1, decide_true, Bool.and_true, Bool.and_self, Bool.true_and]))); exact ⟨rfl⟩)); (conv => whnf)) | ((try ((with_reducible refine .ext ?_); (conv => whnf); (try simp only [zY26_1, decide_true, Bool.and_true, Bool.and_self, Bool.true_and]))); (with_reducible refine call_intro (r := ?_) ?_ ?_); rotate_left; (focus (first | exact (o_1_1) | exact (o_1_2) | exact (o_1083_1000) | exact (o_m83_1000) | exact (o_0_1) | exact (o_1166_1000) | exact (o_5_2) | exact (o_1_3) | exact (x_only0) | exact (x_only1) | exact (x_w7) | exact (x_w3) | exact (x_f12) | exact (x_f01) | exact (x_f11) | exact (x_f13) | exact (x_f52) | exact (x_xyz) | exact (x_cor0) | exact (x_cor1) | exact (x_mix))); (conv => whnf))); (try simp only [zY26_1, decide_true, Bool.and_true, Bool.and_self, Bool.true_and])) | (refine And.intro ?_ ?_ <;> (conv => whnf); (try simp only [zY26_1, decide_true, Bool.and_true, Bool.and_self, Bool.true_and])))
  (conv => whnf)
  (try simp only [Nat.zero_add])
  repeat ((first | refine V.s1 ?_); (try simp only [Nat.zero_add]))
  exact Fin.of rfl
end Go.Proofs.YtpcpgjcdkgcbpaaGreatDoor
end
section
namespace Go.Proofs.YtpcpgjcdkgcbpaaGreatDoor
open Go Go.V Go.Nb
theorem zY27_0 : type_of% @Int.toNat_natCast ∧ type_of% @Nat.zero_add := ⟨@Int.toNat_natCast, @Nat.zero_add⟩
theorem lightOf_t (p : Int) (k : Nat) (r : Int) (hk : p % 3 = (k : Int)) (h : (k = 0 ∧ r = 1) ∨ (k = 1 ∧ r = 5) ∨ (k = 2 ∧ r = 7)) : Called Tryz.prog 23 [.int .u8 p] (.int .i64 r) := by
  rcases h with ⟨rfl, rfl⟩ | ⟨rfl, rfl⟩ | ⟨rfl, rfl⟩
  · refine called_of_run tbOk 6 ⟨Tryz.func23, rfl, rfl, Nat.le_of_ble_eq_true rfl⟩ ?_
    (conv => whnf)
    (conv => whnf)
    (try simp only [zY27_0, hk])
    repeat ((first | refine V.s1 ?_); (try simp only [zY27_0, hk]))
    exact Fin.of rfl
  · refine called_of_run tbOk 6 ⟨Tryz.func23, rfl, rfl, Nat.le_of_ble_eq_true rfl⟩ ?_
    (conv => whnf)
    (conv => whnf)
    (try simp only [zY27_0, hk])
    repeat ((first | refine V.s1 ?_); (try simp only [zY27_0, hk]))
    exact Fin.of rfl
  · refine called_of_run tbOk 6 ⟨Tryz.func23, rfl, rfl, Nat.le_of_ble_eq_true rfl⟩ ?_
    (conv => whnf)
    (conv => whnf)
    (try simp only [zY27_0, hk])
    repeat ((first | refine V.s1 ?_); (try simp only [zY27_0, hk]))
    exact Fin.of rfl
def ltOf (p : Int) : Int := if p % 3 = 0 then 1 else if p % 3 = 1 then 5 else 7
theorem lightOf_c {p : Int} (hp : 0 ≤ p ∧ p ≤ 255) : Called Tryz.prog 23 [.int .u8 p] (.int .i64 (ltOf p)) := by
  refine lightOf_t p (p % 3).toNat _ (by omega) ?_
  unfold ltOf
  split
  · exact .inl ⟨by omega, rfl⟩
  · split
    · exact .inr (.inl ⟨by omega, rfl⟩)
    · exact .inr (.inr ⟨by omega, rfl⟩)
theorem isLt_ltOf (p : Int) : isLt (ltOf p) = true := by
  unfold ltOf
  split
  · rfl
  · split <;> rfl
end Go.Proofs.YtpcpgjcdkgcbpaaGreatDoor
end
section
namespace Go.Proofs.YtpcpgjcdkgcbpaaGreatDoor
open Go Go.V Go.Nb
def SpQ (a : Nat → Rat) : Prop := ∀ k, Fq 20 (a k) ∧ 0 ≤ a k ∧ a k ≤ 2
def txS (a : Nat → Rat) (k : Nat) : Tx := xT (a k)
theorem k20 : 0 < 20 ∧ 20 ≤ 600 := by omega
theorem out_no {q m : Rat} (f : Fq 20 q) (h0 : 0 ≤ q) (h1 : q ≤ m) : outX (xT q) m = false := by
  unfold outX
  rw [(xT_ok f k20).2]
  have := Rat.num_nonneg.2 h0
  rw [decide_eq_false (by omega), decide_eq_false (Rat.not_lt.2 h1)]
  rfl
theorem out_yes {q m : Rat} (f : Fq 20 q) (h1 : m < q) : outX (xT q) m = true := by
  unfold outX
  rw [(xT_ok f k20).2, decide_eq_true h1, Bool.or_true]
theorem sp_bd {a : Nat → Rat} (h : ∀ k, Fq 20 (a k)) : BdS 20 (txS a) := fun k => xT_bd (h k) k20
theorem sp_chk {a : Nat → Rat} (h : SpQ a) : chkS (txS a) = 0 := by
  unfold chkS
  rw [okS_all (f := txS a) fun k _ => (xT_ok (h k).1 k20).1, inS_all (f := txS a) fun k _ => out_no (h k).1 (h k).2.1 (h k).2.2]
  rfl
theorem sp_chk2 {a : Nat → Rat} (h : ∀ k, Fq 20 (a k)) {p : Nat} (hp : p < 16) (h2 : 2 < a p) : chkS (txS a) = 2 := by
  unfold chkS
  rw [okS_all (f := txS a) fun k _ => (xT_ok (h k) k20).1, inS_no (f := txS a) (k := p) (out_yes (h p) h2) 16 hp]
  rfl
theorem sp_q {a : Nat → Rat} (h : ∀ k, Fq 20 (a k)) {k : Nat} (hk : k < 16) : qS (txS a) k = a k := by
  rw [qS_lt hk]
  exact (xT_ok (h k) k20).2
theorem sp_col {a : Nat → Rat} (h : ∀ k, Fq 20 (a k)) (n : Int) : colT n (qS (txS a)) = colT n a := by
  unfold colT
  rw [colP_congr _ _ fun k hk => sp_q h hk, colP_congr _ _ fun k hk => sp_q h hk, colP_congr _ _ fun k hk => sp_q h hk]
theorem xyz_q {a : Nat → Rat} (h : SpQ a) {n : Int} (hl : isLt n = true) : Called Tryz.prog 24 [.agg (spL (txS a)), .int .i64 n] (triE (colT n a) 0) := by
  have c := xyz_c (sp_bd fun k => (h k).1) n
  unfold xyzX at c
  rw [if_pos (sp_chk h), hl, if_pos rfl, sp_col fun k => (h k).1] at c
  exact c
theorem xyz_no {a : Nat → Rat} (h : ∀ k, Fq 20 (a k)) {p : Nat} (hp : p < 16) (h2 : 2 < a p) (n : Int) : Called Tryz.prog 24 [.agg (spL (txS a)), .int .i64 n] (triE no3 2) := by
  have c := xyz_c (sp_bd h) n
  unfold xyzX at c
  have e := sp_chk2 h hp h2
  rw [if_neg (by rw [e]; decide), e] at c
  exact c
theorem cor_congr {a b : Nat → Rat} (h : ∀ k, k < 16 → a k = b k) {i : Nat} (hi : i < 16) : corQ a i = corQ b i := by
  unfold corQ
  by_cases h0 : i = 0
  · rw [if_pos h0, if_pos h0, h 0 (by omega), h 1 (by omega)]
  · rw [if_neg h0, if_neg h0]
    by_cases h1 : i = 15
    · rw [if_pos h1, if_pos h1, h 15 (by omega), h 14 (by omega)]
    · rw [if_neg h1, if_neg h1, h i hi, h (i - 1) (by omega), h (i + 1) (by omega)]
theorem cor_q {a : Nat → Rat} (h : SpQ a) : Called Tryz.prog 27 [.agg (spL (txS a))] (spE (txS (corQ a)) 0) := by
  have c := corrected_c (sp_bd fun k => (h k).1)
  unfold corX at c
  rw [if_pos (sp_chk h)] at c
  have e : spE (fun i => xT (corQ (qS (txS a)) i)) 0 = spE (txS (corQ a)) 0 := by
    unfold spE
    rw [spL_congr (g := txS (corQ a)) fun k hk => congrArg xT (cor_congr (fun k hk => sp_q (fun k => (h k).1) hk) hk)]
  rw [e] at c
  exact c
theorem mix_q {a b : Nat → Rat} {t : Rat} (ha : SpQ a) (hb : SpQ b) (ht : Fq 20 t) (h0 : 0 ≤ t) (h1 : t ≤ 1) : Called Tryz.prog 28 [.agg (spL (txS a)), .agg (spL (txS b)), frT t] (spE (txS fun i => mixQ t (a i) (b i)) 0) := by
  have c := smix_c (t := xT t) (sp_bd fun k => (ha k).1) (sp_bd fun k => (hb k).1) (xT_bd ht k20)
  unfold mixS at c
  rw [if_pos (sp_chk ha), if_pos (sp_chk hb), (xT_ok ht k20).1, if_pos rfl, out_no ht h0 h1, if_neg (by decide)] at c
  have e : (fun i => xT (mixQ (qX (xT t)) (qX (txS a i)) (qX (txS b i)))) = txS fun i => mixQ t (a i) (b i) := by
    funext i
    unfold txS
    rw [(xT_ok ht k20).2, (xT_ok (ha i).1 k20).2, (xT_ok (hb i).1 k20).2]
  rw [e] at c
  exact c
theorem flat_q {t : Rat} (ht : Fq 20 t) (h0 : 0 ≤ t) (h1 : t ≤ 2) : Called Tryz.prog 17 [frT t] (spE (txS fun _ => t) 0) := by
  have c := sflat_c (x := xT t) (xT_bd ht k20)
  unfold flatX at c
  rw [if_pos (show chkS (fun _ => xT t) = 0 from sp_chk (a := fun _ => t) fun _ => ⟨ht, h0, h1⟩)] at c
  exact c
theorem whi_q {n : Int} (hl : isLt n = true) : Called Tryz.prog 19 [.int .i64 n] (triE (colT n fun _ => 1) 0) := by
  have c := swhite_c n
  unfold whiS at c
  rw [hl, if_pos rfl] at c
  exact c
def drQ (ds : List Int) (k : Nat) : Rat := Rat.divInt (drN ds k) 100
theorem dr_is (ds : List Int) : drF ds = txS (drQ ds) := rfl
theorem hund {n : Int} (h : 0 ≤ n ∧ n ≤ 200) : Fq 20 (Rat.divInt n 100) ∧ 0 ≤ Rat.divInt n 100 ∧ Rat.divInt n 100 ≤ 2 := by
  refine ⟨fq_divInt (d := 100) (by omega) (by omega) (by omega), (Rat.divInt_nonneg_iff_of_pos_right (by decide)).2 h.1, ?_⟩
  have h2 : 0 ≤ Rat.divInt (200 - n) 100 := (Rat.divInt_nonneg_iff_of_pos_right (by decide)).2 (by omega)
  have h3 : Rat.divInt (200 - n) 100 + Rat.divInt n 100 = 2 := by
    rw [Rat.divInt_add_divInt _ _ (by decide) (by decide), ← Int.add_mul, Rat.divInt_mul_right (by decide), show 200 - n + n = 200 by omega]
    decide +kernel
  grind
theorem dr_q {ds : List Int} (hd : ∀ n ∈ ds, 0 ≤ n ∧ n ≤ 255) : SpQ (drQ ds) := fun k => hund (drN_bd hd k)
end Go.Proofs.YtpcpgjcdkgcbpaaGreatDoor
end
section
namespace Go.Proofs.YtpcpgjcdkgcbpaaGreatDoor
open Go Go.V Go.Nb
def putQ (a : Nat → Rat) (p : Nat) (x : Rat) : Nat → Rat := fun i => if i = p then x else a i
theorem put_tx (a : Nat → Rat) (p : Nat) (x : Rat) : putF (txS a) p (xT x) = txS (putQ a p x) := by
  funext i
  unfold putF txS putQ
  by_cases h : i = p
  · rw [if_pos h, if_pos h]
  · rw [if_neg h, if_neg h]
theorem all_pos {p : List Int} (hp : isPow p) : 0 < Rat.divInt (allP p 16) 1 := by
  rw [divInt_one]
  exact_mod_cast allP_pos hp
theorem col_div {p o : List Int} {a b : Nat → Rat} (hp : isPow p) : colP p o b - colP p o a = (sw (wgt p o) b 16 - sw (wgt p o) a 16) * (Rat.divInt (allP p 16) 1)⁻¹ := by
  unfold colP
  rw [Rat.div_def, Rat.div_def]
  grind
theorem inv_pos' {q : Rat} (h : 0 < q) : 0 < q⁻¹ := Rat.inv_pos.2 h
theorem col_mono {p o : List Int} {a b : Nat → Rat} (hp : isPow p) (ho : isObs o) (h : ∀ i, a i ≤ b i) : colP p o a ≤ colP p o b := by
  have h1 := sw_mono (w := wgt p o) (fun i => (wgt_bd hp ho i).2) h 16
  have h2 := inv_pos' (all_pos hp)
  have h3 : 0 ≤ sw (wgt p o) b 16 - sw (wgt p o) a 16 := by grind
  have h4 := Rat.mul_nonneg h3 (Rat.le_of_lt h2)
  rw [← col_div hp] at h4
  grind
theorem wgt_y {p : List Int} (hp : isPow p) {k : Nat} (hk : k < 16) : 0 < wgt p wyL k := by
  have key : ∀ p ∈ [waL, wdL, weL], ∀ k ∈ List.range 16, 0 < wgt p wyL k := by decide +kernel
  refine key p ?_ k (List.mem_range.2 hk)
  rcases hp with e | e | e <;> simp [e]
theorem col_up {p : List Int} {a : Nat → Rat} {k : Nat} {x : Rat} (hp : isPow p) (hk : k < 16) (h : a k < x) : colP p wyL a < colP p wyL (putQ a k x) := by
  have h1 := sw_up (w := wgt p wyL) (a := a) (b := putQ a k x) (p := k) (fun i hi => if_neg hi) 16
  rw [if_pos hk, show putQ a k x k = x from if_pos rfl] at h1
  have h2 := inv_pos' (all_pos hp)
  have h3 : 0 < Rat.divInt (wgt p wyL k) 1 := by
    rw [divInt_one]
    exact_mod_cast wgt_y hp hk
  have h4 : 0 < x - a k := by grind
  have h5 := Rat.mul_pos (Rat.mul_pos h3 h4) h2
  have h6 : colP p wyL (putQ a k x) - colP p wyL a = Rat.divInt (wgt p wyL k) 1 * (x - a k) * (Rat.divInt (allP p 16) 1)⁻¹ := by
    rw [col_div hp, h1]
    grind
  rw [← h6] at h5
  grind
theorem put_le {a : Nat → Rat} {k : Nat} {x : Rat} (h : a k < x) (i : Nat) : a i ≤ putQ a k x i := by
  unfold putQ
  by_cases e : i = k
  · rw [if_pos e, e]; exact Rat.le_of_lt h
  · rw [if_neg e]; exact Rat.le_refl
theorem ord_le {p q : Rat} (h : p ≤ q) : ordQ p q ≤ 0 := by
  unfold ordQ
  by_cases h1 : p < q
  · rw [if_pos h1]; decide
  · rw [if_neg h1]
    by_cases h2 : p = q
    · rw [if_pos h2]; decide
    · exact absurd (Rat.lt_of_le_of_ne h h2) h1
theorem ord_lt {p q : Rat} (h : p < q) : ordQ p q = -1 := by
  unfold ordQ
  rw [if_pos h]
theorem ord_bd (p q : Rat) : -1 ≤ ordQ p q ∧ ordQ p q ≤ 1 := by
  unfold ordQ
  split
  · omega
  · split <;> omega
theorem fq_col {p o : List Int} {a : Nat → Rat} (hp : isPow p) (ho : isObs o) (h : ∀ k, Fq 20 (a k)) : Fq 560 (colP p o a) := by
  have ft := fq_sw (w := wgt p o) (s := a) (m := 20) (fun k => (wgt_bd hp ho k).1) h 16
  have nK : (Rat.divInt (allP p 16) 1).num ≠ 0 := by
    rw [divInt_num1]
    have := allP_pos hp
    omega
  exact (ft.div (fqK hp) nK).mono (by omega)
theorem fq_thou {m : Int} (h : 0 ≤ m ∧ m ≤ 255) : Fq 4 (Rat.divInt (1 + m) 1000) ∧ 0 < Rat.divInt (1 + m) 1000 ∧ Rat.divInt (1 + m) 1000 ≤ Rat.divInt 256 1000 := by
  refine ⟨fq_divInt (d := 1000) (by omega) (by omega) (by omega), ?_, ?_⟩
  · have h1 : 0 ≤ Rat.divInt m 1000 := (Rat.divInt_nonneg_iff_of_pos_right (by decide)).2 h.1
    have h2 : Rat.divInt (1 + m) 1000 = Rat.divInt 1 1000 + Rat.divInt m 1000 := by
      rw [Rat.divInt_add_divInt _ _ (by decide) (by decide), ← Int.add_mul, Rat.divInt_mul_right (by decide)]
    have h3 : (0 : Rat) < Rat.divInt 1 1000 := by decide +kernel
    grind
  · have h1 : 0 ≤ Rat.divInt (255 - m) 1000 := (Rat.divInt_nonneg_iff_of_pos_right (by decide)).2 (by omega)
    have h2 : Rat.divInt 256 1000 = Rat.divInt (1 + m) 1000 + Rat.divInt (255 - m) 1000 := by
      rw [Rat.divInt_add_divInt _ _ (by decide) (by decide), ← Int.add_mul, Rat.divInt_mul_right (by decide), show 1 + m + (255 - m) = 256 by omega]
    grind
theorem over_2 {n m : Int} (hn : 0 ≤ n ∧ n ≤ 200) (hm : 0 ≤ m ∧ m ≤ 255) (h : 2 < Rat.divInt n 100 + Rat.divInt (1 + m) 1000) : 174 < n := by
  rcases Int.lt_or_le 174 n with h1 | h1
  · exact h1
  · exfalso
    have h2 := (fq_thou hm).2.2
    have h3 : 0 ≤ Rat.divInt (174 - n) 100 := (Rat.divInt_nonneg_iff_of_pos_right (by decide)).2 (by omega)
    have h4 : Rat.divInt 174 100 = Rat.divInt n 100 + Rat.divInt (174 - n) 100 := by
      rw [Rat.divInt_add_divInt _ _ (by decide) (by decide), ← Int.add_mul, Rat.divInt_mul_right (by decide), show n + (174 - n) = 174 by omega]
    have h5 : Rat.divInt 174 100 + Rat.divInt 256 1000 < 2 := by decide +kernel
    grind
end Go.Proofs.YtpcpgjcdkgcbpaaGreatDoor
end
