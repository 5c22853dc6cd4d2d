/- What some functions of the program answer at values that mean given lists, texts and numbers, each proved of the program's own code: part 7. Conditions: those that each theorem names. -/
import Derived.Test.YtpcpgjcdkgcbpaaGreatDoorH4
import Derived.Test.YtpcpgjcdkgcbpaaGreatDoorH5
import Derived.Test.YtpcpgjcdkgcbpaaGreatDoorH6
set_option linter.unusedSimpArgs false
set_option linter.unusedVariables false
set_option maxHeartbeats 8000000
set_option maxRecDepth 100000
section
namespace Go.Proofs.YtpcpgjcdkgcbpaaGreatDoor
open Go Go.V Go.Nb
def nilT (k : IntKind) : D → D
  | .nil => .ints k []
  | d => d
def nilL (k : IntKind) : List D → List D
  | [] => []
  | d :: ds => nilT k d :: nilL k ds
theorem den_nilT {E : Env} {h : Pub} (k : IntKind) {d : D} {v : Value} (H : Den E h d v) : Den E h (nilT k d) v := by
  unfold nilT
  split
  · simp only [Den] at H ⊢
    exact ⟨none, 0, H, Nat.le_refl _, by simp, by simp, rfl, rfl⟩
  · exact H
theorem denL_nilL {E : Env} {h : Pub} (k : IntKind) : ∀ {ds : List D} {vs : List Value}, DenL E h ds vs → DenL E h (nilL k ds) vs
  | [], _, H => H
  | d :: ds, vs, H => by
    simp only [DenL, nilL] at H ⊢
    obtain ⟨v, vs', h1, h2, h3⟩ := H
    exact ⟨v, vs', h1, den_nilT k h2, denL_nilL k h3⟩
theorem wk_nils {off : Nat} {L : Sl} {H : Hp} {L2 : Sl} {H2 : Hp} (i : Nat) (k : IntKind)
    (h : lookHK H i fun c => match c with
      | .box ds => Wk off L ((i, .box (nilL k ds)) :: H) L2 H2
      | _ => False) : Wk off L H L2 H2 := by
  obtain ⟨c, hc, h⟩ := lookHK_el h
  split at h
  case h_2 => exact h.elim
  rename_i ds
  refine ⟨fun cx E h' a w e S => h.out cx E h' a w e ⟨S.knows, ?_, S.agree, S.since, S.low, S.side⟩⟩
  have M := S.mem
  have key : ∀ j c, lookH ((i, .box (nilL k ds)) :: H) j = some c → ∃ c0, lookH H j = some c0 ∧ c0.live = c.live ∧ (j ≠ i → c0 = c) ∧ (j = i → c = .box (nilL k ds)) := fun j c hj => by
    rw [lookH_cons] at hj
    by_cases g : i = j
    · rw [if_pos g] at hj
      cases hj
      subst g
      exact ⟨_, hc, rfl, fun hn => absurd rfl hn, fun _ => rfl⟩
    · rw [if_neg g] at hj
      exact ⟨c, hj, rfl, fun _ => rfl, fun hn => absurd hn.symm g⟩
  refine ⟨fun j c hj => ?_, fun j c hj hl hr => ?_, fun j c hj hl hr => ?_, fun j m c c' hn hj hm hl hl' hr hr' => ?_⟩
  · obtain ⟨c0, g1, _, g3, g4⟩ := key j c hj
    by_cases g : j = i
    · rw [g4 g]
      subst g
      have ok := M.ok _ _ hc
      simp only [ChunkOk] at ok ⊢
      obtain ⟨o1, vs, rest, T, o2, o3, o4, o5⟩ := ok
      exact ⟨o1, vs, rest, T, o2, denL_nilL k o3, o4, o5⟩
    · rw [← g3 g]
      exact M.ok _ _ g1
  · obtain ⟨c0, g1, g2, _, _⟩ := key j c hj
    exact M.base _ _ g1 (g2.trans hl) hr
  · obtain ⟨c0, g1, g2, _, _⟩ := key j c hj
    exact M.unpub _ _ g1 (g2.trans hl) hr
  · obtain ⟨c0, g1, g2, _, _⟩ := key j c hj
    obtain ⟨c1, k1, k2, _, _⟩ := key m c' hm
    exact M.inj _ _ _ _ hn g1 k1 (g2.trans hl) (k2.trans hl') hr hr'
theorem lk1 : ((1 : Nat) : Int) = 1 := rfl
abbrev T3 := List Int × Bool × List Int
def clL (f : Nat → T3) : List D := [.ints .u32 (f 0).1, .bool (f 0).2.1, .ints .u32 (f 0).2.2, .ints .u32 (f 1).1, .bool (f 1).2.1, .ints .u32 (f 1).2.2, .ints .u32 (f 2).1, .bool (f 2).2.1, .ints .u32 (f 2).2.2, .ints .u32 (f 3).1, .bool (f 3).2.1, .ints .u32 (f 3).2.2, .ints .u32 (f 4).1, .bool (f 4).2.1, .ints .u32 (f 4).2.2, .ints .u32 (f 5).1, .bool (f 5).2.1, .ints .u32 (f 5).2.2, .ints .u32 (f 6).1, .bool (f 6).2.1, .ints .u32 (f 6).2.2, .ints .u32 (f 7).1, .bool (f 7).2.1, .ints .u32 (f 7).2.2, .ints .u32 (f 8).1, .bool (f 8).2.1, .ints .u32 (f 8).2.2, .ints .u32 (f 9).1, .bool (f 9).2.1, .ints .u32 (f 9).2.2, .ints .u32 (f 10).1, .bool (f 10).2.1, .ints .u32 (f 10).2.2, .ints .u32 (f 11).1, .bool (f 11).2.1, .ints .u32 (f 11).2.2, .ints .u32 (f 12).1, .bool (f 12).2.1, .ints .u32 (f 12).2.2, .ints .u32 (f 13).1, .bool (f 13).2.1, .ints .u32 (f 13).2.2, .ints .u32 (f 14).1, .bool (f 14).2.1, .ints .u32 (f 14).2.2, .ints .u32 (f 15).1, .bool (f 15).2.1, .ints .u32 (f 15).2.2]
def rt3 (q : Rat) : T3 := (mg 1000000000 q.num.natAbs, decide (q.num < 0), mg 1000000000 q.den)
theorem cl_len (f : Nat → T3) : (clL f).length = 48 := rfl
theorem cl_take (f : Nat → T3) : ∀ k, k < 16 → ((clL f).drop (k * 3)).take 3 = [.ints .u32 (f k).1, .bool (f k).2.1, .ints .u32 (f k).2.2] := lt16 rfl rfl rfl rfl rfl rfl rfl rfl rfl rfl rfl rfl rfl rfl rfl rfl
theorem rt_take (q : Nat → Rat) (k : Nat) (hk : k < 16) : ((clL fun i => rt3 (q i)).drop (k * 3)).take 3 = [.ints .u32 (mg 1000000000 (q k).num.natAbs), .bool (decide ((q k).num < 0)), .ints .u32 (mg 1000000000 (q k).den)] := cl_take _ k hk
def put3 (f : Nat → T3) (k : Nat) (x : T3) : Nat → T3 := fun i => if i = k then x else f i
def prf3 (g : Nat → T3) (z : T3) (k : Nat) : Nat → T3 := fun i => if i < k then g i else z
theorem put_prf (g : Nat → T3) (z : T3) (k : Nat) : put3 (prf3 g z k) k (g k) = prf3 g z (k + 1) := by
  funext i
  unfold put3 prf3
  by_cases h : i = k
  · subst h; simp
  · by_cases h2 : i < k
    · rw [if_neg h, if_pos h2, if_pos (by omega)]
    · rw [if_neg h, if_neg h2, if_neg (by omega)]
theorem cl_setAt (f : Nat → T3) (x : T3) : ∀ k, k < 16 → setAt (clL f) (k * 3) [.ints .u32 x.1, .bool x.2.1, .ints .u32 x.2.2] = clL (put3 f k x) := lt16 rfl rfl rfl rfl rfl rfl rfl rfl rfl rfl rfl rfl rfl rfl rfl rfl
theorem rt_push {q : Nat → Rat} {z : T3} {k : Nat} {K : List D → Prop} (hk : k < 16) (h : K (clL (prf3 (fun i => rt3 (q i)) z (k + 1)))) : setAtK (clL (prf3 (fun i => rt3 (q i)) z k)) (k * 3) [.ints .u32 (mg 1000000000 (q k).num.natAbs), .bool (decide ((q k).num < 0)), .ints .u32 (mg 1000000000 (q k).den)] K := by
  refine setAtK_in (by rw [cl_len]; simp; omega) ?_
  have := cl_setAt (prf3 (fun i => rt3 (q i)) z k) (rt3 (q k)) k hk
  rw [put_prf (fun i => rt3 (q i)) z k] at this
  rw [show ([.ints .u32 (mg 1000000000 (q k).num.natAbs), .bool (decide ((q k).num < 0)), .ints .u32 (mg 1000000000 (q k).den)] : List D) = [.ints .u32 (rt3 (q k)).1, .bool (rt3 (q k)).2.1, .ints .u32 (rt3 (q k)).2.2] from rfl, this]
  exact h
theorem zY35_0 : type_of% @Int.toNat_natCast ∧ type_of% @Nat.zero_add := ⟨@Int.toNat_natCast, @Nat.zero_add⟩
theorem total_t (q T : Nat → Rat) (h0 : T 0 = 0) (ca : ∀ k, k < 16 → Called Tryz.prog 52 [rtD (T k), rtD (q k)] (rtD (T (k + 1)))) :
    Called Tryz.prog 62 [.slf 3 16 (fun j => List.take 3 (List.drop (j * 3) (clL fun i => rt3 (q i))))] (rtD (T 16)) := by
  unfold rtD at ca ⊢
  refine called_of_run tbOk 6 ⟨Tryz.func62, rfl, rfl, Nat.le_of_ble_eq_true rfl⟩ ?_
  (conv => whnf)
  (conv => whnf)
  (try simp only [Nat.zero_add])
  repeat ((first | refine V.s1 ?_); (try simp only [Nat.zero_add]))
  refine Lp.pub 7 ?_
  (conv => whnf)
  refine lp_any (0) (fun k => k ≤ 16) (fun k => 16 - k) (fun k => [(12, .int .i64 k)]) (fun k => [(3, .box [.ints .u32 (mg 1000000000 (T k).num.natAbs), .bool (decide ((T k).num < 0)), .ints .u32 (mg 1000000000 (T k).den)])]) ?_ ?_ ?_
  · rw [h0]
    refine wk_nils 3 .u32 ?_
    (conv => whnf)
    exact V.wk
  · exact Nat.zero_le _
  intro k hk
  (conv => whnf)
  (try simp only [Nat.zero_add])
  repeat ((first | refine V.s1 ?_); (try simp only [Nat.zero_add]))
  refine Cnd.split (CondB.mk (fun hq => ?_) (fun hq => ?_))
  · have hk2 : k < 16 := by simp at hq; omega
    have e := rt_take q k hk2
    have c := ca k hk2
    clear ca
    (conv => whnf)
    (try simp only [zY35_0, e])
    repeat ((first | refine V.s1 ?_); (try simp only [zY35_0, e]))
    (conv => whnf)
    (try simp only [zY35_0, e])
    repeat ((first | refine V.s1 ?_ | ((try ((with_reducible refine .ext ?_); (conv => whnf); (try simp only [zY35_0, e]))); (with_reducible refine call_intro (r := ?_) ?_ ?_); rotate_left; (focus (first | exact (c))); (conv => whnf))); (try simp only [zY35_0, e]))
    refine .inl ?_
    (conv => whnf)
    refine ⟨0, _, _, ⟨Tryz.func110, rfl, rfl, Nat.le_of_ble_eq_true rfl⟩, ?_⟩
    (conv => whnf)
    (conv => whnf)
    (try simp only [zY35_0, e])
    repeat ((first | refine V.s1 ?_ | ((try ((with_reducible refine .ext ?_); (conv => whnf); (try simp only [zY35_0, e]))); (with_reducible refine call_intro (r := ?_) ?_ ?_); rotate_left; (focus (first | exact (c))); (conv => whnf))); (try simp only [zY35_0, e]))
    exact ⟨(k + 1), by omega, by omega, V.wk⟩
  · have hk2 : k = 16 := by simp at hq; omega
    subst hk2
    (conv => whnf)
    (try simp only [Nat.zero_add])
    repeat ((first | refine V.s1 ?_); (try simp only [Nat.zero_add]))
    exact Fin.of rfl
theorem fsum_t (x : Nat → Tx) (q : Nat → Rat) (r0 r1 : List UInt8) (S : Rat) (rd : ∀ k, k < 16 → Called Tryz.prog 61 [.agg [.str (x k).1, .str (x k).2]] (.tup [rtD (q k), .bool true]))
    (ct : Called Tryz.prog 62 [.slf 3 16 (fun j => List.take 3 (List.drop (j * 3) (clL fun i => rt3 (q i))))] (rtD S)) (cw : Called Tryz.prog 63 [rtD S] (.tup [.agg [.str r0, .str r1], .int .i64 0])) :
    Called Tryz.prog 29 [.slf 2 16 (fun j => List.take 2 (List.drop (j * 2) (spL x)))] (.tup [.agg [.str r0, .str r1], .int .i64 0]) := by
  unfold rtD at rd ct cw
  refine called_of_run tbOk 6 ⟨Tryz.func29, rfl, rfl, Nat.le_of_ble_eq_true rfl⟩ ?_
  (conv => whnf)
  (conv => whnf)
  (try simp only [Nat.zero_add])
  repeat ((first | refine V.s1 ?_); (try simp only [Nat.zero_add]))
  refine lp_any (0) (fun k => k ≤ 16) (fun k => 16 - k) (fun k => [(18, .int .i64 k)]) (fun k => [(15, .box (clL (prf3 (fun i => rt3 (q i)) ([], false, []) k)))]) ?_ ?_ ?_
  · refine wk_nils 15 .u32 ?_
    (conv => whnf)
    exact V.wk
  · exact Nat.zero_le _
  intro k hk
  (conv => whnf)
  (try simp only [Nat.zero_add])
  repeat ((first | refine V.s1 ?_); (try simp only [Nat.zero_add]))
  refine Cnd.split (CondB.mk (fun hq => ?_) (fun hq => ?_))
  · have hk2 : k < 16 := by simp at hq; omega
    have e := sp_take x k hk2
    have c := rd k hk2
    clear rd
    (conv => whnf)
    (try simp only [zY35_0, e])
    repeat ((first | refine V.s1 ?_); (try simp only [zY35_0, e]))
    (conv => whnf)
    (try simp only [zY35_0, e])
    repeat ((first | refine V.s1 ?_ | ((try ((with_reducible refine .ext ?_); (conv => whnf); (try simp only [zY35_0, e]))); (with_reducible refine call_intro (r := ?_) ?_ ?_); rotate_left; (focus (first | exact (c))); (conv => whnf)) | ((refine rt_push hk2 ?_); (conv => whnf))); (try simp only [zY35_0, e]))
    exact ⟨(k + 1), by omega, by omega, V.wk⟩
  · have hk2 : k = 16 := by simp at hq; omega
    subst hk2
    (conv => whnf)
    (try simp only [Nat.zero_add])
    repeat ((first | refine V.s1 ?_ | ((try ((with_reducible refine .ext ?_); (conv => whnf); (try simp only [Nat.zero_add]))); (with_reducible refine call_intro (r := ?_) ?_ ?_); rotate_left; (focus (first | exact (ct) | exact (cw))); (conv => whnf))); (try simp only [Nat.zero_add]))
    exact Fin.of rfl
end Go.Proofs.YtpcpgjcdkgcbpaaGreatDoor
end
section
namespace Go.Proofs.YtpcpgjcdkgcbpaaGreatDoor
open Go Go.V Go.Nb
theorem divInt_cast (n : Int) (d : Int) : Rat.divInt n d = (n : Rat) * (d : Rat)⁻¹ := by
  rw [Rat.divInt_eq_div, Rat.div_def]
def cN (n : Nat → Int) (i : Nat) : Int :=
  if i = 0 then 1083 * n 0 - 83 * n 1
  else if i = 15 then 1083 * n 15 - 83 * n 14
  else 1166 * n i - 83 * n (i - 1) - 83 * n (i + 1)
theorem u5 : ((100000 : Int) : Rat)⁻¹ = ((100 : Int) : Rat)⁻¹ * ((1000 : Int) : Rat)⁻¹ := by decide +kernel
theorem cor_hund (n : Nat → Int) (i : Nat) : corQ (fun k => Rat.divInt (n k) 100) i = Rat.divInt (cN n i) 100000 := by
  unfold corQ cN
  by_cases h0 : i = 0
  · rw [if_pos h0, if_pos h0]
    simp only [divInt_cast, Rat.intCast_sub, Rat.intCast_mul, u5]
    grind
  · rw [if_neg h0, if_neg h0]
    by_cases h1 : i = 15
    · rw [if_pos h1, if_pos h1]
      simp only [divInt_cast, Rat.intCast_sub, Rat.intCast_mul, u5]
      grind
    · rw [if_neg h1, if_neg h1]
      simp only [divInt_cast, Rat.intCast_sub, Rat.intCast_mul, u5]
      grind
theorem sumQ_divInt (m : Nat → Int) (d : Int) : ∀ k, sumQ (fun i => Rat.divInt (m i) d) k = Rat.divInt (si m k) d
  | 0 => by simp [sumQ, si]
  | k + 1 => by
    simp only [sumQ, si]
    rw [sumQ_divInt m d k]
    simp only [divInt_cast, Rat.intCast_add]
    grind
theorem cN_bd {n : Nat → Int} (h : ∀ k, 0 ≤ n k ∧ n k ≤ 200) (i : Nat) : -33200 ≤ cN n i ∧ cN n i ≤ 233200 := by
  unfold cN
  have h0 := h 0
  have h1 := h 1
  have h2 := h 14
  have h3 := h 15
  have h4 := h i
  have h5 := h (i - 1)
  have h6 := h (i + 1)
  split
  · omega
  · split <;> omega
theorem si_bd {m : Nat → Int} {c : Int} (hc : 0 ≤ c) (h : ∀ k, -c ≤ m k ∧ m k ≤ c) : ∀ k, k ≤ 16 → -(16 * c) ≤ si m k ∧ si m k ≤ 16 * c := by
  have key : ∀ k : Nat, -(k * c) ≤ si m k ∧ si m k ≤ k * c := fun k => by
    induction k with
    | zero => simp [si]
    | succ k ih =>
      simp only [si]
      have := h k
      rw [Int.natCast_add, Int.add_mul]
      omega
  intro k hk
  have := key k
  have h2 : (k : Int) * c ≤ 16 * c := Int.mul_le_mul_of_nonneg_right (by omega) hc
  omega
theorem fq_cor {n : Nat → Int} (h : ∀ k, 0 ≤ n k ∧ n k ≤ 200) (i : Nat) : Fq 6 (Rat.divInt (cN n i) 100000) := by
  have := cN_bd h i
  exact fq_divInt (d := 100000) (by omega) (by omega) (by omega)
theorem fq_sumc {n : Nat → Int} (h : ∀ k, 0 ≤ n k ∧ n k ≤ 200) {k : Nat} (hk : k ≤ 16) : Fq 8 (sumQ (fun i => Rat.divInt (cN n i) 100000) k) := by
  rw [sumQ_divInt]
  have := si_bd (m := cN n) (c := 233200) (by omega) (fun k => by have := cN_bd h k; omega) k hk
  exact fq_divInt (d := 100000) (by omega) (by omega) (by omega)
theorem fq_sumd {n : Nat → Int} (h : ∀ k, 0 ≤ n k ∧ n k ≤ 200) {k : Nat} (hk : k ≤ 16) : Fq 8 (sumQ (fun i => Rat.divInt (n i) 100) k) := by
  rw [sumQ_divInt]
  have := si_bd (m := n) (c := 200) (by omega) (fun k => by have := h k; omega) k hk
  exact fq_divInt (d := 100) (by omega) (by omega) (by omega)
theorem fq_shr {n d : Int} (hd : 0 ≤ d ∧ d ≤ 255) : Fq 3 (shQ n d) := by
  have hb := shN_bd n d hd
  unfold shQ
  obtain ⟨m, hm⟩ : ∃ m : Nat, 1 + d = m := ⟨(1 + d).toNat, by omega⟩
  rw [hm] at hb ⊢
  exact fq_divInt (by omega) (by omega) (by omega)
theorem fq_dr {ds : List Int} (hd : ∀ n ∈ ds, 0 ≤ n ∧ n ≤ 255) (k : Nat) : Fq 3 (drQ ds k) := by
  have := drN_bd hd k
  exact fq_divInt (d := 100) (by omega) (by omega) (by omega)
theorem mix_sp {a b : Nat → Rat} {t : Rat} (ha : SpQ a) (hb : SpQ b) (fa : ∀ k, Fq 3 (a k)) (fb : ∀ k, Fq 3 (b k)) (ft : Fq 3 t) (h0 : 0 ≤ t) (h1 : t ≤ 1) : SpQ fun i => mixQ t (a i) (b i) := fun k => by
  have hx := (ha k).2
  have hy := (hb k).2
  have h2 : 0 ≤ 1 - t := by grind
  refine ⟨(((y_one.sub ft).mul (fa k)).add (ft.mul (fb k))).mono (by omega), ?_, ?_⟩
  · have e1 := Rat.mul_nonneg h2 hx.1
    have e2 := Rat.mul_nonneg h0 hy.1
    unfold mixQ
    grind
  · have e1 := Rat.mul_nonneg h2 (show 0 ≤ 2 - a k by grind)
    have e2 := Rat.mul_nonneg h0 (show 0 ≤ 2 - b k by grind)
    unfold mixQ
    grind
theorem mix_q2 {a b : Nat → Rat} {t : Rat} (fa : ∀ k, Fq 20 (a k)) (fb : ∀ k, Fq 20 (b k)) (ca : chkS (txS a) = 0) (cb : chkS (txS b) = 0) (ht : Fq 20 t) (h0 : 0 ≤ t) (h1 : t ≤ 1) : Called Tryz.prog 28 [.agg (spL (txS a)), .agg (spL (txS b)), frT t] (spE (txS fun i => mixQ t (a i) (b i)) 0) := by
  have c := smix_c (t := xT t) (sp_bd fa) (sp_bd fb) (xT_bd ht k20)
  unfold mixS at c
  rw [if_pos ca, if_pos cb, (xT_ok ht k20).1, if_pos rfl, out_no ht h0 h1, if_neg (by decide)] at c
  have e : (fun i => xT (mixQ (qX (xT t)) (qX (txS a i)) (qX (txS b i)))) = txS fun i => mixQ t (a i) (b i) := by
    funext i
    unfold txS
    rw [(xT_ok ht k20).2, (xT_ok (fa i) k20).2, (xT_ok (fb i) k20).2]
  rw [e] at c
  exact c
theorem fq_colh {p o : List Int} (hp : isPow p) (ho : isObs o) {n : Nat → Int} (h : ∀ k, 0 ≤ n k ∧ n k ≤ 200) : Fq 40 (colP p o fun k => Rat.divInt (n k) 100) := by
  unfold colP
  rw [sw_hund]
  have hw : ∀ k, -2000000000000000 ≤ wgt p o k * n k ∧ wgt p o k * n k ≤ 2000000000000000 := fun k => by
    have h1 := wgt_bd hp ho k
    have h2 := h k
    have h3 : 0 ≤ wgt p o k * n k := Int.mul_nonneg h1.2 h2.1
    have h4 : wgt p o k * n k ≤ wgt p o k * 200 := Int.mul_le_mul_of_nonneg_left h2.2 h1.2
    omega
  have hb := si_bd (by omega) hw 16 (by omega)
  have nK : (Rat.divInt (allP p 16) 1).num ≠ 0 := by
    rw [divInt_num1]
    have := allP_pos hp
    omega
  have f1 : Fq 18 (Rat.divInt (si (fun i => wgt p o i * n i) 16) 100) := fq_divInt (d := 100) (by omega) (by omega) (by omega)
  exact (f1.div (fqK hp) nK).mono (by omega)
theorem col_nn {p o : List Int} (hp : isPow p) (ho : isObs o) {a : Nat → Rat} (h : ∀ k, 0 ≤ a k) : 0 ≤ colP p o a := by
  have h1 := col_mono (a := fun _ => 0) (b := a) hp ho h
  rw [colP_const hp, Rat.mul_zero] at h1
  exact h1
end Go.Proofs.YtpcpgjcdkgcbpaaGreatDoor
end
section
namespace Go.Proofs.YtpcpgjcdkgcbpaaGreatDoor
open Go Go.V Go.Nb
theorem zY37_0 : type_of% @Nat.zero_add ∧ type_of% @dec_refl ∧ type_of% @dec_reflz ∧ type_of% @tn0 ∧ type_of% @tn1 ∧ type_of% @tn2 := ⟨@Nat.zero_add, @dec_refl, @dec_reflz, @tn0, @tn1, @tn2⟩
theorem keeps_n1 (ds es : List Int) (hl : ds.length = 16) (hl2 : es.length = 16) (n d : Int) (t0 t1 s0 s1 : List UInt8) (a b ca cb m g : Nat → Tx) (ve : Int)
    (da : Called Tryz.prog 10 [.iarr .u8 ds] (.agg (spL a))) (db : Called Tryz.prog 10 [.iarr .u8 es] (.agg (spL b)))
    (sh : Called Tryz.prog 15 [.agg [.int .i16 n, .int .u8 d]] (.agg [.str t0, .str t1]))
    (ka : Called Tryz.prog 27 [.agg (spL a)] (.tup [.agg (spL ca), .int .i64 0])) (kb : Called Tryz.prog 27 [.agg (spL b)] (.tup [.agg (spL cb), .int .i64 0])) (km : Called Tryz.prog 27 [.agg (spL m)] (.tup [.agg (spL g), .int .i64 0]))
    (su : Called Tryz.prog 29 [.slf 2 16 (fun j => List.take 2 (List.drop (j * 2) (spL a)))] (.tup [.agg [.str s0, .str s1], .int .i64 0])) (sv : Called Tryz.prog 29 [.slf 2 16 (fun j => List.take 2 (List.drop (j * 2) (spL ca)))] (.tup [.agg [.str s0, .str s1], .int .i64 0]))
    (mx : Called Tryz.prog 28 [.agg (spL a), .agg (spL b), .agg [.str t0, .str t1]] (.tup [.agg (spL m), .int .i64 0]))
    (v1 : Called Tryz.prog 12 [.agg (spL ca)] (.int .i64 2)) (v2 : Called Tryz.prog 12 [.agg (spL cb)] (.int .i64 ve)) :
    Called Tryz.prog 6 [.iarr .u8 ds, .iarr .u8 es, .agg [.int .i16 n, .int .u8 d]] (.bool true) := by
  refine called_of_run tbOk 6 ⟨Tryz.func6, rfl, rfl, Nat.le_of_ble_eq_true rfl⟩ ?_
  (conv => whnf)
  (conv => whnf)
  (try simp only [Nat.zero_add])
  repeat ((first | refine V.s1 ?_ | ((try ((with_reducible refine .ext ?_); (conv => whnf); (try simp only [Nat.zero_add]))); (with_reducible refine call_intro (r := ?_) ?_ ?_); rotate_left; (focus (first | exact (works_c) | exact (da) | exact (db) | exact (ka) | exact (kb))); (conv => whnf))); (try simp only [Nat.zero_add]))
  refine ⟨(.take 0 (.take 2 (.ev (.cons 1 [2] (.ev (.cons 3 [2] (.ev (.cons 4 [2] (.ev (.cons 5 [2] (.ev (.cons 6 [] (.done) (.nil))) (.nil))) (.nil))) (.cons 4 [2] (.ev (.cons 3 [2] (.ev (.cons 5 [2] (.ev (.cons 6 [] (.done) (.nil))) (.nil))) (.nil))) (.nil)))) (.cons 3 [2, 0] (.ev (.cons 1 [2] (.ev (.cons 4 [2] (.ev (.cons 5 [2] (.ev (.cons 6 [] (.done) (.nil))) (.nil))) (.nil))) (.cons 4 [2, 0] (.ev (.cons 1 [2] (.ev (.cons 5 [2] (.ev (.cons 6 [] (.done) (.nil))) (.nil))) (.nil))) (.nil)))) (.cons 4 [2, 0] (.ev (.cons 1 [2] (.ev (.cons 3 [2] (.ev (.cons 5 [2] (.ev (.cons 6 [] (.done) (.nil))) (.nil))) (.nil))) (.cons 3 [2, 0] (.ev (.cons 1 [2] (.ev (.cons 5 [2] (.ev (.cons 6 [] (.done) (.nil))) (.nil))) (.nil))) (.nil)))) (.nil))))))), [], ⟨by kernel_rfl, by kernel_rfl, by kernel_rfl, by kernel_rfl⟩, ?_⟩
  refine drw_meet [(11, .box 11 0), (12, .box 12 0)] [(11, .box (spL a)), (12, .box (spL ca))] ?_ ?_
  · (conv => whnf); (try simp only [Nat.zero_add])
    repeat' (first | exact V.wk | ((with_reducible refine And.intro ?_ draw_nil); (conv => whnf); (try simp only [Nat.zero_add])) | ((with_reducible first | refine draw_split ?_ ?_ | refine nds_split ?_ ?_) <;> (conv => whnf); (try simp only [Nat.zero_add])) | ((first | refine V.s1 ?_ | ((with_reducible refine recheck_and ?_ ?_); (focus ((conv => whnf); (try simp only [Nat.zero_add]); (repeat ((first | refine V.s1 ?_); (try simp only [Nat.zero_add]))); exact ⟨rfl⟩)); (conv => whnf)) | ((try ((with_reducible refine .ext ?_); (conv => whnf); (try simp only [Nat.zero_add]))); (with_reducible refine call_intro (r := ?_) ?_ ?_); rotate_left; (focus (first | exact (da))); (conv => whnf))); (try simp only [Nat.zero_add])) | (refine And.intro ?_ ?_ <;> (conv => whnf); (try simp only [Nat.zero_add])))
  (conv => whnf)
  (try simp only [zY37_0, decide_true, Bool.not_true, Bool.and_true, Bool.and_self, Bool.true_and, Bool.or_false, Bool.false_or])
  repeat ((first | refine V.s1 ?_ | ((try ((with_reducible refine .ext ?_); (conv => whnf); (try simp only [zY37_0, decide_true, Bool.not_true, Bool.and_true, Bool.and_self, Bool.true_and, Bool.or_false, Bool.false_or]))); (with_reducible refine call_intro (r := ?_) ?_ ?_); rotate_left; (focus (first | exact (su) | exact (sv))); (conv => whnf))); (try simp only [zY37_0, decide_true, Bool.not_true, Bool.and_true, Bool.and_self, Bool.true_and, Bool.or_false, Bool.false_or]))
  refine ⟨(.take 0 (.take 2 (.take 4 (.ev (.cons 1 [4, 2] (.ev (.cons 3 [4] (.ev (.cons 5 [] (.ev (.cons 6 [] (.take 7 (.take 8 (.take 9 (.ev (.cons 10 [9, 8, 7] (.ev (.cons 11 [9] (.take 12 (.done)) (.nil))) (.nil)))))) (.cons 10 [] (.ev (.cons 6 [] (.take 7 (.take 8 (.take 9 (.ev (.cons 11 [9] (.take 12 (.done)) (.nil)))))) (.nil))) (.nil)))) (.cons 10 [4] (.ev (.cons 5 [] (.ev (.cons 6 [] (.take 7 (.take 8 (.take 9 (.ev (.cons 11 [9] (.take 12 (.done)) (.nil)))))) (.nil))) (.nil))) (.nil)))) (.cons 10 [4, 2] (.ev (.cons 3 [4] (.ev (.cons 5 [] (.ev (.cons 6 [] (.take 7 (.take 8 (.take 9 (.ev (.cons 11 [9] (.take 12 (.done)) (.nil)))))) (.nil))) (.nil))) (.nil))) (.nil)))) (.cons 10 [4, 2, 0] (.ev (.cons 1 [4, 2] (.ev (.cons 3 [4] (.ev (.cons 5 [] (.ev (.cons 6 [] (.take 7 (.take 8 (.take 9 (.ev (.cons 11 [9] (.take 12 (.done)) (.nil)))))) (.nil))) (.nil))) (.nil))) (.nil))) (.nil))))))), [], ⟨by kernel_rfl, by kernel_rfl, by kernel_rfl, by kernel_rfl⟩, ?_⟩
  refine drw_meet [(17, .box 17 0), (8, .int .i64 0)] [(17, .box (spL m))] ?_ ?_
  · (conv => whnf); (try simp only [Nat.zero_add])
    repeat' (first | exact V.wk | ((with_reducible refine And.intro ?_ draw_nil); (conv => whnf); (try simp only [Nat.zero_add])) | ((with_reducible first | refine draw_split ?_ ?_ | refine nds_split ?_ ?_) <;> (conv => whnf); (try simp only [Nat.zero_add])) | ((first | refine V.s1 ?_ | ((with_reducible refine recheck_and ?_ ?_); (focus ((conv => whnf); (try simp only [Nat.zero_add]); (repeat ((first | refine V.s1 ?_); (try simp only [Nat.zero_add]))); exact ⟨rfl⟩)); (conv => whnf)) | ((try ((with_reducible refine .ext ?_); (conv => whnf); (try simp only [Nat.zero_add]))); (with_reducible refine call_intro (r := ?_) ?_ ?_); rotate_left; (focus (first | exact (da) | exact (db) | exact (sh) | exact (mx))); (conv => whnf))); (try simp only [Nat.zero_add])) | (refine And.intro ?_ ?_ <;> (conv => whnf); (try simp only [Nat.zero_add])))
  (conv => whnf)
  (try simp only [zY37_0, decide_true, Bool.not_true, Bool.and_true, Bool.and_self, Bool.true_and, Bool.or_false, Bool.false_or])
  repeat ((first | refine V.s1 ?_ | ((try ((with_reducible refine .ext ?_); (conv => whnf); (try simp only [zY37_0, decide_true, Bool.not_true, Bool.and_true, Bool.and_self, Bool.true_and, Bool.or_false, Bool.false_or]))); (with_reducible refine call_intro (r := ?_) ?_ ?_); rotate_left; (focus (first | exact (km) | exact (v1) | exact (v2))); (conv => whnf))); (try simp only [zY37_0, decide_true, Bool.not_true, Bool.and_true, Bool.and_self, Bool.true_and, Bool.or_false, Bool.false_or]))
  refine Cnd.split (CondB.mk (fun hq => ?_) (fun hq => ?_))
  · (conv => whnf)
    (try simp only [Nat.zero_add])
    repeat ((first | refine V.s1 ?_); (try simp only [Nat.zero_add]))
    exact Fin.of rfl
  · exfalso
    simp at hq
theorem keeps_n2 (ds es : List Int) (hl : ds.length = 16) (hl2 : es.length = 16) (n d : Int) (t0 t1 s0 s1 : List UInt8) (a b ca cb m g : Nat → Tx)
    (da : Called Tryz.prog 10 [.iarr .u8 ds] (.agg (spL a))) (db : Called Tryz.prog 10 [.iarr .u8 es] (.agg (spL b)))
    (sh : Called Tryz.prog 15 [.agg [.int .i16 n, .int .u8 d]] (.agg [.str t0, .str t1]))
    (ka : Called Tryz.prog 27 [.agg (spL a)] (.tup [.agg (spL ca), .int .i64 0])) (kb : Called Tryz.prog 27 [.agg (spL b)] (.tup [.agg (spL cb), .int .i64 0])) (km : Called Tryz.prog 27 [.agg (spL m)] (.tup [.agg (spL g), .int .i64 0]))
    (su : Called Tryz.prog 29 [.slf 2 16 (fun j => List.take 2 (List.drop (j * 2) (spL a)))] (.tup [.agg [.str s0, .str s1], .int .i64 0])) (sv : Called Tryz.prog 29 [.slf 2 16 (fun j => List.take 2 (List.drop (j * 2) (spL ca)))] (.tup [.agg [.str s0, .str s1], .int .i64 0]))
    (mx : Called Tryz.prog 28 [.agg (spL a), .agg (spL b), .agg [.str t0, .str t1]] (.tup [.agg (spL m), .int .i64 0]))
    (v1 : Called Tryz.prog 12 [.agg (spL ca)] (.int .i64 0)) (v2 : Called Tryz.prog 12 [.agg (spL cb)] (.int .i64 2)) :
    Called Tryz.prog 6 [.iarr .u8 ds, .iarr .u8 es, .agg [.int .i16 n, .int .u8 d]] (.bool true) := by
  refine called_of_run tbOk 6 ⟨Tryz.func6, rfl, rfl, Nat.le_of_ble_eq_true rfl⟩ ?_
  (conv => whnf)
  (conv => whnf)
  (try simp only [Nat.zero_add])
  repeat ((first | refine V.s1 ?_ | ((try ((with_reducible refine .ext ?_); (conv => whnf); (try simp only [Nat.zero_add]))); (with_reducible refine call_intro (r := ?_) ?_ ?_); rotate_left; (focus (first | exact (works_c) | exact (da) | exact (db) | exact (ka) | exact (kb))); (conv => whnf))); (try simp only [Nat.zero_add]))
  refine ⟨(.take 0 (.take 2 (.ev (.cons 1 [2] (.ev (.cons 3 [2] (.ev (.cons 4 [2] (.ev (.cons 5 [2] (.ev (.cons 6 [] (.done) (.nil))) (.nil))) (.nil))) (.cons 4 [2] (.ev (.cons 3 [2] (.ev (.cons 5 [2] (.ev (.cons 6 [] (.done) (.nil))) (.nil))) (.nil))) (.nil)))) (.cons 3 [2, 0] (.ev (.cons 1 [2] (.ev (.cons 4 [2] (.ev (.cons 5 [2] (.ev (.cons 6 [] (.done) (.nil))) (.nil))) (.nil))) (.cons 4 [2, 0] (.ev (.cons 1 [2] (.ev (.cons 5 [2] (.ev (.cons 6 [] (.done) (.nil))) (.nil))) (.nil))) (.nil)))) (.cons 4 [2, 0] (.ev (.cons 1 [2] (.ev (.cons 3 [2] (.ev (.cons 5 [2] (.ev (.cons 6 [] (.done) (.nil))) (.nil))) (.nil))) (.cons 3 [2, 0] (.ev (.cons 1 [2] (.ev (.cons 5 [2] (.ev (.cons 6 [] (.done) (.nil))) (.nil))) (.nil))) (.nil)))) (.nil))))))), [], ⟨by kernel_rfl, by kernel_rfl, by kernel_rfl, by kernel_rfl⟩, ?_⟩
  refine drw_meet [(11, .box 11 0), (12, .box 12 0)] [(11, .box (spL a)), (12, .box (spL ca))] ?_ ?_
  · (conv => whnf); (try simp only [Nat.zero_add])
    repeat' (first | exact V.wk | ((with_reducible refine And.intro ?_ draw_nil); (conv => whnf); (try simp only [Nat.zero_add])) | ((with_reducible first | refine draw_split ?_ ?_ | refine nds_split ?_ ?_) <;> (conv => whnf); (try simp only [Nat.zero_add])) | ((first | refine V.s1 ?_ | ((with_reducible refine recheck_and ?_ ?_); (focus ((conv => whnf); (try simp only [Nat.zero_add]); (repeat ((first | refine V.s1 ?_); (try simp only [Nat.zero_add]))); exact ⟨rfl⟩)); (conv => whnf)) | ((try ((with_reducible refine .ext ?_); (conv => whnf); (try simp only [Nat.zero_add]))); (with_reducible refine call_intro (r := ?_) ?_ ?_); rotate_left; (focus (first | exact (da))); (conv => whnf))); (try simp only [Nat.zero_add])) | (refine And.intro ?_ ?_ <;> (conv => whnf); (try simp only [Nat.zero_add])))
  (conv => whnf)
  (try simp only [zY37_0, decide_true, Bool.not_true, Bool.and_true, Bool.and_self, Bool.true_and, Bool.or_false, Bool.false_or])
  repeat ((first | refine V.s1 ?_ | ((try ((with_reducible refine .ext ?_); (conv => whnf); (try simp only [zY37_0, decide_true, Bool.not_true, Bool.and_true, Bool.and_self, Bool.true_and, Bool.or_false, Bool.false_or]))); (with_reducible refine call_intro (r := ?_) ?_ ?_); rotate_left; (focus (first | exact (su) | exact (sv))); (conv => whnf))); (try simp only [zY37_0, decide_true, Bool.not_true, Bool.and_true, Bool.and_self, Bool.true_and, Bool.or_false, Bool.false_or]))
  refine ⟨(.take 0 (.take 2 (.take 4 (.ev (.cons 1 [4, 2] (.ev (.cons 3 [4] (.ev (.cons 5 [] (.ev (.cons 6 [] (.take 7 (.take 8 (.take 9 (.ev (.cons 10 [9, 8, 7] (.ev (.cons 11 [9] (.take 12 (.done)) (.nil))) (.nil)))))) (.cons 10 [] (.ev (.cons 6 [] (.take 7 (.take 8 (.take 9 (.ev (.cons 11 [9] (.take 12 (.done)) (.nil)))))) (.nil))) (.nil)))) (.cons 10 [4] (.ev (.cons 5 [] (.ev (.cons 6 [] (.take 7 (.take 8 (.take 9 (.ev (.cons 11 [9] (.take 12 (.done)) (.nil)))))) (.nil))) (.nil))) (.nil)))) (.cons 10 [4, 2] (.ev (.cons 3 [4] (.ev (.cons 5 [] (.ev (.cons 6 [] (.take 7 (.take 8 (.take 9 (.ev (.cons 11 [9] (.take 12 (.done)) (.nil)))))) (.nil))) (.nil))) (.nil))) (.nil)))) (.cons 10 [4, 2, 0] (.ev (.cons 1 [4, 2] (.ev (.cons 3 [4] (.ev (.cons 5 [] (.ev (.cons 6 [] (.take 7 (.take 8 (.take 9 (.ev (.cons 11 [9] (.take 12 (.done)) (.nil)))))) (.nil))) (.nil))) (.nil))) (.nil))) (.nil))))))), [], ⟨by kernel_rfl, by kernel_rfl, by kernel_rfl, by kernel_rfl⟩, ?_⟩
  refine drw_meet [(17, .box 17 0), (8, .int .i64 0)] [(17, .box (spL m))] ?_ ?_
  · (conv => whnf); (try simp only [Nat.zero_add])
    repeat' (first | exact V.wk | ((with_reducible refine And.intro ?_ draw_nil); (conv => whnf); (try simp only [Nat.zero_add])) | ((with_reducible first | refine draw_split ?_ ?_ | refine nds_split ?_ ?_) <;> (conv => whnf); (try simp only [Nat.zero_add])) | ((first | refine V.s1 ?_ | ((with_reducible refine recheck_and ?_ ?_); (focus ((conv => whnf); (try simp only [Nat.zero_add]); (repeat ((first | refine V.s1 ?_); (try simp only [Nat.zero_add]))); exact ⟨rfl⟩)); (conv => whnf)) | ((try ((with_reducible refine .ext ?_); (conv => whnf); (try simp only [Nat.zero_add]))); (with_reducible refine call_intro (r := ?_) ?_ ?_); rotate_left; (focus (first | exact (da) | exact (db) | exact (sh) | exact (mx))); (conv => whnf))); (try simp only [Nat.zero_add])) | (refine And.intro ?_ ?_ <;> (conv => whnf); (try simp only [Nat.zero_add])))
  (conv => whnf)
  (try simp only [zY37_0, decide_true, Bool.not_true, Bool.and_true, Bool.and_self, Bool.true_and, Bool.or_false, Bool.false_or])
  repeat ((first | refine V.s1 ?_ | ((try ((with_reducible refine .ext ?_); (conv => whnf); (try simp only [zY37_0, decide_true, Bool.not_true, Bool.and_true, Bool.and_self, Bool.true_and, Bool.or_false, Bool.false_or]))); (with_reducible refine call_intro (r := ?_) ?_ ?_); rotate_left; (focus (first | exact (km) | exact (v1) | exact (v2))); (conv => whnf))); (try simp only [zY37_0, decide_true, Bool.not_true, Bool.and_true, Bool.and_self, Bool.true_and, Bool.or_false, Bool.false_or]))
  exact Fin.of rfl
theorem keeps_go (ds es : List Int) (hl : ds.length = 16) (hl2 : es.length = 16) (n d : Int) (t0 t1 s0 s1 : List UInt8) (a b ca cb m g : Nat → Tx)
    (da : Called Tryz.prog 10 [.iarr .u8 ds] (.agg (spL a))) (db : Called Tryz.prog 10 [.iarr .u8 es] (.agg (spL b)))
    (sh : Called Tryz.prog 15 [.agg [.int .i16 n, .int .u8 d]] (.agg [.str t0, .str t1]))
    (ka : Called Tryz.prog 27 [.agg (spL a)] (.tup [.agg (spL ca), .int .i64 0])) (kb : Called Tryz.prog 27 [.agg (spL b)] (.tup [.agg (spL cb), .int .i64 0])) (km : Called Tryz.prog 27 [.agg (spL m)] (.tup [.agg (spL g), .int .i64 0]))
    (su : Called Tryz.prog 29 [.slf 2 16 (fun j => List.take 2 (List.drop (j * 2) (spL a)))] (.tup [.agg [.str s0, .str s1], .int .i64 0])) (sv : Called Tryz.prog 29 [.slf 2 16 (fun j => List.take 2 (List.drop (j * 2) (spL ca)))] (.tup [.agg [.str s0, .str s1], .int .i64 0]))
    (mx : Called Tryz.prog 28 [.agg (spL a), .agg (spL b), .agg [.str t0, .str t1]] (.tup [.agg (spL m), .int .i64 0]))
    (v1 : Called Tryz.prog 12 [.agg (spL ca)] (.int .i64 0)) (v2 : Called Tryz.prog 12 [.agg (spL cb)] (.int .i64 0))
    (mz : Called Tryz.prog 28 [.agg (spL ca), .agg (spL cb), .agg [.str t0, .str t1]] (.tup [.agg (spL g), .int .i64 0])) :
    Called Tryz.prog 6 [.iarr .u8 ds, .iarr .u8 es, .agg [.int .i16 n, .int .u8 d]] (.bool true) := by
  refine called_of_run tbOk 6 ⟨Tryz.func6, rfl, rfl, Nat.le_of_ble_eq_true rfl⟩ ?_
  (conv => whnf)
  (conv => whnf)
  (try simp only [Nat.zero_add])
  repeat ((first | refine V.s1 ?_ | ((try ((with_reducible refine .ext ?_); (conv => whnf); (try simp only [Nat.zero_add]))); (with_reducible refine call_intro (r := ?_) ?_ ?_); rotate_left; (focus (first | exact (works_c) | exact (da) | exact (db) | exact (ka) | exact (kb))); (conv => whnf))); (try simp only [Nat.zero_add]))
  refine ⟨(.take 0 (.take 2 (.ev (.cons 1 [2] (.ev (.cons 3 [2] (.ev (.cons 4 [2] (.ev (.cons 5 [2] (.ev (.cons 6 [] (.done) (.nil))) (.nil))) (.nil))) (.cons 4 [2] (.ev (.cons 3 [2] (.ev (.cons 5 [2] (.ev (.cons 6 [] (.done) (.nil))) (.nil))) (.nil))) (.nil)))) (.cons 3 [2, 0] (.ev (.cons 1 [2] (.ev (.cons 4 [2] (.ev (.cons 5 [2] (.ev (.cons 6 [] (.done) (.nil))) (.nil))) (.nil))) (.cons 4 [2, 0] (.ev (.cons 1 [2] (.ev (.cons 5 [2] (.ev (.cons 6 [] (.done) (.nil))) (.nil))) (.nil))) (.nil)))) (.cons 4 [2, 0] (.ev (.cons 1 [2] (.ev (.cons 3 [2] (.ev (.cons 5 [2] (.ev (.cons 6 [] (.done) (.nil))) (.nil))) (.nil))) (.cons 3 [2, 0] (.ev (.cons 1 [2] (.ev (.cons 5 [2] (.ev (.cons 6 [] (.done) (.nil))) (.nil))) (.nil))) (.nil)))) (.nil))))))), [], ⟨by kernel_rfl, by kernel_rfl, by kernel_rfl, by kernel_rfl⟩, ?_⟩
  refine drw_meet [(11, .box 11 0), (12, .box 12 0)] [(11, .box (spL a)), (12, .box (spL ca))] ?_ ?_
  · (conv => whnf); (try simp only [Nat.zero_add])
    repeat' (first | exact V.wk | ((with_reducible refine And.intro ?_ draw_nil); (conv => whnf); (try simp only [Nat.zero_add])) | ((with_reducible first | refine draw_split ?_ ?_ | refine nds_split ?_ ?_) <;> (conv => whnf); (try simp only [Nat.zero_add])) | ((first | refine V.s1 ?_ | ((with_reducible refine recheck_and ?_ ?_); (focus ((conv => whnf); (try simp only [Nat.zero_add]); (repeat ((first | refine V.s1 ?_); (try simp only [Nat.zero_add]))); exact ⟨rfl⟩)); (conv => whnf)) | ((try ((with_reducible refine .ext ?_); (conv => whnf); (try simp only [Nat.zero_add]))); (with_reducible refine call_intro (r := ?_) ?_ ?_); rotate_left; (focus (first | exact (da))); (conv => whnf))); (try simp only [Nat.zero_add])) | (refine And.intro ?_ ?_ <;> (conv => whnf); (try simp only [Nat.zero_add])))
  (conv => whnf)
  (try simp only [zY37_0, decide_true, Bool.not_true, Bool.and_true, Bool.and_self, Bool.true_and, Bool.or_false, Bool.false_or])
  repeat ((first | refine V.s1 ?_ | ((try ((with_reducible refine .ext ?_); (conv => whnf); (try simp only [zY37_0, decide_true, Bool.not_true, Bool.and_true, Bool.and_self, Bool.true_and, Bool.or_false, Bool.false_or]))); (with_reducible refine call_intro (r := ?_) ?_ ?_); rotate_left; (focus (first | exact (su) | exact (sv))); (conv => whnf))); (try simp only [zY37_0, decide_true, Bool.not_true, Bool.and_true, Bool.and_self, Bool.true_and, Bool.or_false, Bool.false_or]))
  refine ⟨(.take 0 (.take 2 (.take 4 (.ev (.cons 1 [4, 2] (.ev (.cons 3 [4] (.ev (.cons 5 [] (.ev (.cons 6 [] (.take 7 (.take 8 (.take 9 (.ev (.cons 10 [9, 8, 7] (.ev (.cons 11 [9] (.take 12 (.done)) (.nil))) (.nil)))))) (.cons 10 [] (.ev (.cons 6 [] (.take 7 (.take 8 (.take 9 (.ev (.cons 11 [9] (.take 12 (.done)) (.nil)))))) (.nil))) (.nil)))) (.cons 10 [4] (.ev (.cons 5 [] (.ev (.cons 6 [] (.take 7 (.take 8 (.take 9 (.ev (.cons 11 [9] (.take 12 (.done)) (.nil)))))) (.nil))) (.nil))) (.nil)))) (.cons 10 [4, 2] (.ev (.cons 3 [4] (.ev (.cons 5 [] (.ev (.cons 6 [] (.take 7 (.take 8 (.take 9 (.ev (.cons 11 [9] (.take 12 (.done)) (.nil)))))) (.nil))) (.nil))) (.nil))) (.nil)))) (.cons 10 [4, 2, 0] (.ev (.cons 1 [4, 2] (.ev (.cons 3 [4] (.ev (.cons 5 [] (.ev (.cons 6 [] (.take 7 (.take 8 (.take 9 (.ev (.cons 11 [9] (.take 12 (.done)) (.nil)))))) (.nil))) (.nil))) (.nil))) (.nil))) (.nil))))))), [], ⟨by kernel_rfl, by kernel_rfl, by kernel_rfl, by kernel_rfl⟩, ?_⟩
  refine drw_meet [(17, .box 17 0), (8, .int .i64 0)] [(17, .box (spL m))] ?_ ?_
  · (conv => whnf); (try simp only [Nat.zero_add])
    repeat' (first | exact V.wk | ((with_reducible refine And.intro ?_ draw_nil); (conv => whnf); (try simp only [Nat.zero_add])) | ((with_reducible first | refine draw_split ?_ ?_ | refine nds_split ?_ ?_) <;> (conv => whnf); (try simp only [Nat.zero_add])) | ((first | refine V.s1 ?_ | ((with_reducible refine recheck_and ?_ ?_); (focus ((conv => whnf); (try simp only [Nat.zero_add]); (repeat ((first | refine V.s1 ?_); (try simp only [Nat.zero_add]))); exact ⟨rfl⟩)); (conv => whnf)) | ((try ((with_reducible refine .ext ?_); (conv => whnf); (try simp only [Nat.zero_add]))); (with_reducible refine call_intro (r := ?_) ?_ ?_); rotate_left; (focus (first | exact (da) | exact (db) | exact (sh) | exact (mx))); (conv => whnf))); (try simp only [Nat.zero_add])) | (refine And.intro ?_ ?_ <;> (conv => whnf); (try simp only [Nat.zero_add])))
  (conv => whnf)
  (try simp only [zY37_0, decide_true, Bool.not_true, Bool.and_true, Bool.and_self, Bool.true_and, Bool.or_false, Bool.false_or])
  repeat ((first | refine V.s1 ?_ | ((try ((with_reducible refine .ext ?_); (conv => whnf); (try simp only [zY37_0, decide_true, Bool.not_true, Bool.and_true, Bool.and_self, Bool.true_and, Bool.or_false, Bool.false_or]))); (with_reducible refine call_intro (r := ?_) ?_ ?_); rotate_left; (focus (first | exact (km) | exact (v1) | exact (v2))); (conv => whnf))); (try simp only [zY37_0, decide_true, Bool.not_true, Bool.and_true, Bool.and_self, Bool.true_and, Bool.or_false, Bool.false_or]))
  refine ⟨(.take 0 (.take 1 (.take 2 (.ev (.cons 3 [1, 0] (.ev (.cons 4 [] (.take 5 (.take 6 (.take 7 (.ev (.cons 8 [7, 6, 5] (.ev (.cons 9 [7] (.take 10 (.done)) (.nil))) (.nil)))))) (.cons 8 [1, 0] (.ev (.cons 4 [] (.take 5 (.take 6 (.take 7 (.ev (.cons 9 [7] (.take 10 (.done)) (.nil)))))) (.nil))) (.nil)))) (.cons 8 [2, 1, 0] (.ev (.cons 3 [1, 0] (.ev (.cons 4 [] (.take 5 (.take 6 (.take 7 (.ev (.cons 9 [7] (.take 10 (.done)) (.nil)))))) (.nil))) (.nil))) (.nil))))))), [], ⟨by kernel_rfl, by kernel_rfl, by kernel_rfl, by kernel_rfl⟩, ?_⟩
  refine drw_meet [(19, .box 19 0), (8, .int .i64 0)] [(19, .box (spL g))] ?_ ?_
  · (conv => whnf); (try simp only [Nat.zero_add])
    repeat' (first | exact V.wk | ((with_reducible refine And.intro ?_ draw_nil); (conv => whnf); (try simp only [Nat.zero_add])) | ((with_reducible first | refine draw_split ?_ ?_ | refine nds_split ?_ ?_) <;> (conv => whnf); (try simp only [Nat.zero_add])) | ((first | refine V.s1 ?_ | ((with_reducible refine recheck_and ?_ ?_); (focus ((conv => whnf); (try simp only [Nat.zero_add]); (repeat ((first | refine V.s1 ?_); (try simp only [Nat.zero_add]))); exact ⟨rfl⟩)); (conv => whnf)) | ((try ((with_reducible refine .ext ?_); (conv => whnf); (try simp only [Nat.zero_add]))); (with_reducible refine call_intro (r := ?_) ?_ ?_); rotate_left; (focus (first | exact (sh) | exact (mz))); (conv => whnf))); (try simp only [Nat.zero_add])) | (refine And.intro ?_ ?_ <;> (conv => whnf); (try simp only [Nat.zero_add])))
  (conv => whnf)
  (try simp only [zY37_0, decide_true, Bool.not_true, Bool.and_true, Bool.and_self, Bool.true_and, Bool.or_false, Bool.false_or])
  repeat ((first | refine V.s1 ?_); (try simp only [zY37_0, decide_true, Bool.not_true, Bool.and_true, Bool.and_self, Bool.true_and, Bool.or_false, Bool.false_or]))
  exact Fin.of rfl
end Go.Proofs.YtpcpgjcdkgcbpaaGreatDoor
end
section
namespace Go.Proofs.YtpcpgjcdkgcbpaaGreatDoor
open Go Go.V Go.Nb
theorem ynn_divInt {n m : Int} (hn : 0 ≤ n) (hm : 0 < m) : 0 ≤ Rat.divInt n m := (Rat.divInt_nonneg_iff_of_pos_right hm).2 hn
theorem yshare_bd {n d : Int} (hd : 0 ≤ d ∧ d ≤ 255) : 0 ≤ shQ n d ∧ shQ n d ≤ 1 := by
  have hb := shN_bd n d hd
  unfold shQ
  refine ⟨ynn_divInt hb.1 (by omega), ?_⟩
  have h1 : Rat.divInt (1 + d) (1 + d) = 1 := Rat.divInt_self' (by omega)
  have h2 : 0 ≤ Rat.divInt (1 + d - shN n d) (1 + d) := ynn_divInt (by omega) (by omega)
  have h3 : Rat.divInt (1 + d - shN n d) (1 + d) + Rat.divInt (shN n d) (1 + d) = 1 := by
    rw [Rat.divInt_add_divInt _ _ (by omega) (by omega), ← h1, ← Int.add_mul, show 1 + d - shN n d + shN n d = 1 + d by omega]
    exact Rat.divInt_mul_right (by omega)
  grind
end Go.Proofs.YtpcpgjcdkgcbpaaGreatDoor
end
section
namespace Go.Proofs.YtpcpgjcdkgcbpaaGreatDoor
open Go Go.V Go.Nb
theorem q9_fq {n : Nat} {q : Rat} (h : Fq n q) (h0 : 0 < n ∧ n ≤ 600) : Q9 20000000 q := by
  obtain ⟨h1, e1⟩ := okP_dec (h.ok h0.1 h0.2)
  have := qsize h1
  rw [e1] at this
  exact this
theorem sum_q {a : Nat → Rat} (fa : ∀ k, Fq 20 (a k)) (fs : ∀ k, k ≤ 16 → Fq 20 (sumQ a k)) :
    Called Tryz.prog 29 [.slf 2 16 (fun j => List.take 2 (List.drop (j * 2) (spL (txS a))))] (.tup [frT (sumQ a 16), .int .i64 0]) := by
  have qa : ∀ k, Q9 20000000 (a k) := fun k => q9_fq (fa k) k20
  have qs : ∀ k, k ≤ 16 → Q9 20000000 (sumQ a k) := fun k hk => q9_fq (fs k hk) k20
  have ct := total_t a (sumQ a) rfl fun k hk => add_c (sumQ a k) (a k) (qs k (by omega)) (qa k)
  have q1 := qs 16 (by omega)
  have cw := write_c (sumQ a 16) (by have := q1.1; unfold S9 at this; omega) (by have := q1.2; omega)
  rw [frR_ok ((fs 16 (by omega)).ok k20.1 k20.2)] at cw
  exact fsum_t (txS a) a _ _ (sumQ a 16) (fun k _ => by
    obtain ⟨h1, e1⟩ := okP_dec ((fa k).ok k20.1 k20.2)
    have c := read_ok _ _ h1
    rw [e1] at c
    exact c) ct cw
theorem sp_chk02 {a : Nat → Rat} (h : ∀ k, Fq 20 (a k)) : chkS (txS a) = 0 ∨ chkS (txS a) = 2 := by
  unfold chkS
  rw [okS_all (f := txS a) fun k _ => (xT_ok (h k) k20).1, if_pos rfl]
  cases inS (txS a) 16
  · exact .inr rfl
  · exact .inl rfl
theorem spectrumKeeps_c {ds es : List Int} (hl : ds.length = 16) (hl2 : es.length = 16) (hd : ∀ n ∈ ds, 0 ≤ n ∧ n ≤ 255) (he : ∀ n ∈ es, 0 ≤ n ∧ n ≤ 255) {n d : Int} (hn : -32768 ≤ n ∧ n ≤ 32767) (hdd : 0 ≤ d ∧ d ≤ 255) :
    Called Tryz.prog 6 [.iarr .u8 ds, .iarr .u8 es, .agg [.int .i16 n, .int .u8 d]] (.bool true) := by
  have da := draft_c hl hd
  have db := draft_c hl2 he
  rw [dr_is] at da db
  have sh := numShare_c n d hn hdd
  have ft := fq_shr (n := n) hdd
  have bx := yshare_bd (n := n) hdd
  generalize shQ n d = t at *
  have qa := dr_q hd
  have qb := dr_q he
  have ft2 : Fq 20 t := ft.mono (by omega)
  have mx := mix_q qa qb ft2 bx.1 bx.2
  have sm := mix_sp qa qb (fq_dr hd) (fq_dr he) ft bx.1 bx.2
  have ka := cor_q qa
  have kb := cor_q qb
  have km := cor_q sm
  rw [show (corQ fun i => mixQ t (drQ ds i) (drQ es i)) = fun i => mixQ t (corQ (drQ ds) i) (corQ (drQ es) i) from funext fun i => cor_mix t _ _ i] at km
  have fd : ∀ {l : List Int}, (∀ n ∈ l, 0 ≤ n ∧ n ≤ 255) → corQ (drQ l) = fun i => Rat.divInt (cN (drN l) i) 100000 := fun _ => funext fun i => cor_hund _ i
  have ca : ∀ k, Fq 20 (corQ (drQ ds) k) := fun k => by rw [fd hd]; exact (fq_cor (fun k => drN_bd hd k) k).mono (by omega)
  have cb : ∀ k, Fq 20 (corQ (drQ es) k) := fun k => by rw [fd he]; exact (fq_cor (fun k => drN_bd he k) k).mono (by omega)
  have su := sum_q (a := drQ ds) (fun k => (qa k).1) fun k hk => (fq_sumd (n := drN ds) (fun k => drN_bd hd k) hk).mono (by omega)
  have sv := sum_q (a := corQ (drQ ds)) ca fun k hk => by rw [fd hd]; exact (fq_sumc (fun k => drN_bd hd k) hk).mono (by omega)
  rw [cor_sum] at sv
  have v1 := check_c (sp_bd ca)
  have v2 := check_c (sp_bd cb)
  rcases sp_chk02 ca with e1 | e1
  · rcases sp_chk02 cb with e2 | e2
    · have mz := mix_q2 ca cb e1 e2 ft2 bx.1 bx.2
      rw [e1] at v1
      rw [e2] at v2
      exact keeps_go ds es hl hl2 n d _ _ _ _ _ _ _ _ _ _ da db sh ka kb km su sv mx v1 v2 mz
    · rw [e1] at v1
      rw [e2] at v2
      exact keeps_n2 ds es hl hl2 n d _ _ _ _ _ _ _ _ _ _ da db sh ka kb km su sv mx v1 v2
  · rw [e1] at v1
    exact keeps_n1 ds es hl hl2 n d _ _ _ _ _ _ _ _ _ _ _ da db sh ka kb km su sv mx v1 v2
end Go.Proofs.YtpcpgjcdkgcbpaaGreatDoor
end
