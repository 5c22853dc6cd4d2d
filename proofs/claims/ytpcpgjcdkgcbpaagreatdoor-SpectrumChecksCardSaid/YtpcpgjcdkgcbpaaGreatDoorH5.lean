/- What some functions of the program answer at values that mean given lists, texts and numbers, each proved of the program's own code: part 5. Conditions: those that each theorem names. -/
import Derived.Test.YtpcpgjcdkgcbpaaGreatDoorH4
import Derived.Test.YtpcpgjcdkgcbpaaGreatDoorH1
set_option linter.unusedSimpArgs false
set_option linter.unusedVariables false
set_option maxHeartbeats 8000000
set_option maxRecDepth 100000
section
namespace Go.Proofs.YtpcpgjcdkgcbpaaGreatDoor
open Go Go.V Go.Nb
theorem yk0 : ((0 : Nat) : Int) = 0 := rfl
def wavV : List Value := [.int .i64 14310, .int .i64 396, .int .i64 67850, .int .i64 147080, .int .i64 827549, .int .i64 134380, .int .i64 4000, .int .i64 645600, .int .i64 209950, .int .i64 934318, .int .i64 348280, .int .i64 23000, .int .i64 1747060, .int .i64 287027, .int .i64 1048650, .int .i64 290800, .int .i64 60000, .int .i64 1669200, .int .i64 378121, .int .i64 1178120, .int .i64 95640, .int .i64 139020, .int .i64 812950, .int .i64 482423, .int .i64 1159230, .int .i64 4900, .int .i64 323000, .int .i64 272000, .int .i64 598611, .int .i64 1093540, .int .i64 63270, .int .i64 710000, .int .i64 78250, .int .i64 724959, .int .i64 1047900, .int .i64 290400, .int .i64 954000, .int .i64 20300, .int .i64 859470, .int .i64 1044050, .int .i64 594500, .int .i64 995000, .int .i64 3900, .int .i64 1000000, .int .i64 1000000, .int .i64 916300, .int .i64 870000, .int .i64 1650, .int .i64 1144360, .int .i64 957880, .int .i64 1062200, .int .i64 631000, .int .i64 800, .int .i64 1290430, .int .i64 900062, .int .i64 854450, .int .i64 381000, .int .i64 190, .int .i64 1436180, .int .i64 876987, .int .i64 447900, .int .i64 175000, .int .i64 20, .int .i64 1579790, .int .i64 836992, .int .i64 164900, .int .i64 61000, .int .i64 0, .int .i64 1719630, .int .i64 802146, .int .i64 46770, .int .i64 17000, .int .i64 0, .int .i64 1854290, .int .i64 782842, .int .i64 11359, .int .i64 4102, .int .i64 0, .int .i64 1982610, .int .i64 716091]
theorem wav_take : ∀ k, k < 16 → ((List.map ofVal wavV).drop (k * 5)).take 5 = [.int .i64 (tbl wxL k), .int .i64 (tbl wyL k), .int .i64 (tbl wzL k), .int .i64 (tbl waL k), .int .i64 (tbl wdL k)] := lt16 rfl rfl rfl rfl rfl rfl rfl rfl rfl rfl rfl rfl rfl rfl rfl rfl
theorem wav_len : (List.map ofVal wavV).length = 80 := rfl
theorem wav_at {k : Nat} {K : List D → Prop} (hk : k < 16) (h : K [.int .i64 (tbl wxL k), .int .i64 (tbl wyL k), .int .i64 (tbl wzL k), .int .i64 (tbl waL k), .int .i64 (tbl wdL k)]) : dropK (List.map ofVal [.int .i64 14310, .int .i64 396, .int .i64 67850, .int .i64 147080, .int .i64 827549, .int .i64 134380, .int .i64 4000, .int .i64 645600, .int .i64 209950, .int .i64 934318, .int .i64 348280, .int .i64 23000, .int .i64 1747060, .int .i64 287027, .int .i64 1048650, .int .i64 290800, .int .i64 60000, .int .i64 1669200, .int .i64 378121, .int .i64 1178120, .int .i64 95640, .int .i64 139020, .int .i64 812950, .int .i64 482423, .int .i64 1159230, .int .i64 4900, .int .i64 323000, .int .i64 272000, .int .i64 598611, .int .i64 1093540, .int .i64 63270, .int .i64 710000, .int .i64 78250, .int .i64 724959, .int .i64 1047900, .int .i64 290400, .int .i64 954000, .int .i64 20300, .int .i64 859470, .int .i64 1044050, .int .i64 594500, .int .i64 995000, .int .i64 3900, .int .i64 1000000, .int .i64 1000000, .int .i64 916300, .int .i64 870000, .int .i64 1650, .int .i64 1144360, .int .i64 957880, .int .i64 1062200, .int .i64 631000, .int .i64 800, .int .i64 1290430, .int .i64 900062, .int .i64 854450, .int .i64 381000, .int .i64 190, .int .i64 1436180, .int .i64 876987, .int .i64 447900, .int .i64 175000, .int .i64 20, .int .i64 1579790, .int .i64 836992, .int .i64 164900, .int .i64 61000, .int .i64 0, .int .i64 1719630, .int .i64 802146, .int .i64 46770, .int .i64 17000, .int .i64 0, .int .i64 1854290, .int .i64 782842, .int .i64 11359, .int .i64 4102, .int .i64 0, .int .i64 1982610, .int .i64 716091]) (k * 5) fun ds => takeK ds 5 K :=
  dropK_in (ds := List.map ofVal wavV) (by rw [wav_len]; omega) (takeK_in (by rw [List.length_drop, wav_len]; omega) (by rw [wav_take k hk]; exact h))
theorem tbl_we : ∀ k, k < 16 → tbl weL k = 1000000 := lt16 rfl rfl rfl rfl rfl rfl rfl rfl rfl rfl rfl rfl rfl rfl rfl rfl
def takeL (p : List Int) (k : Nat) : List Int := p.take k ++ List.replicate (16 - k) 0
theorem takeL_set {p : List Int} (hp : p.length = 16) {k : Nat} (hk : k < 16) : (takeL p k).set k (tbl p k) = takeL p (k + 1) := by
  unfold takeL tbl
  rw [List.set_append_right _ _ (by rw [List.length_take]; omega), List.length_take, show k - min k p.length = 0 by omega, show 16 - k = (16 - (k + 1)) + 1 by omega, List.replicate_succ, List.set_cons_zero, List.take_add_one, List.append_assoc]
  congr 1
  rw [List.getD_eq_getElem?_getD, List.getElem?_eq_getElem (by omega)]
  rfl
theorem takeL_all {p : List Int} (hp : p.length = 16) : takeL p 16 = p := by
  unfold takeL
  rw [List.take_of_length_le (by omega)]
  simp
theorem takeL_zero (p : List Int) : takeL p 0 = List.replicate 16 0 := rfl
theorem takeL_len {p : List Int} (hp : p.length = 16) {k : Nat} (hk : k ≤ 16) : (takeL p k).length = 16 := by
  unfold takeL
  rw [List.length_append, List.length_take, List.length_replicate]
  omega
theorem zY7_0 : type_of% @Int.toNat_natCast ∧ type_of% @Nat.zero_add := ⟨@Int.toNat_natCast, @Nat.zero_add⟩
theorem powers_1 : Called Tryz.prog 45 [.int .i64 1] (.iarr .i64 waL) := by
  have hl := pow_len (p := waL) (.inl rfl)
  refine called_of_run tbOk 6 ⟨Tryz.func45, rfl, rfl, Nat.le_of_ble_eq_true rfl⟩ ?_
  (conv => whnf)
  (conv => whnf)
  (try simp only [Nat.zero_add])
  repeat ((first | refine V.s1 ?_); (try simp only [Nat.zero_add]))
  refine lp_any (0) (fun k => k ≤ 16) (fun k => 16 - k) (fun k => [(5, .int .i64 k)]) (fun k => [(3, .arr .i64 (takeL waL k))]) ?_ ?_ ?_
  · exact V.wk
  · exact Nat.zero_le _
  intro k hk
  have ht := takeL_len hl hk
  (conv => whnf)
  (try simp only [Nat.zero_add])
  repeat ((first | refine V.s1 ?_); (try simp only [Nat.zero_add]))
  refine Cnd.split (CondB.mk (fun hq => ?_) (fun hq => ?_))
  · have hk2 : k < 16 := by simp at hq; omega
    have hs := takeL_set hl hk2
    (conv => whnf)
    (try simp only [zY7_0])
    repeat ((first | refine V.s1 ?_); (try simp only [zY7_0]))
    refine wav_at hk2 ?_
    (conv => whnf)
    (try simp only [zY7_0, hs])
    repeat ((first | refine V.s1 ?_); (try simp only [zY7_0, hs]))
    exact ⟨(k + 1), by omega, by omega, V.wk⟩
  · have hk2 : k = 16 := by simp at hq; omega
    subst hk2
    rw [takeL_all hl]
    (conv => whnf)
    (try simp only [Nat.zero_add])
    repeat ((first | refine V.s1 ?_); (try simp only [Nat.zero_add]))
    exact Fin.of rfl
theorem powers_5 : Called Tryz.prog 45 [.int .i64 5] (.iarr .i64 wdL) := by
  have hl := pow_len (p := wdL) (.inr (.inl rfl))
  refine called_of_run tbOk 6 ⟨Tryz.func45, rfl, rfl, Nat.le_of_ble_eq_true rfl⟩ ?_
  (conv => whnf)
  (conv => whnf)
  (try simp only [Nat.zero_add])
  repeat ((first | refine V.s1 ?_); (try simp only [Nat.zero_add]))
  refine lp_any (0) (fun k => k ≤ 16) (fun k => 16 - k) (fun k => [(5, .int .i64 k)]) (fun k => [(3, .arr .i64 (takeL wdL k))]) ?_ ?_ ?_
  · exact V.wk
  · exact Nat.zero_le _
  intro k hk
  have ht := takeL_len hl hk
  (conv => whnf)
  (try simp only [Nat.zero_add])
  repeat ((first | refine V.s1 ?_); (try simp only [Nat.zero_add]))
  refine Cnd.split (CondB.mk (fun hq => ?_) (fun hq => ?_))
  · have hk2 : k < 16 := by simp at hq; omega
    have hs := takeL_set hl hk2
    (conv => whnf)
    (try simp only [zY7_0])
    repeat ((first | refine V.s1 ?_); (try simp only [zY7_0]))
    refine wav_at hk2 ?_
    (conv => whnf)
    (try simp only [zY7_0, hs])
    repeat ((first | refine V.s1 ?_); (try simp only [zY7_0, hs]))
    exact ⟨(k + 1), by omega, by omega, V.wk⟩
  · have hk2 : k = 16 := by simp at hq; omega
    subst hk2
    rw [takeL_all hl]
    (conv => whnf)
    (try simp only [Nat.zero_add])
    repeat ((first | refine V.s1 ?_); (try simp only [Nat.zero_add]))
    exact Fin.of rfl
theorem powers_7 : Called Tryz.prog 45 [.int .i64 7] (.iarr .i64 weL) := by
  have hl := pow_len (p := weL) (.inr (.inr rfl))
  refine called_of_run tbOk 6 ⟨Tryz.func45, rfl, rfl, Nat.le_of_ble_eq_true rfl⟩ ?_
  (conv => whnf)
  (conv => whnf)
  (try simp only [Nat.zero_add])
  repeat ((first | refine V.s1 ?_); (try simp only [Nat.zero_add]))
  refine lp_any (0) (fun k => k ≤ 16) (fun k => 16 - k) (fun k => [(5, .int .i64 k)]) (fun k => [(3, .arr .i64 (takeL weL k))]) ?_ ?_ ?_
  · exact V.wk
  · exact Nat.zero_le _
  intro k hk
  have ht := takeL_len hl hk
  (conv => whnf)
  (try simp only [Nat.zero_add])
  repeat ((first | refine V.s1 ?_); (try simp only [Nat.zero_add]))
  refine Cnd.split (CondB.mk (fun hq => ?_) (fun hq => ?_))
  · have hk2 : k < 16 := by simp at hq; omega
    have hs := takeL_set hl hk2
    (conv => whnf)
    (try simp only [zY7_0])
    repeat ((first | refine V.s1 ?_); (try simp only [zY7_0]))
    rw [tbl_we k hk2] at hs
    (conv => whnf)
    (try simp only [zY7_0, hs])
    repeat ((first | refine V.s1 ?_); (try simp only [zY7_0, hs]))
    exact ⟨(k + 1), by omega, by omega, V.wk⟩
  · have hk2 : k = 16 := by simp at hq; omega
    subst hk2
    rw [takeL_all hl]
    (conv => whnf)
    (try simp only [Nat.zero_add])
    repeat ((first | refine V.s1 ?_); (try simp only [Nat.zero_add]))
    exact Fin.of rfl
theorem powers_no (n : Int) (h : isLt n = false) : Panics Tryz.prog 45 [.int .i64 n] (.iface 114 (.agg #[.int .i64 4])) := by
  unfold isLt at h
  simp only [Bool.or_eq_false_iff, decide_eq_false_iff_not] at h
  have h1 : decide (n = 1) = false := decide_eq_false h.1.1
  have h5 : decide (n = 5) = false := decide_eq_false h.1.2
  have h7 : decide (n = 7) = false := decide_eq_false h.2
  have sp := stop_pan 4 (by decide)
  refine panics_of_run tbOk 6 ⟨Tryz.func45, rfl, rfl, Nat.le_of_ble_eq_true rfl⟩ ?_
  (conv => whnf)
  (conv => whnf)
  (try simp only [Nat.zero_add])
  repeat ((first | refine V.s1 ?_); (try simp only [Nat.zero_add]))
  refine lp_any (0) (fun k => k = 0) (fun k => k) (fun k => [(5, .int .i64 k)]) (fun k => []) ?_ ?_ ?_
  · exact V.wk
  · rfl
  intro k hk
  subst hk
  simp only [yk0]
  (conv => whnf)
  (try simp only [Nat.zero_add, h1, h5, h7])
  repeat ((first | refine V.s1 ?_); (try simp only [Nat.zero_add, h1, h5, h7]))
  refine .pan ?_
  (conv => whnf)
  refine ⟨_, sp, ?_⟩
  (conv => whnf)
theorem obs_x (x y z a b : Int) : Called Tryz.prog 87 [.agg [.int .i64 x, .int .i64 y, .int .i64 z, .int .i64 a, .int .i64 b]] (.int .i64 x) := by
  refine called_of_run tbOk 6 ⟨Tryz.func87, rfl, rfl, Nat.le_of_ble_eq_true rfl⟩ ?_
  (conv => whnf)
  refine V.st ?_
  exact Fin.of rfl
theorem obs_y (x y z a b : Int) : Called Tryz.prog 88 [.agg [.int .i64 x, .int .i64 y, .int .i64 z, .int .i64 a, .int .i64 b]] (.int .i64 y) := by
  refine called_of_run tbOk 6 ⟨Tryz.func88, rfl, rfl, Nat.le_of_ble_eq_true rfl⟩ ?_
  (conv => whnf)
  refine V.st ?_
  exact Fin.of rfl
theorem obs_z (x y z a b : Int) : Called Tryz.prog 89 [.agg [.int .i64 x, .int .i64 y, .int .i64 z, .int .i64 a, .int .i64 b]] (.int .i64 z) := by
  refine called_of_run tbOk 6 ⟨Tryz.func89, rfl, rfl, Nat.le_of_ble_eq_true rfl⟩ ?_
  (conv => whnf)
  refine V.st ?_
  exact Fin.of rfl
end Go.Proofs.YtpcpgjcdkgcbpaaGreatDoor
end
section
namespace Go.Proofs.YtpcpgjcdkgcbpaaGreatDoor
open Go Go.V Go.Nb
def ipL (p : List Int) : List D := [.int .i64 (tbl p 0), .int .i64 (tbl p 1), .int .i64 (tbl p 2), .int .i64 (tbl p 3), .int .i64 (tbl p 4), .int .i64 (tbl p 5), .int .i64 (tbl p 6), .int .i64 (tbl p 7), .int .i64 (tbl p 8), .int .i64 (tbl p 9), .int .i64 (tbl p 10), .int .i64 (tbl p 11), .int .i64 (tbl p 12), .int .i64 (tbl p 13), .int .i64 (tbl p 14), .int .i64 (tbl p 15)]
theorem ip_take (p : List Int) : ∀ k, k < 16 → ((ipL p).drop k).take 1 = [.int .i64 (tbl p k)] := lt16 rfl rfl rfl rfl rfl rfl rfl rfl rfl rfl rfl rfl rfl rfl rfl rfl
theorem ip_len (p : List Int) : (ipL p).length = 16 := rfl
theorem ints_at {p : List Int} {k : Nat} {K : List D → Prop} (hk : k < 16) (h : K [.int .i64 (tbl p k)]) : dropK (ipL p) k fun ds => takeK ds 1 K :=
  dropK_in (by rw [ip_len]; omega) (takeK_in (by rw [List.length_drop, ip_len]; omega) (by rw [ip_take p k hk]; exact h))
theorem zY8_0 : type_of% @Int.toNat_natCast ∧ type_of% @Nat.mul_one ∧ type_of% @Nat.zero_add := ⟨@Int.toNat_natCast, @Nat.mul_one, @Nat.zero_add⟩
theorem part_x (p : List Int) (f T W M : Nat → Tx) (K R : Tx) (hw : ∀ k, k < 16 → InR .i64 (tbl p k * tbl wxL k)) (nd : ∀ a b, Called Tryz.prog 47 [.agg [.str a, .str b], .int .i64 0] (.agg [.str a, .str b]))
    (oz : Called Tryz.prog 48 [.int .i64 0, .int .i64 1] (.tup [.agg [.str (T 0).1, .str (T 0).2], .int .i64 0]))
    (cw : ∀ k, k < 16 → Called Tryz.prog 48 [.int .i64 (tbl p k * tbl wxL k), .int .i64 1] (.tup [.agg [.str (W k).1, .str (W k).2], .int .i64 0]))
    (cm : ∀ k, k < 16 → Called Tryz.prog 31 [.agg [.str (W k).1, .str (W k).2], .agg [.str (f k).1, .str (f k).2]] (.tup [.agg [.str (M k).1, .str (M k).2], .int .i64 0]))
    (ca : ∀ k, k < 16 → Called Tryz.prog 21 [.agg [.str (T k).1, .str (T k).2], .agg [.str (M k).1, .str (M k).2]] (.tup [.agg [.str (T (k + 1)).1, .str (T (k + 1)).2], .int .i64 0]))
    (cd : Called Tryz.prog 86 [.agg [.str (T 16).1, .str (T 16).2], .agg [.str K.1, .str K.2]] (.tup [.agg [.str R.1, .str R.2], .int .i64 0])) :
    Called Tryz.prog 85 [.fn 87 [] [], .ref (ipL p), .ref (spL f), .ref [.str K.1, .str K.2]] (.agg [.str R.1, .str R.2]) := by
  have ob := obs_x
  refine called_of_run tbOk 6 ⟨Tryz.func85, rfl, rfl, Nat.le_of_ble_eq_true rfl⟩ ?_
  (conv => whnf)
  (conv => whnf)
  (try simp only [Nat.zero_add])
  repeat ((first | refine V.s1 ?_ | ((try ((with_reducible refine .ext ?_); (conv => whnf); (try simp only [Nat.zero_add]))); (with_reducible refine call_intro (r := ?_) ?_ ?_); rotate_left; (focus (first | exact (oz) | exact (nd _ _))); (conv => whnf))); (try simp only [Nat.zero_add]))
  refine lp_any (0) (fun k => k ≤ 16) (fun k => 16 - k) (fun k => [(13, .int .i64 k)]) (fun k => [(6, .box [.str (T k).1, .str (T k).2])]) ?_ ?_ ?_
  · exact V.wk
  · exact Nat.zero_le _
  intro k hk
  (conv => whnf)
  (try simp only [Nat.zero_add])
  repeat ((first | refine V.s1 ?_); (try simp only [Nat.zero_add]))
  refine Cnd.split (CondB.mk (fun hq => ?_) (fun hq => ?_))
  · have hk2 : k < 16 := by simp at hq; omega
    have hwk := hw k hk2
    have cwk := cw k hk2
    have cmk := cm k hk2
    have cak := ca k hk2
    clear hw cw cm ca
    have hz1 : 0 ≤ (k : Int) := by omega
    have hz2 : (k : Int) < ((16 : Nat) : Int) := by omega
    (conv => whnf)
    (try simp only [zY8_0])
    repeat ((first | refine V.s1 ?_); (try simp only [zY8_0]))
    refine ⟨(.take 0 (.take 1 (.take 2 (.take 3 (.take 4 (.take 5 (.take 6 (.ev (.cons 7 [2, 1, 0] (.take 8 (.ev (.cons 9 [] (.take 10 (.take 11 (.ev (.cons 12 [] (.ev (.cons 13 [] (.ev (.cons 14 [] (.done) (.nil))) (.nil))) (.cons 13 [11, 10] (.ev (.cons 12 [] (.ev (.cons 14 [] (.done) (.nil))) (.nil))) (.nil)))))) (.cons 13 [8, 2, 1, 0] (.ev (.cons 9 [] (.take 10 (.take 11 (.ev (.cons 12 [] (.ev (.cons 14 [] (.done) (.nil))) (.nil))))) (.nil))) (.nil))))) (.cons 13 [6, 5, 4, 3, 2, 1, 0] (.ev (.cons 7 [2, 1, 0] (.take 8 (.ev (.cons 9 [] (.take 10 (.take 11 (.ev (.cons 12 [] (.ev (.cons 14 [] (.done) (.nil))) (.nil))))) (.nil)))) (.nil))) (.nil))))))))))), [], ⟨by kernel_rfl, by kernel_rfl, by kernel_rfl, by kernel_rfl⟩, ?_⟩
    refine drw_meet [(8, .box 8 0)] [(8, .box [.str (W k).1, .str (W k).2])] ?_ ?_
    · (conv => whnf); (try simp only [zY8_0])
      repeat' (first | exact V.wk | ((with_reducible refine And.intro ?_ draw_nil); (conv => whnf); (try simp only [zY8_0])) | ((with_reducible first | refine draw_split ?_ ?_ | refine nds_split ?_ ?_) <;> (conv => whnf); (try simp only [zY8_0])) | ((first | refine V.s1 ?_ | ((with_reducible refine recheck_and ?_ ?_); (focus ((conv => whnf); (try simp only [zY8_0]); (repeat ((first | refine V.s1 ?_ | ((refine wav_at hk2 ?_); (conv => whnf)) | ((refine ints_at hk2 ?_); (conv => whnf))); (try simp only [zY8_0]))); exact ⟨rfl⟩)); (conv => whnf)) | ((try ((with_reducible refine .ext ?_); (conv => whnf); (try simp only [zY8_0]))); (with_reducible refine call_intro (r := ?_) ?_ ?_); rotate_left; (focus (first | exact (ob _ _ _ _ _) | exact (cwk) | exact (nd _ _))); (conv => whnf)) | ((refine wav_at hk2 ?_); (conv => whnf)) | ((refine ints_at hk2 ?_); (conv => whnf))); (try simp only [zY8_0])) | (refine And.intro ?_ ?_ <;> (conv => whnf); (try simp only [zY8_0])))
    (conv => whnf)
    (try simp only [zY8_0])
    repeat ((first | refine V.s1 ?_); (try simp only [zY8_0]))
    refine ⟨(.take 0 (.take 1 (.take 2 (.take 3 (.take 4 (.ev (.cons 5 [0] (.take 6 (.take 7 (.ev (.cons 8 [0] (.ev (.cons 9 [] (.take 10 (.take 11 (.ev (.cons 12 [] (.ev (.cons 13 [] (.done) (.nil))) (.nil))))) (.nil))) (.nil))))) (.nil)))))))), [], ⟨by kernel_rfl, by kernel_rfl, by kernel_rfl, by kernel_rfl⟩, ?_⟩
    refine drw_meet [] [(6, .box [.str (T (k + 1)).1, .str (T (k + 1)).2])] ?_ ?_
    · (conv => whnf); (try simp only [zY8_0])
      repeat' (first | exact V.wk | ((with_reducible refine And.intro ?_ draw_nil); (conv => whnf); (try simp only [zY8_0])) | ((with_reducible first | refine draw_split ?_ ?_ | refine nds_split ?_ ?_) <;> (conv => whnf); (try simp only [zY8_0])) | ((first | refine V.s1 ?_ | ((with_reducible refine recheck_and ?_ ?_); (focus ((conv => whnf); (try simp only [zY8_0]); (repeat ((first | refine V.s1 ?_ | ((refine sp_at hk2 ?_); (conv => whnf))); (try simp only [zY8_0]))); exact ⟨rfl⟩)); (conv => whnf)) | ((try ((with_reducible refine .ext ?_); (conv => whnf); (try simp only [zY8_0]))); (with_reducible refine call_intro (r := ?_) ?_ ?_); rotate_left; (focus (first | exact (cmk) | exact (cak) | exact (nd _ _))); (conv => whnf)) | ((refine sp_at hk2 ?_); (conv => whnf))); (try simp only [zY8_0])) | (refine And.intro ?_ ?_ <;> (conv => whnf); (try simp only [zY8_0])))
    (conv => whnf)
    (try simp only [zY8_0])
    repeat ((first | refine V.s1 ?_); (try simp only [zY8_0]))
    exact ⟨(k + 1), by omega, by omega, V.wk⟩
  · have hk2 : k = 16 := by simp at hq; omega
    subst hk2
    (conv => whnf)
    (try simp only [Nat.zero_add])
    repeat ((first | refine V.s1 ?_ | ((try ((with_reducible refine .ext ?_); (conv => whnf); (try simp only [Nat.zero_add]))); (with_reducible refine call_intro (r := ?_) ?_ ?_); rotate_left; (focus (first | exact (cd) | exact (nd _ _))); (conv => whnf))); (try simp only [Nat.zero_add]))
    exact Fin.of rfl
theorem part_y (p : List Int) (f T W M : Nat → Tx) (K R : Tx) (hw : ∀ k, k < 16 → InR .i64 (tbl p k * tbl wyL k)) (nd : ∀ a b, Called Tryz.prog 47 [.agg [.str a, .str b], .int .i64 0] (.agg [.str a, .str b]))
    (oz : Called Tryz.prog 48 [.int .i64 0, .int .i64 1] (.tup [.agg [.str (T 0).1, .str (T 0).2], .int .i64 0]))
    (cw : ∀ k, k < 16 → Called Tryz.prog 48 [.int .i64 (tbl p k * tbl wyL k), .int .i64 1] (.tup [.agg [.str (W k).1, .str (W k).2], .int .i64 0]))
    (cm : ∀ k, k < 16 → Called Tryz.prog 31 [.agg [.str (W k).1, .str (W k).2], .agg [.str (f k).1, .str (f k).2]] (.tup [.agg [.str (M k).1, .str (M k).2], .int .i64 0]))
    (ca : ∀ k, k < 16 → Called Tryz.prog 21 [.agg [.str (T k).1, .str (T k).2], .agg [.str (M k).1, .str (M k).2]] (.tup [.agg [.str (T (k + 1)).1, .str (T (k + 1)).2], .int .i64 0]))
    (cd : Called Tryz.prog 86 [.agg [.str (T 16).1, .str (T 16).2], .agg [.str K.1, .str K.2]] (.tup [.agg [.str R.1, .str R.2], .int .i64 0])) :
    Called Tryz.prog 85 [.fn 88 [] [], .ref (ipL p), .ref (spL f), .ref [.str K.1, .str K.2]] (.agg [.str R.1, .str R.2]) := by
  have ob := obs_y
  refine called_of_run tbOk 6 ⟨Tryz.func85, rfl, rfl, Nat.le_of_ble_eq_true rfl⟩ ?_
  (conv => whnf)
  (conv => whnf)
  (try simp only [Nat.zero_add])
  repeat ((first | refine V.s1 ?_ | ((try ((with_reducible refine .ext ?_); (conv => whnf); (try simp only [Nat.zero_add]))); (with_reducible refine call_intro (r := ?_) ?_ ?_); rotate_left; (focus (first | exact (oz) | exact (nd _ _))); (conv => whnf))); (try simp only [Nat.zero_add]))
  refine lp_any (0) (fun k => k ≤ 16) (fun k => 16 - k) (fun k => [(13, .int .i64 k)]) (fun k => [(6, .box [.str (T k).1, .str (T k).2])]) ?_ ?_ ?_
  · exact V.wk
  · exact Nat.zero_le _
  intro k hk
  (conv => whnf)
  (try simp only [Nat.zero_add])
  repeat ((first | refine V.s1 ?_); (try simp only [Nat.zero_add]))
  refine Cnd.split (CondB.mk (fun hq => ?_) (fun hq => ?_))
  · have hk2 : k < 16 := by simp at hq; omega
    have hwk := hw k hk2
    have cwk := cw k hk2
    have cmk := cm k hk2
    have cak := ca k hk2
    clear hw cw cm ca
    have hz1 : 0 ≤ (k : Int) := by omega
    have hz2 : (k : Int) < ((16 : Nat) : Int) := by omega
    (conv => whnf)
    (try simp only [zY8_0])
    repeat ((first | refine V.s1 ?_); (try simp only [zY8_0]))
    refine ⟨(.take 0 (.take 1 (.take 2 (.take 3 (.take 4 (.take 5 (.take 6 (.ev (.cons 7 [2, 1, 0] (.take 8 (.ev (.cons 9 [] (.take 10 (.take 11 (.ev (.cons 12 [] (.ev (.cons 13 [] (.ev (.cons 14 [] (.done) (.nil))) (.nil))) (.cons 13 [11, 10] (.ev (.cons 12 [] (.ev (.cons 14 [] (.done) (.nil))) (.nil))) (.nil)))))) (.cons 13 [8, 2, 1, 0] (.ev (.cons 9 [] (.take 10 (.take 11 (.ev (.cons 12 [] (.ev (.cons 14 [] (.done) (.nil))) (.nil))))) (.nil))) (.nil))))) (.cons 13 [6, 5, 4, 3, 2, 1, 0] (.ev (.cons 7 [2, 1, 0] (.take 8 (.ev (.cons 9 [] (.take 10 (.take 11 (.ev (.cons 12 [] (.ev (.cons 14 [] (.done) (.nil))) (.nil))))) (.nil)))) (.nil))) (.nil))))))))))), [], ⟨by kernel_rfl, by kernel_rfl, by kernel_rfl, by kernel_rfl⟩, ?_⟩
    refine drw_meet [(8, .box 8 0)] [(8, .box [.str (W k).1, .str (W k).2])] ?_ ?_
    · (conv => whnf); (try simp only [zY8_0])
      repeat' (first | exact V.wk | ((with_reducible refine And.intro ?_ draw_nil); (conv => whnf); (try simp only [zY8_0])) | ((with_reducible first | refine draw_split ?_ ?_ | refine nds_split ?_ ?_) <;> (conv => whnf); (try simp only [zY8_0])) | ((first | refine V.s1 ?_ | ((with_reducible refine recheck_and ?_ ?_); (focus ((conv => whnf); (try simp only [zY8_0]); (repeat ((first | refine V.s1 ?_ | ((refine wav_at hk2 ?_); (conv => whnf)) | ((refine ints_at hk2 ?_); (conv => whnf))); (try simp only [zY8_0]))); exact ⟨rfl⟩)); (conv => whnf)) | ((try ((with_reducible refine .ext ?_); (conv => whnf); (try simp only [zY8_0]))); (with_reducible refine call_intro (r := ?_) ?_ ?_); rotate_left; (focus (first | exact (ob _ _ _ _ _) | exact (cwk) | exact (nd _ _))); (conv => whnf)) | ((refine wav_at hk2 ?_); (conv => whnf)) | ((refine ints_at hk2 ?_); (conv => whnf))); (try simp only [zY8_0])) | (refine And.intro ?_ ?_ <;> (conv => whnf); (try simp only [zY8_0])))
    (conv => whnf)
    (try simp only [zY8_0])
    repeat ((first | refine V.s1 ?_); (try simp only [zY8_0]))
    refine ⟨(.take 0 (.take 1 (.take 2 (.take 3 (.take 4 (.ev (.cons 5 [0] (.take 6 (.take 7 (.ev (.cons 8 [0] (.ev (.cons 9 [] (.take 10 (.take 11 (.ev (.cons 12 [] (.ev (.cons 13 [] (.done) (.nil))) (.nil))))) (.nil))) (.nil))))) (.nil)))))))), [], ⟨by kernel_rfl, by kernel_rfl, by kernel_rfl, by kernel_rfl⟩, ?_⟩
    refine drw_meet [] [(6, .box [.str (T (k + 1)).1, .str (T (k + 1)).2])] ?_ ?_
    · (conv => whnf); (try simp only [zY8_0])
      repeat' (first | exact V.wk | ((with_reducible refine And.intro ?_ draw_nil); (conv => whnf); (try simp only [zY8_0])) | ((with_reducible first | refine draw_split ?_ ?_ | refine nds_split ?_ ?_) <;> (conv => whnf); (try simp only [zY8_0])) | ((first | refine V.s1 ?_ | ((with_reducible refine recheck_and ?_ ?_); (focus ((conv => whnf); (try simp only [zY8_0]); (repeat ((first | refine V.s1 ?_ | ((refine sp_at hk2 ?_); (conv => whnf))); (try simp only [zY8_0]))); exact ⟨rfl⟩)); (conv => whnf)) | ((try ((with_reducible refine .ext ?_); (conv => whnf); (try simp only [zY8_0]))); (with_reducible refine call_intro (r := ?_) ?_ ?_); rotate_left; (focus (first | exact (cmk) | exact (cak) | exact (nd _ _))); (conv => whnf)) | ((refine sp_at hk2 ?_); (conv => whnf))); (try simp only [zY8_0])) | (refine And.intro ?_ ?_ <;> (conv => whnf); (try simp only [zY8_0])))
    (conv => whnf)
    (try simp only [zY8_0])
    repeat ((first | refine V.s1 ?_); (try simp only [zY8_0]))
    exact ⟨(k + 1), by omega, by omega, V.wk⟩
  · have hk2 : k = 16 := by simp at hq; omega
    subst hk2
    (conv => whnf)
    (try simp only [Nat.zero_add])
    repeat ((first | refine V.s1 ?_ | ((try ((with_reducible refine .ext ?_); (conv => whnf); (try simp only [Nat.zero_add]))); (with_reducible refine call_intro (r := ?_) ?_ ?_); rotate_left; (focus (first | exact (cd) | exact (nd _ _))); (conv => whnf))); (try simp only [Nat.zero_add]))
    exact Fin.of rfl
theorem part_z (p : List Int) (f T W M : Nat → Tx) (K R : Tx) (hw : ∀ k, k < 16 → InR .i64 (tbl p k * tbl wzL k)) (nd : ∀ a b, Called Tryz.prog 47 [.agg [.str a, .str b], .int .i64 0] (.agg [.str a, .str b]))
    (oz : Called Tryz.prog 48 [.int .i64 0, .int .i64 1] (.tup [.agg [.str (T 0).1, .str (T 0).2], .int .i64 0]))
    (cw : ∀ k, k < 16 → Called Tryz.prog 48 [.int .i64 (tbl p k * tbl wzL k), .int .i64 1] (.tup [.agg [.str (W k).1, .str (W k).2], .int .i64 0]))
    (cm : ∀ k, k < 16 → Called Tryz.prog 31 [.agg [.str (W k).1, .str (W k).2], .agg [.str (f k).1, .str (f k).2]] (.tup [.agg [.str (M k).1, .str (M k).2], .int .i64 0]))
    (ca : ∀ k, k < 16 → Called Tryz.prog 21 [.agg [.str (T k).1, .str (T k).2], .agg [.str (M k).1, .str (M k).2]] (.tup [.agg [.str (T (k + 1)).1, .str (T (k + 1)).2], .int .i64 0]))
    (cd : Called Tryz.prog 86 [.agg [.str (T 16).1, .str (T 16).2], .agg [.str K.1, .str K.2]] (.tup [.agg [.str R.1, .str R.2], .int .i64 0])) :
    Called Tryz.prog 85 [.fn 89 [] [], .ref (ipL p), .ref (spL f), .ref [.str K.1, .str K.2]] (.agg [.str R.1, .str R.2]) := by
  have ob := obs_z
  refine called_of_run tbOk 6 ⟨Tryz.func85, rfl, rfl, Nat.le_of_ble_eq_true rfl⟩ ?_
  (conv => whnf)
  (conv => whnf)
  (try simp only [Nat.zero_add])
  repeat ((first | refine V.s1 ?_ | ((try ((with_reducible refine .ext ?_); (conv => whnf); (try simp only [Nat.zero_add]))); (with_reducible refine call_intro (r := ?_) ?_ ?_); rotate_left; (focus (first | exact (oz) | exact (nd _ _))); (conv => whnf))); (try simp only [Nat.zero_add]))
  refine lp_any (0) (fun k => k ≤ 16) (fun k => 16 - k) (fun k => [(13, .int .i64 k)]) (fun k => [(6, .box [.str (T k).1, .str (T k).2])]) ?_ ?_ ?_
  · exact V.wk
  · exact Nat.zero_le _
  intro k hk
  (conv => whnf)
  (try simp only [Nat.zero_add])
  repeat ((first | refine V.s1 ?_); (try simp only [Nat.zero_add]))
  refine Cnd.split (CondB.mk (fun hq => ?_) (fun hq => ?_))
  · have hk2 : k < 16 := by simp at hq; omega
    have hwk := hw k hk2
    have cwk := cw k hk2
    have cmk := cm k hk2
    have cak := ca k hk2
    clear hw cw cm ca
    have hz1 : 0 ≤ (k : Int) := by omega
    have hz2 : (k : Int) < ((16 : Nat) : Int) := by omega
    (conv => whnf)
    (try simp only [zY8_0])
    repeat ((first | refine V.s1 ?_); (try simp only [zY8_0]))
    refine ⟨(.take 0 (.take 1 (.take 2 (.take 3 (.take 4 (.take 5 (.take 6 (.ev (.cons 7 [2, 1, 0] (.take 8 (.ev (.cons 9 [] (.take 10 (.take 11 (.ev (.cons 12 [] (.ev (.cons 13 [] (.ev (.cons 14 [] (.done) (.nil))) (.nil))) (.cons 13 [11, 10] (.ev (.cons 12 [] (.ev (.cons 14 [] (.done) (.nil))) (.nil))) (.nil)))))) (.cons 13 [8, 2, 1, 0] (.ev (.cons 9 [] (.take 10 (.take 11 (.ev (.cons 12 [] (.ev (.cons 14 [] (.done) (.nil))) (.nil))))) (.nil))) (.nil))))) (.cons 13 [6, 5, 4, 3, 2, 1, 0] (.ev (.cons 7 [2, 1, 0] (.take 8 (.ev (.cons 9 [] (.take 10 (.take 11 (.ev (.cons 12 [] (.ev (.cons 14 [] (.done) (.nil))) (.nil))))) (.nil)))) (.nil))) (.nil))))))))))), [], ⟨by kernel_rfl, by kernel_rfl, by kernel_rfl, by kernel_rfl⟩, ?_⟩
    refine drw_meet [(8, .box 8 0)] [(8, .box [.str (W k).1, .str (W k).2])] ?_ ?_
    · (conv => whnf); (try simp only [zY8_0])
      repeat' (first | exact V.wk | ((with_reducible refine And.intro ?_ draw_nil); (conv => whnf); (try simp only [zY8_0])) | ((with_reducible first | refine draw_split ?_ ?_ | refine nds_split ?_ ?_) <;> (conv => whnf); (try simp only [zY8_0])) | ((first | refine V.s1 ?_ | ((with_reducible refine recheck_and ?_ ?_); (focus ((conv => whnf); (try simp only [zY8_0]); (repeat ((first | refine V.s1 ?_ | ((refine wav_at hk2 ?_); (conv => whnf)) | ((refine ints_at hk2 ?_); (conv => whnf))); (try simp only [zY8_0]))); exact ⟨rfl⟩)); (conv => whnf)) | ((try ((with_reducible refine .ext ?_); (conv => whnf); (try simp only [zY8_0]))); (with_reducible refine call_intro (r := ?_) ?_ ?_); rotate_left; (focus (first | exact (ob _ _ _ _ _) | exact (cwk) | exact (nd _ _))); (conv => whnf)) | ((refine wav_at hk2 ?_); (conv => whnf)) | ((refine ints_at hk2 ?_); (conv => whnf))); (try simp only [zY8_0])) | (refine And.intro ?_ ?_ <;> (conv => whnf); (try simp only [zY8_0])))
    (conv => whnf)
    (try simp only [zY8_0])
    repeat ((first | refine V.s1 ?_); (try simp only [zY8_0]))
    refine ⟨(.take 0 (.take 1 (.take 2 (.take 3 (.take 4 (.ev (.cons 5 [0] (.take 6 (.take 7 (.ev (.cons 8 [0] (.ev (.cons 9 [] (.take 10 (.take 11 (.ev (.cons 12 [] (.ev (.cons 13 [] (.done) (.nil))) (.nil))))) (.nil))) (.nil))))) (.nil)))))))), [], ⟨by kernel_rfl, by kernel_rfl, by kernel_rfl, by kernel_rfl⟩, ?_⟩
    refine drw_meet [] [(6, .box [.str (T (k + 1)).1, .str (T (k + 1)).2])] ?_ ?_
    · (conv => whnf); (try simp only [zY8_0])
      repeat' (first | exact V.wk | ((with_reducible refine And.intro ?_ draw_nil); (conv => whnf); (try simp only [zY8_0])) | ((with_reducible first | refine draw_split ?_ ?_ | refine nds_split ?_ ?_) <;> (conv => whnf); (try simp only [zY8_0])) | ((first | refine V.s1 ?_ | ((with_reducible refine recheck_and ?_ ?_); (focus ((conv => whnf); (try simp only [zY8_0]); (repeat ((first | refine V.s1 ?_ | ((refine sp_at hk2 ?_); (conv => whnf))); (try simp only [zY8_0]))); exact ⟨rfl⟩)); (conv => whnf)) | ((try ((with_reducible refine .ext ?_); (conv => whnf); (try simp only [zY8_0]))); (with_reducible refine call_intro (r := ?_) ?_ ?_); rotate_left; (focus (first | exact (cmk) | exact (cak) | exact (nd _ _))); (conv => whnf)) | ((refine sp_at hk2 ?_); (conv => whnf))); (try simp only [zY8_0])) | (refine And.intro ?_ ?_ <;> (conv => whnf); (try simp only [zY8_0])))
    (conv => whnf)
    (try simp only [zY8_0])
    repeat ((first | refine V.s1 ?_); (try simp only [zY8_0]))
    exact ⟨(k + 1), by omega, by omega, V.wk⟩
  · have hk2 : k = 16 := by simp at hq; omega
    subst hk2
    (conv => whnf)
    (try simp only [Nat.zero_add])
    repeat ((first | refine V.s1 ?_ | ((try ((with_reducible refine .ext ?_); (conv => whnf); (try simp only [Nat.zero_add]))); (with_reducible refine call_intro (r := ?_) ?_ ?_); rotate_left; (focus (first | exact (cd) | exact (nd _ _))); (conv => whnf))); (try simp only [Nat.zero_add]))
    exact Fin.of rfl
end Go.Proofs.YtpcpgjcdkgcbpaaGreatDoor
end
section
namespace Go.Proofs.YtpcpgjcdkgcbpaaGreatDoor
open Go Go.V Go.Nb
theorem qS_lt {f : Nat → Tx} {k : Nat} (h : k < 16) : qS f k = qX (f k) := if_pos h
theorem fq_qS {f : Nat → Tx} (hf : ∀ k, k < 16 → okX (f k) = true) (bf : BdS 20 f) (k : Nat) : Fq 20 (qS f k) := by
  unfold qS
  by_cases h : k < 16
  · rw [if_pos h]; exact (bf k).2 (hf k h)
  · rw [if_neg h]; exact y_zero.mono (by omega)
theorem divInt_num1 (z : Int) : (Rat.divInt z 1).num = z := by
  rw [Rat.num_divInt]
  simp
theorem fqK {p : List Int} (hp : isPow p) : Fq 15 (Rat.divInt (allP p 16) 1) := by
  have hK := allP_bd hp 16 (by omega)
  have := fq_divInt (n := 15) (x := allP p 16) (d := 1) (by omega) (by omega) (by decide)
  exact this
theorem partq_x {p : List Int} (hp : isPow p) {f : Nat → Tx} (hf : ∀ k, k < 16 → okX (f k) = true) (bf : BdS 20 f) :
    Called Tryz.prog 85 [.fn 87 [] [], .ref (ipL p), .ref (spL f), .ref [.str (decZ (Rat.divInt (allP p 16) 1).num), .str (dec (Rat.divInt (allP p 16) 1).den)]] (frT (colP p wxL (qS f))) := by
  have ho : isObs wxL := by unfold isObs; simp
  have hw : ∀ k, k < 16 → InR .i64 (tbl p k * tbl wxL k) := fun k _ => by
    have := wgt_bd hp ho k
    unfold wgt at this
    simp only [InR, V.lo, V.hi]
    omega
  have fs : ∀ k, Fq 20 (qS f k) := fq_qS hf bf
  have fw : ∀ k, Fq 13 (Rat.divInt (wgt p wxL k) 1) := fun k => by
    have := fq_divInt (n := 13) (x := wgt p wxL k) (d := 1) (by omega) (wgt_bd hp ho k).1 (by decide)
    exact this
  have ft := fq_sw (w := wgt p wxL) (s := qS f) (m := 20) (fun k => (wgt_bd hp ho k).1) fs
  have hK0 := allP_pos hp
  have nK : (Rat.divInt (allP p 16) 1).num ≠ 0 := by rw [divInt_num1]; omega
  have oz := y_of (n := 0) (m := 1) (by omega) (by omega)
  rw [Rat.zero_divInt] at oz
  have c := part_x p f (fun k => xT (sw (wgt p wxL) (qS f) k)) (fun k => xT (Rat.divInt (wgt p wxL k) 1)) (fun k => xT (Rat.divInt (wgt p wxL k) 1 * qS f k)) (xT (Rat.divInt (allP p 16) 1)) (xT (colP p wxL (qS f))) hw need_ok oz
    (fun k hk => by
      have := wgt_bd hp ho k
      exact y_of (n := wgt p wxL k) (m := 1) (by omega) (by omega))
    (fun k hk => by
      have e := txD_q (hf k hk)
      have m := zmul (fw k) (fs k) (by omega) (by omega) (by omega)
      rw [qS_lt hk] at m ⊢
      rw [← e] at m
      exact m)
    (fun k hk => zadd (ft k) ((fw k).mul (fs k)) (by omega) (by omega) (by omega))
    (zdiv (ft 16) (fqK hp) nK (by omega) (by omega) (by omega))
  exact c
theorem partq_y {p : List Int} (hp : isPow p) {f : Nat → Tx} (hf : ∀ k, k < 16 → okX (f k) = true) (bf : BdS 20 f) :
    Called Tryz.prog 85 [.fn 88 [] [], .ref (ipL p), .ref (spL f), .ref [.str (decZ (Rat.divInt (allP p 16) 1).num), .str (dec (Rat.divInt (allP p 16) 1).den)]] (frT (colP p wyL (qS f))) := by
  have ho : isObs wyL := by unfold isObs; simp
  have hw : ∀ k, k < 16 → InR .i64 (tbl p k * tbl wyL k) := fun k _ => by
    have := wgt_bd hp ho k
    unfold wgt at this
    simp only [InR, V.lo, V.hi]
    omega
  have fs : ∀ k, Fq 20 (qS f k) := fq_qS hf bf
  have fw : ∀ k, Fq 13 (Rat.divInt (wgt p wyL k) 1) := fun k => by
    have := fq_divInt (n := 13) (x := wgt p wyL k) (d := 1) (by omega) (wgt_bd hp ho k).1 (by decide)
    exact this
  have ft := fq_sw (w := wgt p wyL) (s := qS f) (m := 20) (fun k => (wgt_bd hp ho k).1) fs
  have hK0 := allP_pos hp
  have nK : (Rat.divInt (allP p 16) 1).num ≠ 0 := by rw [divInt_num1]; omega
  have oz := y_of (n := 0) (m := 1) (by omega) (by omega)
  rw [Rat.zero_divInt] at oz
  have c := part_y p f (fun k => xT (sw (wgt p wyL) (qS f) k)) (fun k => xT (Rat.divInt (wgt p wyL k) 1)) (fun k => xT (Rat.divInt (wgt p wyL k) 1 * qS f k)) (xT (Rat.divInt (allP p 16) 1)) (xT (colP p wyL (qS f))) hw need_ok oz
    (fun k hk => by
      have := wgt_bd hp ho k
      exact y_of (n := wgt p wyL k) (m := 1) (by omega) (by omega))
    (fun k hk => by
      have e := txD_q (hf k hk)
      have m := zmul (fw k) (fs k) (by omega) (by omega) (by omega)
      rw [qS_lt hk] at m ⊢
      rw [← e] at m
      exact m)
    (fun k hk => zadd (ft k) ((fw k).mul (fs k)) (by omega) (by omega) (by omega))
    (zdiv (ft 16) (fqK hp) nK (by omega) (by omega) (by omega))
  exact c
theorem partq_z {p : List Int} (hp : isPow p) {f : Nat → Tx} (hf : ∀ k, k < 16 → okX (f k) = true) (bf : BdS 20 f) :
    Called Tryz.prog 85 [.fn 89 [] [], .ref (ipL p), .ref (spL f), .ref [.str (decZ (Rat.divInt (allP p 16) 1).num), .str (dec (Rat.divInt (allP p 16) 1).den)]] (frT (colP p wzL (qS f))) := by
  have ho : isObs wzL := by unfold isObs; simp
  have hw : ∀ k, k < 16 → InR .i64 (tbl p k * tbl wzL k) := fun k _ => by
    have := wgt_bd hp ho k
    unfold wgt at this
    simp only [InR, V.lo, V.hi]
    omega
  have fs : ∀ k, Fq 20 (qS f k) := fq_qS hf bf
  have fw : ∀ k, Fq 13 (Rat.divInt (wgt p wzL k) 1) := fun k => by
    have := fq_divInt (n := 13) (x := wgt p wzL k) (d := 1) (by omega) (wgt_bd hp ho k).1 (by decide)
    exact this
  have ft := fq_sw (w := wgt p wzL) (s := qS f) (m := 20) (fun k => (wgt_bd hp ho k).1) fs
  have hK0 := allP_pos hp
  have nK : (Rat.divInt (allP p 16) 1).num ≠ 0 := by rw [divInt_num1]; omega
  have oz := y_of (n := 0) (m := 1) (by omega) (by omega)
  rw [Rat.zero_divInt] at oz
  have c := part_z p f (fun k => xT (sw (wgt p wzL) (qS f) k)) (fun k => xT (Rat.divInt (wgt p wzL k) 1)) (fun k => xT (Rat.divInt (wgt p wzL k) 1 * qS f k)) (xT (Rat.divInt (allP p 16) 1)) (xT (colP p wzL (qS f))) hw need_ok oz
    (fun k hk => by
      have := wgt_bd hp ho k
      exact y_of (n := wgt p wzL k) (m := 1) (by omega) (by omega))
    (fun k hk => by
      have e := txD_q (hf k hk)
      have m := zmul (fw k) (fs k) (by omega) (by omega) (by omega)
      rw [qS_lt hk] at m ⊢
      rw [← e] at m
      exact m)
    (fun k hk => zadd (ft k) ((fw k).mul (fs k)) (by omega) (by omega) (by omega))
    (zdiv (ft 16) (fqK hp) nK (by omega) (by omega) (by omega))
  exact c
end Go.Proofs.YtpcpgjcdkgcbpaaGreatDoor
end
section
namespace Go.Proofs.YtpcpgjcdkgcbpaaGreatDoor
open Go Go.V Go.Nb
theorem tbl_f (p : List Int) (k : Nat) : p.getD k 0 = tbl p k := rfl
theorem zY10_0 : type_of% @Int.toNat_natCast ∧ type_of% @Nat.mul_one ∧ type_of% @Nat.zero_add ∧ type_of% @tbl_f := ⟨@Int.toNat_natCast, @Nat.mul_one, @Nat.zero_add, @tbl_f⟩
theorem colt_1 (f : Nat → Tx) (a0 a1 b0 b1 c0 c1 k0 k1 : List UInt8) (o : Called Tryz.prog 48 [.int .i64 (allP waL 16), .int .i64 1] (.tup [.agg [.str k0, .str k1], .int .i64 0]))
    (px : Called Tryz.prog 85 [.fn 87 [] [], .ref (ipL waL), .ref (spL f), .ref [.str k0, .str k1]] (.agg [.str a0, .str a1]))
    (py : Called Tryz.prog 85 [.fn 88 [] [], .ref (ipL waL), .ref (spL f), .ref [.str k0, .str k1]] (.agg [.str b0, .str b1]))
    (pz : Called Tryz.prog 85 [.fn 89 [] [], .ref (ipL waL), .ref (spL f), .ref [.str k0, .str k1]] (.agg [.str c0, .str c1])) :
    Called Tryz.prog 46 [.agg (spL f), .iarr .i64 waL] (.agg [.str a0, .str a1, .str b0, .str b1, .str c0, .str c1]) := by
  have hp : isPow waL := .inl rfl
  have nd := need_ok k0 k1
  obtain ⟨p, hpe⟩ : ∃ p, p = waL := ⟨_, rfl⟩
  have hl := pow_len hp
  rw [← hpe] at hp hl o px py pz ⊢
  refine called_of_run tbOk 6 ⟨Tryz.func46, rfl, rfl, Nat.le_of_ble_eq_true rfl⟩ ?_
  (conv => whnf)
  (conv => whnf)
  (try simp only [Nat.zero_add])
  repeat ((first | refine V.s1 ?_); (try simp only [Nat.zero_add]))
  refine lp_any (0) (fun k => k ≤ 16) (fun k => 16 - k) (fun k => [(9, .int .i64 k), (5, .int .i64 (allP p k))]) (fun k => []) ?_ ?_ ?_
  · exact V.wk
  · exact Nat.zero_le _
  intro k hk
  (conv => whnf)
  (try simp only [Nat.zero_add])
  repeat ((first | refine V.s1 ?_); (try simp only [Nat.zero_add]))
  refine Cnd.split (CondB.mk (fun hq => ?_) (fun hq => ?_))
  · have hk2 : k < 16 := by simp at hq; omega
    have h1 := wgt_bd hp (.inr (.inl rfl)) k
    have h2 := allP_bd hp k (by omega)
    have h3 := allP_bd hp (k + 1) (by omega)
    have e3 : allP p (k + 1) = allP p k + tbl p k * tbl wyL k := rfl
    rw [e3] at h3
    unfold wgt at h1
    have i1 : InR .i64 (tbl p k * tbl wyL k) := by simp only [InR, V.lo, V.hi]; omega
    have i2 : InR .i64 (allP p k + tbl p k * tbl wyL k) := by simp only [InR, V.lo, V.hi]; omega
    have i3 : (k : Int) < p.length := by omega
    clear h1 h2 h3 e3
    (conv => whnf)
    (try simp only [zY10_0])
    repeat ((first | refine V.s1 ?_); (try simp only [zY10_0]))
    refine ⟨(.take 0 (.take 1 (.take 2 (.take 3 (.take 4 (.take 5 (.take 6 (.take 7 (.take 8 (.take 9 (.ev (.cons 10 [] (.done) (.nil))))))))))))), [], ⟨by kernel_rfl, by kernel_rfl, by kernel_rfl, by kernel_rfl⟩, ?_⟩
    refine drw_meet [(5, .int .i64 (allP p (k + 1)))] [] ?_ ?_
    · (conv => whnf); (try simp only [zY10_0])
      repeat' (first | exact V.wk | ((with_reducible refine And.intro ?_ draw_nil); (conv => whnf); (try simp only [zY10_0])) | ((with_reducible first | refine draw_split ?_ ?_ | refine nds_split ?_ ?_) <;> (conv => whnf); (try simp only [zY10_0])) | ((first | refine V.s1 ?_ | ((with_reducible refine recheck_and ?_ ?_); (focus ((conv => whnf); (try simp only [zY10_0]); (repeat ((first | refine V.s1 ?_ | ((refine wav_at hk2 ?_); (conv => whnf))); (try simp only [zY10_0]))); exact ⟨rfl⟩)); (conv => whnf)) | ((try ((with_reducible refine .ext ?_); (conv => whnf); (try simp only [zY10_0]))); (with_reducible refine call_intro (r := ?_) ?_ ?_); rotate_left; (focus (first | fail)); (conv => whnf)) | ((refine wav_at hk2 ?_); (conv => whnf))); (try simp only [zY10_0])) | (refine And.intro ?_ ?_ <;> (conv => whnf); (try simp only [zY10_0])))
    (conv => whnf)
    (try simp only [Nat.zero_add])
    repeat ((first | refine V.s1 ?_); (try simp only [Nat.zero_add]))
    exact ⟨(k + 1), by omega, by omega, V.wk⟩
  · have hk2 : k = 16 := by simp at hq; omega
    subst hk2
    rw [hpe] at o px py pz ⊢
    (conv => whnf)
    (try simp only [Nat.zero_add])
    repeat ((first | refine V.s1 ?_ | ((try ((with_reducible refine .ext ?_); (conv => whnf); (try simp only [Nat.zero_add]))); (with_reducible refine call_intro (r := ?_) ?_ ?_); rotate_left; (focus (first | exact (o) | exact (nd) | exact (px) | exact (py) | exact (pz))); (conv => whnf))); (try simp only [Nat.zero_add]))
    exact Fin.of rfl
theorem colt_5 (f : Nat → Tx) (a0 a1 b0 b1 c0 c1 k0 k1 : List UInt8) (o : Called Tryz.prog 48 [.int .i64 (allP wdL 16), .int .i64 1] (.tup [.agg [.str k0, .str k1], .int .i64 0]))
    (px : Called Tryz.prog 85 [.fn 87 [] [], .ref (ipL wdL), .ref (spL f), .ref [.str k0, .str k1]] (.agg [.str a0, .str a1]))
    (py : Called Tryz.prog 85 [.fn 88 [] [], .ref (ipL wdL), .ref (spL f), .ref [.str k0, .str k1]] (.agg [.str b0, .str b1]))
    (pz : Called Tryz.prog 85 [.fn 89 [] [], .ref (ipL wdL), .ref (spL f), .ref [.str k0, .str k1]] (.agg [.str c0, .str c1])) :
    Called Tryz.prog 46 [.agg (spL f), .iarr .i64 wdL] (.agg [.str a0, .str a1, .str b0, .str b1, .str c0, .str c1]) := by
  have hp : isPow wdL := .inr (.inl rfl)
  have nd := need_ok k0 k1
  obtain ⟨p, hpe⟩ : ∃ p, p = wdL := ⟨_, rfl⟩
  have hl := pow_len hp
  rw [← hpe] at hp hl o px py pz ⊢
  refine called_of_run tbOk 6 ⟨Tryz.func46, rfl, rfl, Nat.le_of_ble_eq_true rfl⟩ ?_
  (conv => whnf)
  (conv => whnf)
  (try simp only [Nat.zero_add])
  repeat ((first | refine V.s1 ?_); (try simp only [Nat.zero_add]))
  refine lp_any (0) (fun k => k ≤ 16) (fun k => 16 - k) (fun k => [(9, .int .i64 k), (5, .int .i64 (allP p k))]) (fun k => []) ?_ ?_ ?_
  · exact V.wk
  · exact Nat.zero_le _
  intro k hk
  (conv => whnf)
  (try simp only [Nat.zero_add])
  repeat ((first | refine V.s1 ?_); (try simp only [Nat.zero_add]))
  refine Cnd.split (CondB.mk (fun hq => ?_) (fun hq => ?_))
  · have hk2 : k < 16 := by simp at hq; omega
    have h1 := wgt_bd hp (.inr (.inl rfl)) k
    have h2 := allP_bd hp k (by omega)
    have h3 := allP_bd hp (k + 1) (by omega)
    have e3 : allP p (k + 1) = allP p k + tbl p k * tbl wyL k := rfl
    rw [e3] at h3
    unfold wgt at h1
    have i1 : InR .i64 (tbl p k * tbl wyL k) := by simp only [InR, V.lo, V.hi]; omega
    have i2 : InR .i64 (allP p k + tbl p k * tbl wyL k) := by simp only [InR, V.lo, V.hi]; omega
    have i3 : (k : Int) < p.length := by omega
    clear h1 h2 h3 e3
    (conv => whnf)
    (try simp only [zY10_0])
    repeat ((first | refine V.s1 ?_); (try simp only [zY10_0]))
    refine ⟨(.take 0 (.take 1 (.take 2 (.take 3 (.take 4 (.take 5 (.take 6 (.take 7 (.take 8 (.take 9 (.ev (.cons 10 [] (.done) (.nil))))))))))))), [], ⟨by kernel_rfl, by kernel_rfl, by kernel_rfl, by kernel_rfl⟩, ?_⟩
    refine drw_meet [(5, .int .i64 (allP p (k + 1)))] [] ?_ ?_
    · (conv => whnf); (try simp only [zY10_0])
      repeat' (first | exact V.wk | ((with_reducible refine And.intro ?_ draw_nil); (conv => whnf); (try simp only [zY10_0])) | ((with_reducible first | refine draw_split ?_ ?_ | refine nds_split ?_ ?_) <;> (conv => whnf); (try simp only [zY10_0])) | ((first | refine V.s1 ?_ | ((with_reducible refine recheck_and ?_ ?_); (focus ((conv => whnf); (try simp only [zY10_0]); (repeat ((first | refine V.s1 ?_ | ((refine wav_at hk2 ?_); (conv => whnf))); (try simp only [zY10_0]))); exact ⟨rfl⟩)); (conv => whnf)) | ((try ((with_reducible refine .ext ?_); (conv => whnf); (try simp only [zY10_0]))); (with_reducible refine call_intro (r := ?_) ?_ ?_); rotate_left; (focus (first | fail)); (conv => whnf)) | ((refine wav_at hk2 ?_); (conv => whnf))); (try simp only [zY10_0])) | (refine And.intro ?_ ?_ <;> (conv => whnf); (try simp only [zY10_0])))
    (conv => whnf)
    (try simp only [Nat.zero_add])
    repeat ((first | refine V.s1 ?_); (try simp only [Nat.zero_add]))
    exact ⟨(k + 1), by omega, by omega, V.wk⟩
  · have hk2 : k = 16 := by simp at hq; omega
    subst hk2
    rw [hpe] at o px py pz ⊢
    (conv => whnf)
    (try simp only [Nat.zero_add])
    repeat ((first | refine V.s1 ?_ | ((try ((with_reducible refine .ext ?_); (conv => whnf); (try simp only [Nat.zero_add]))); (with_reducible refine call_intro (r := ?_) ?_ ?_); rotate_left; (focus (first | exact (o) | exact (nd) | exact (px) | exact (py) | exact (pz))); (conv => whnf))); (try simp only [Nat.zero_add]))
    exact Fin.of rfl
theorem colt_7 (f : Nat → Tx) (a0 a1 b0 b1 c0 c1 k0 k1 : List UInt8) (o : Called Tryz.prog 48 [.int .i64 (allP weL 16), .int .i64 1] (.tup [.agg [.str k0, .str k1], .int .i64 0]))
    (px : Called Tryz.prog 85 [.fn 87 [] [], .ref (ipL weL), .ref (spL f), .ref [.str k0, .str k1]] (.agg [.str a0, .str a1]))
    (py : Called Tryz.prog 85 [.fn 88 [] [], .ref (ipL weL), .ref (spL f), .ref [.str k0, .str k1]] (.agg [.str b0, .str b1]))
    (pz : Called Tryz.prog 85 [.fn 89 [] [], .ref (ipL weL), .ref (spL f), .ref [.str k0, .str k1]] (.agg [.str c0, .str c1])) :
    Called Tryz.prog 46 [.agg (spL f), .iarr .i64 weL] (.agg [.str a0, .str a1, .str b0, .str b1, .str c0, .str c1]) := by
  have hp : isPow weL := .inr (.inr rfl)
  have nd := need_ok k0 k1
  obtain ⟨p, hpe⟩ : ∃ p, p = weL := ⟨_, rfl⟩
  have hl := pow_len hp
  rw [← hpe] at hp hl o px py pz ⊢
  refine called_of_run tbOk 6 ⟨Tryz.func46, rfl, rfl, Nat.le_of_ble_eq_true rfl⟩ ?_
  (conv => whnf)
  (conv => whnf)
  (try simp only [Nat.zero_add])
  repeat ((first | refine V.s1 ?_); (try simp only [Nat.zero_add]))
  refine lp_any (0) (fun k => k ≤ 16) (fun k => 16 - k) (fun k => [(9, .int .i64 k), (5, .int .i64 (allP p k))]) (fun k => []) ?_ ?_ ?_
  · exact V.wk
  · exact Nat.zero_le _
  intro k hk
  (conv => whnf)
  (try simp only [Nat.zero_add])
  repeat ((first | refine V.s1 ?_); (try simp only [Nat.zero_add]))
  refine Cnd.split (CondB.mk (fun hq => ?_) (fun hq => ?_))
  · have hk2 : k < 16 := by simp at hq; omega
    have h1 := wgt_bd hp (.inr (.inl rfl)) k
    have h2 := allP_bd hp k (by omega)
    have h3 := allP_bd hp (k + 1) (by omega)
    have e3 : allP p (k + 1) = allP p k + tbl p k * tbl wyL k := rfl
    rw [e3] at h3
    unfold wgt at h1
    have i1 : InR .i64 (tbl p k * tbl wyL k) := by simp only [InR, V.lo, V.hi]; omega
    have i2 : InR .i64 (allP p k + tbl p k * tbl wyL k) := by simp only [InR, V.lo, V.hi]; omega
    have i3 : (k : Int) < p.length := by omega
    clear h1 h2 h3 e3
    (conv => whnf)
    (try simp only [zY10_0])
    repeat ((first | refine V.s1 ?_); (try simp only [zY10_0]))
    refine ⟨(.take 0 (.take 1 (.take 2 (.take 3 (.take 4 (.take 5 (.take 6 (.take 7 (.take 8 (.take 9 (.ev (.cons 10 [] (.done) (.nil))))))))))))), [], ⟨by kernel_rfl, by kernel_rfl, by kernel_rfl, by kernel_rfl⟩, ?_⟩
    refine drw_meet [(5, .int .i64 (allP p (k + 1)))] [] ?_ ?_
    · (conv => whnf); (try simp only [zY10_0])
      repeat' (first | exact V.wk | ((with_reducible refine And.intro ?_ draw_nil); (conv => whnf); (try simp only [zY10_0])) | ((with_reducible first | refine draw_split ?_ ?_ | refine nds_split ?_ ?_) <;> (conv => whnf); (try simp only [zY10_0])) | ((first | refine V.s1 ?_ | ((with_reducible refine recheck_and ?_ ?_); (focus ((conv => whnf); (try simp only [zY10_0]); (repeat ((first | refine V.s1 ?_ | ((refine wav_at hk2 ?_); (conv => whnf))); (try simp only [zY10_0]))); exact ⟨rfl⟩)); (conv => whnf)) | ((try ((with_reducible refine .ext ?_); (conv => whnf); (try simp only [zY10_0]))); (with_reducible refine call_intro (r := ?_) ?_ ?_); rotate_left; (focus (first | fail)); (conv => whnf)) | ((refine wav_at hk2 ?_); (conv => whnf))); (try simp only [zY10_0])) | (refine And.intro ?_ ?_ <;> (conv => whnf); (try simp only [zY10_0])))
    (conv => whnf)
    (try simp only [Nat.zero_add])
    repeat ((first | refine V.s1 ?_); (try simp only [Nat.zero_add]))
    exact ⟨(k + 1), by omega, by omega, V.wk⟩
  · have hk2 : k = 16 := by simp at hq; omega
    subst hk2
    rw [hpe] at o px py pz ⊢
    (conv => whnf)
    (try simp only [Nat.zero_add])
    repeat ((first | refine V.s1 ?_ | ((try ((with_reducible refine .ext ?_); (conv => whnf); (try simp only [Nat.zero_add]))); (with_reducible refine call_intro (r := ?_) ?_ ?_); rotate_left; (focus (first | exact (o) | exact (nd) | exact (px) | exact (py) | exact (pz))); (conv => whnf))); (try simp only [Nat.zero_add]))
    exact Fin.of rfl
theorem colour_c {p : List Int} (hp : isPow p) {f : Nat → Tx} (hf : ∀ k, k < 16 → okX (f k) = true) (bf : BdS 20 f) :
    Called Tryz.prog 46 [.agg (spL f), .iarr .i64 p] (triD (xT (colP p wxL (qS f))) (xT (colP p wyL (qS f))) (xT (colP p wzL (qS f)))) := by
  have hK := allP_bd hp 16 (by omega)
  have o := y_of (n := allP p 16) (m := 1) (by omega) (by omega)
  have cx := partq_x hp hf bf
  have cy := partq_y hp hf bf
  have cz := partq_z hp hf bf
  unfold frT at o cx cy cz
  rcases hp with e | e | e
  all_goals subst e
  · exact colt_1 f _ _ _ _ _ _ _ _ o cx cy cz
  · exact colt_5 f _ _ _ _ _ _ _ _ o cx cy cz
  · exact colt_7 f _ _ _ _ _ _ _ _ o cx cy cz
theorem powers_c {n : Int} (h : isLt n = true) : Called Tryz.prog 45 [.int .i64 n] (.iarr .i64 (powL n)) := by
  unfold isLt at h
  simp only [Bool.or_eq_true, decide_eq_true_eq] at h
  rcases h with (e | e) | e
  all_goals subst e
  · exact powers_1
  · exact powers_5
  · exact powers_7
end Go.Proofs.YtpcpgjcdkgcbpaaGreatDoor
end
section
namespace Go.Proofs.YtpcpgjcdkgcbpaaGreatDoor
open Go Go.V Go.Nb Go.RowKit Go.Proofs
set_option maxHeartbeats 4000000
set_option maxRecDepth 1000000
theorem aidle_int (p q : Addr) (w : World) :
    CallsD Tryz.prog 79 #[.pointer (some p), .pointer (some q)] .returning w fun e u' w' => e = .returned (.tuple #[]) ∧ u' = .returning ∧ w' = w := by
  refine callsD_of_wpS Tryz.func79 rfl fun c₀ cs hu => ?_
  apply wpS_seq
  apply wpS_region
  simp [wpOpsS, go_sem, recoverD, hu, Tryz.ntmps79, Exit.thenS]
  apply wpS_seq
  apply wpS_seq
  apply wpS_region
  simp [wpOpsS, go_sem, Exit.thenS]
  refine wpS_cond (t := true) (by simp [Act.eval, Array.replicate]) ?_
  simp only [if_true]
  refine wpS_of_wp (wp_ret ?_)
  cases c₀
  simp_all [Exit.thenS, bodyPostS, results, Tryz.results79]
theorem att_int_ok {f : Nat} {es ds : List D} {a0 : Int} (c : Called Tryz.prog f (es ++ ds) (.int .i64 a0)) :
    Called Tryz.prog 35 [.fn f es ds] (.tup [.int .i64 a0, .int .i64 0]) := by
  refine ⟨enters_of Tryz.func35 rfl rfl, fun h w vs ha hd => ?_⟩
  simp only [DenL, Den] at hd
  obtain ⟨v, _, rfl, ⟨us, cs, rfl, hu, hc⟩, rfl⟩ := hd
  have hmf : ∀ (fn : Fn) (first cap : Array Value) (w : World), (Instr.makeFunc fn first cap).run Tryz.prog w = .ok (.func fn first cap) w := fun _ _ _ _ => rfl
  go_enter_defers Tryz.func35, Tryz.ntmps35
  go_wp2
  rw [c.ent]
  simp only [Oper.upon]
  have a2 : ∀ (o1 o2 : Obj), Agree h ((w.alloc o1).alloc o2) := fun o1 o2 => ha.of_blocks fun b ⟨o, v, hv⟩ => by
    have hlt := ha.lt hv
    rw [Lib.alloc_old (w.alloc o1) o2 b (by simp; omega), Lib.alloc_old w o1 b hlt]
  refine (c.call h _ _ (a2 _ _) (hu.append hc)).mono ?_
  rintro e w' ⟨v, h', rfl, hd, ha', hle, hb, hold⟩
  have hd0 := hd
  simp only [Den, DenL] at hd
  obtain ⟨rfl, hone⟩ := hd
  have hir := hone
  obtain ⟨T, k0⟩ : ∃ T, w'.heap[w.heap.size]? = some (.cells #[.int .i64 0] T (0, 0)) := ⟨_, by
    rw [hb.block w.heap.size (by simp; omega)]
    exact heap_alloc2_old _ _ _⟩
  obtain ⟨T1, k1⟩ : ∃ T, w'.heap[w.heap.size + 1]? = some (.cells #[.int .i64 0] T (0, 0)) := ⟨_, by
    rw [hb.block (w.heap.size + 1) (by simp)]
    exact heap_alloc2_new _ _ _⟩
  have fz : ∀ j, w'.frozen? ⟨w.heap.size, j, none⟩ = false := fun j => Lib.frozen_of_heap k0 j
  have fz1 : ∀ j, w'.frozen? ⟨w.heap.size + 1, j, none⟩ = false := fun j => Lib.frozen_of_heap k1 j
  have c0 : w'.cell? ⟨w.heap.size, 0, none⟩ = some (.int .i64 0) := by rw [Lib.cell_of_heap k0]; rfl
  have ce : w'.cell? ⟨w.heap.size + 1, 0, none⟩ = some (.int .i64 0) := by rw [Lib.cell_of_heap k1]; rfl
  clear a2 hu hc hone
  have hbw : Below w.heap.size w w' := (((Below.refl w.heap.size w).alloc (Nat.le_refl _) _).alloc (by simp) _).trans (hb.mono (by simp; omega))
  have hno : ∀ b, (∃ o v, h' b o = some v) → b < w.heap.size + 2 → b < w.heap.size := fun b ⟨o, v, hv⟩ hl => by
    rw [hold b (by simp; omega) o] at hv
    exact ha.lt hv
  have ho2 : ∀ b, b < w.heap.size → ∀ o, h' b o = h b o := fun b hb2 o => hold b (by simp; omega) o
  clear hb hold
  go_wp2
  refine leaves_cons (f := 79) (args := #[.pointer (some ⟨w.heap.size, 0, none⟩), .pointer (some ⟨w.heap.size + 1, 0, none⟩)]) (by simp) (by simp [go_sem]) ?_
  refine (aidle_int _ _ _).mono ?_
  rintro e u' w'' ⟨rfl, rfl, rfl⟩
  simp [Leaves, settle, results, Tryz.results35, go_sem, c0, ce]
  refine ⟨h', ?_, ?_, hle, ?_, ho2⟩
  · simp only [Den, DenL] at hd0 ⊢
    exact ⟨_, rfl, _, _, rfl, ⟨rfl, hir⟩, _, _, rfl, ⟨rfl, by simp [InR, V.lo, V.hi]⟩, rfl⟩
  · refine ha'.of_blocks fun b hx => ?_
    have n0 : b ≠ w.heap.size := fun e => by have := hno b hx (by omega); omega
    have n1 : b ≠ w.heap.size + 1 := fun e => by have := hno b hx (by omega); omega
    rw [Below.heap_setCell _ _ _ _ n1, Below.heap_setCell _ _ _ _ n0]
  · exact (hbw.setCell (Nat.le_refl _) _).setCell (Nat.le_succ _) _
theorem acatch_int (b : Nat) (x : Int) (older : List PanicEntry) (T T1 : TypeId) (w : World) (hb : w.heap[b]? = some (.cells #[.int .i64 0] T (0, 0))) (hq : w.heap[b + 1]? = some (.cells #[.int .i64 0] T1 (0, 0))) :
    CallsD Tryz.prog 79 #[.pointer (some ⟨b, 0, none⟩), .pointer (some ⟨b + 1, 0, none⟩)] (.panicking ({ v := .iface 114 (.agg #[.int .i64 x]), recovered := false } :: older)) w fun e u' w' =>
      e = .returned (.tuple #[]) ∧ u' = .panicking ({ v := .iface 114 (.agg #[.int .i64 x]), recovered := true } :: older) ∧ Below b w w' ∧ w'.heap[b]? = some (.cells #[.int .i64 0] T (0, 0)) ∧ w'.heap[b + 1]? = some (.cells #[.int .i64 x] T1 (0, 0)) := by
  refine callsD_of_wpS Tryz.func79 rfl fun c₀ cs hu => ?_
  apply wpS_seq
  apply wpS_region
  simp [wpOpsS, go_sem, recoverD, hu, Tryz.ntmps79, Exit.thenS]
  apply wpS_seq
  apply wpS_seq
  apply wpS_region
  simp [wpOpsS, go_sem, Exit.thenS]
  refine wpS_cond (t := false) (by simp [Act.eval, Array.replicate]) ?_
  simp only [Bool.false_eq_true, if_false]
  refine wpS_of_wp (wp_skip ?_)
  simp only [Exit.thenS]
  refine wpS_of_wp ?_
  change Code.wp Tryz.prog _ _ { tmps := #[.pointer (some ⟨b, 0, none⟩), .pointer (some ⟨b + 1, 0, none⟩), .iface 114 (.agg #[.int .i64 x]), Go.undef, Go.undef, Go.undef, .iface 114 (.agg #[.int .i64 x]), .iface 114 (.agg #[.int .i64 x]), .bool false, Go.undef, Go.undef, Go.undef, Go.undef, Go.undef, Go.undef, Go.undef, Go.undef, Go.undef], defers := [] } _
  have hlt : b + 1 < w.heap.size := by
    rcases Nat.lt_or_ge (b + 1) w.heap.size with e | e
    · exact e
    · rw [Array.getElem?_eq_none e] at hq
      cases hq
  have fz : ∀ j, w.frozen? ⟨b, j, none⟩ = false := fun j => Lib.frozen_of_heap hb j
  have fz1 : ∀ j, w.frozen? ⟨b + 1, j, none⟩ = false := fun j => Lib.frozen_of_heap hq j
  have c0 : w.cell? ⟨b, 0, none⟩ = some (.int .i64 0) := by rw [Lib.cell_of_heap hb]; rfl
  have ce : w.cell? ⟨b + 1, 0, none⟩ = some (.int .i64 0) := by rw [Lib.cell_of_heap hq]; rfl
  go_wp2
  rw [hta_fail]
  generalize hw1 : World.setCell (World.setCell w _ _) _ _ = w1
  have q1 : w1.heap[b + 1]? = some (.cells #[.int .i64 9] T1 (0, 0)) := by
    rw [← hw1]
    exact yheap_setc _ (yheap_seto _ (by omega) hq)
  have q0 : w1.heap[b]? = some (.cells #[.int .i64 0] T (0, 0)) := by
    rw [← hw1]
    exact yheap_seto _ (by omega) (yheap_setc _ hb)
  have qb : Below b w w1 := by
    rw [← hw1]
    exact ((Below.refl b w).setCell (Nat.le_refl _) _).setCell (Nat.le_succ _) _
  clear hw1 c0 ce fz fz1 hb hq
  have hlt1 : b + 1 < w1.heap.size := by
    rcases Nat.lt_or_ge (b + 1) w1.heap.size with e | e
    · exact e
    · rw [Array.getElem?_eq_none e] at q1
      cases q1
  have r1 : ∀ o, (w1.alloc o).heap[b + 1]? = some (.cells #[.int .i64 9] T1 (0, 0)) := fun o => (Below.heap_alloc w1 o (b + 1) hlt1).trans q1
  have r0 : ∀ o, (w1.alloc o).heap[b]? = some (.cells #[.int .i64 0] T (0, 0)) := fun o => (Below.heap_alloc w1 o b (by omega)).trans q0
  have d0 : ∀ o, (w1.alloc o).cell? ⟨b + 1, 0, none⟩ = some (.int .i64 9) := fun o => by rw [Lib.cell_of_heap (r1 o)]; rfl
  have dz : ∀ o, (w1.alloc o).frozen? ⟨b + 1, 0, none⟩ = false := fun o => Lib.frozen_of_heap (r1 o) 0
  simp only [Result.andThen]
  rw [Oper.upon_value]
  go_wp2
  simp [bodyPostS, results, Tryz.results79]
  have hs2 : b + 1 < (w1.setCell ⟨b + 1, 0, none⟩ (.int .i64 x)).heap.size := by rw [ysize_set]; exact hlt1
  exact ⟨(qb.setCell (Nat.le_succ _) _).alloc (by omega) _, (Below.heap_alloc _ _ b (by omega)).trans (yheap_seto _ (by omega) q0), (Below.heap_alloc _ _ (b + 1) hs2).trans (yheap_setc _ q1)⟩
theorem att_int_pan {f : Nat} {es ds : List D} {x : Int} (hx : InR .i64 x) (c : Panics Tryz.prog f (es ++ ds) (.iface 114 (.agg #[.int .i64 x]))) :
    Called Tryz.prog 35 [.fn f es ds] (.tup [.int .i64 0, .int .i64 x]) := by
  refine ⟨enters_of Tryz.func35 rfl rfl, fun h w vs ha hd => ?_⟩
  simp only [DenL, Den] at hd
  obtain ⟨v, _, rfl, ⟨us, cs, rfl, hu, hc⟩, rfl⟩ := hd
  have hmf : ∀ (fn : Fn) (first cap : Array Value) (w : World), (Instr.makeFunc fn first cap).run Tryz.prog w = .ok (.func fn first cap) w := fun _ _ _ _ => rfl
  go_enter_defers Tryz.func35, Tryz.ntmps35
  go_wp2
  rw [c.ent]
  simp only [Oper.upon]
  have a2 : ∀ (o1 o2 : Obj), Agree h ((w.alloc o1).alloc o2) := fun o1 o2 => ha.of_blocks fun b ⟨o, v, hv⟩ => by
    have hlt := ha.lt hv
    rw [Lib.alloc_old (w.alloc o1) o2 b (by simp; omega), Lib.alloc_old w o1 b hlt]
  refine (c.call h _ _ (a2 _ _) (hu.append hc)).mono ?_
  rintro e w' ⟨h', rfl, ha', hle, hb, hold⟩
  obtain ⟨T, k0⟩ : ∃ T, w'.heap[w.heap.size]? = some (.cells #[.int .i64 0] T (0, 0)) := ⟨_, by
    rw [hb.block w.heap.size (by simp; omega)]
    exact heap_alloc2_old _ _ _⟩
  obtain ⟨T1, k1⟩ : ∃ T, w'.heap[w.heap.size + 1]? = some (.cells #[.int .i64 0] T (0, 0)) := ⟨_, by
    rw [hb.block (w.heap.size + 1) (by simp)]
    exact heap_alloc2_new _ _ _⟩
  have hbw : Below w.heap.size w w' := (((Below.refl w.heap.size w).alloc (Nat.le_refl _) _).alloc (by simp) _).trans (hb.mono (by simp; omega))
  simp only
  change bodyPostD Tryz.prog Tryz.f35 _ (Exit.panic _) _ _
  refine leaves_cons (f := 79) (args := #[.pointer (some ⟨w.heap.size, 0, none⟩), .pointer (some ⟨w.heap.size + 1, 0, none⟩)]) (by simp) (by simp [go_sem]) ?_
  refine (acatch_int w.heap.size x [] T T1 _ k0 k1).mono ?_
  rintro e u' w'' ⟨rfl, rfl, b1, q0, q1⟩
  have c0 : w''.cell? ⟨w.heap.size, 0, none⟩ = some (.int .i64 0) := by rw [Lib.cell_of_heap q0]; rfl
  have ce : w''.cell? ⟨w.heap.size + 1, 0, none⟩ = some (.int .i64 x) := by rw [Lib.cell_of_heap q1]; rfl
  simp [Leaves, settle, results, Tryz.results35, go_sem, c0, ce]
  have hfin := hbw.trans b1
  refine ⟨h, ?_, ha.of_blocks fun b ⟨o, v, hv⟩ => hfin.block b (ha.lt hv), Pub.Le.refl _, hfin, fun _ _ _ => rfl⟩
  simp only [Den, DenL]
  exact ⟨_, rfl, _, _, rfl, ⟨rfl, by simp [InR, V.lo, V.hi]⟩, _, _, rfl, ⟨rfl, hx⟩, rfl⟩
end Go.Proofs.YtpcpgjcdkgcbpaaGreatDoor
end
section
namespace Go.Proofs.YtpcpgjcdkgcbpaaGreatDoor
open Go Go.V Go.Nb
theorem two_div : Rat.divInt 2 1 = 2 := by rw [divInt_one]; rfl
theorem zY14_0 : type_of% @Int.toNat_natCast ∧ type_of% @Nat.zero_add := ⟨@Int.toNat_natCast, @Nat.zero_add⟩
theorem chk1_ok {f : Nat → Tx} (hf : ∀ k, k < 16 → okX (f k) = true) (bf : BdS 20 f) (hi : ∀ k, k < 16 → outX (f k) 2 = false) : Called Tryz.prog 36 [.ref (spL f)] (.int .i64 0) := by
  refine called_of_run tbOk 6 ⟨Tryz.func36, rfl, rfl, Nat.le_of_ble_eq_true rfl⟩ ?_
  (conv => whnf)
  (conv => whnf)
  (try simp only [Nat.zero_add])
  repeat ((first | refine V.s1 ?_); (try simp only [Nat.zero_add]))
  refine lp_any (0) (fun k => k ≤ 16) (fun k => 16 - k) (fun k => [(5, .int .i64 k)]) (fun k => []) ?_ ?_ ?_
  · exact V.wk
  · exact Nat.zero_le _
  intro k hk
  (conv => whnf)
  (try simp only [Nat.zero_add])
  repeat ((first | refine V.s1 ?_); (try simp only [Nat.zero_add]))
  refine Cnd.split (CondB.mk (fun hq => ?_) (fun hq => ?_))
  · have hk2 : k < 16 := by simp at hq; omega
    have o := outside_c (m := 2) (hf k hk2) (bf k) (by omega) (by omega)
    rw [two_div, hi k hk2] at o
    (conv => whnf)
    (try simp only [zY14_0])
    repeat ((first | refine V.s1 ?_ | ((try ((with_reducible refine .ext ?_); (conv => whnf); (try simp only [zY14_0]))); (with_reducible refine call_intro (r := ?_) ?_ ?_); rotate_left; (focus (first | exact (o))); (conv => whnf)) | ((refine sp_at hk2 ?_); (conv => whnf))); (try simp only [zY14_0]))
    exact ⟨(k + 1), by omega, by omega, V.wk⟩
  · have hk2 : k = 16 := by simp at hq; omega
    subst hk2
    (conv => whnf)
    (try simp only [Nat.zero_add])
    repeat ((first | refine V.s1 ?_); (try simp only [Nat.zero_add]))
    exact Fin.of rfl
theorem chk1_pan {f : Nat → Tx} (hf : ∀ k, k < 16 → okX (f k) = true) (bf : BdS 20 f) (hi : ∃ k, k < 16 ∧ outX (f k) 2 = true) : Panics Tryz.prog 36 [.ref (spL f)] (.iface 114 (.agg #[.int .i64 2])) := by
  have sp := stop_pan 2 (by decide)
  refine panics_of_run tbOk 6 ⟨Tryz.func36, rfl, rfl, Nat.le_of_ble_eq_true rfl⟩ ?_
  (conv => whnf)
  (conv => whnf)
  (try simp only [Nat.zero_add])
  repeat ((first | refine V.s1 ?_); (try simp only [Nat.zero_add]))
  refine lp_any (0) (fun k => k ≤ 16 ∧ ∀ i, i < k → outX (f i) 2 = false) (fun k => 16 - k) (fun k => [(5, .int .i64 k)]) (fun k => []) ?_ ?_ ?_
  · exact V.wk
  · exact ⟨Nat.zero_le _, fun i hi => by omega⟩
  intro k hk
  obtain ⟨hk, hb⟩ := hk
  (conv => whnf)
  (try simp only [Nat.zero_add])
  repeat ((first | refine V.s1 ?_); (try simp only [Nat.zero_add]))
  refine Cnd.split (CondB.mk (fun hq => ?_) (fun hq => ?_))
  · have hk2 : k < 16 := by simp at hq; omega
    have o := outside_c (m := 2) (hf k hk2) (bf k) (by omega) (by omega)
    rw [two_div] at o
    cases h : outX (f k) 2 with
    | true =>
      rw [h] at o
      (conv => whnf)
      (try simp only [zY14_0])
      repeat ((first | refine V.s1 ?_ | ((try ((with_reducible refine .ext ?_); (conv => whnf); (try simp only [zY14_0]))); (with_reducible refine call_intro (r := ?_) ?_ ?_); rotate_left; (focus (first | exact (o))); (conv => whnf)) | ((refine sp_at hk2 ?_); (conv => whnf))); (try simp only [zY14_0]))
      refine .pan ?_
      (conv => whnf)
      refine ⟨_, sp, ?_⟩
      (conv => whnf)
    | false =>
      rw [h] at o
      (conv => whnf)
      (try simp only [zY14_0])
      repeat ((first | refine V.s1 ?_ | ((try ((with_reducible refine .ext ?_); (conv => whnf); (try simp only [zY14_0]))); (with_reducible refine call_intro (r := ?_) ?_ ?_); rotate_left; (focus (first | exact (o))); (conv => whnf)) | ((refine sp_at hk2 ?_); (conv => whnf))); (try simp only [zY14_0]))
      refine ⟨k + 1, ⟨by omega, fun i hi => ?_⟩, by omega, V.wk⟩
      by_cases e : i = k
      · subst e; exact h
      · exact hb i (by omega)
  · exfalso
    have hk2 : k = 16 := by simp at hq; omega
    subst hk2
    obtain ⟨i, h1, h2⟩ := hi
    rw [hb i h1] at h2
    cases h2
theorem check_bad {f : Nat → Tx} (bf : BdS 20 f) (hi : ∃ k, k < 16 ∧ okX (f k) = false) : Called Tryz.prog 12 [.agg (spL f)] (.int .i64 20) := by
  refine called_of_run tbOk 6 ⟨Tryz.func12, rfl, rfl, Nat.le_of_ble_eq_true rfl⟩ ?_
  (conv => whnf)
  (conv => whnf)
  (try simp only [Nat.zero_add])
  repeat ((first | refine V.s1 ?_); (try simp only [Nat.zero_add]))
  refine lp_any (0) (fun k => k ≤ 16 ∧ ∀ i, i < k → okX (f i) = true) (fun k => 16 - k) (fun k => [(9, .int .i64 k)]) (fun k => []) ?_ ?_ ?_
  · exact V.wk
  · exact ⟨Nat.zero_le _, fun i hi => by omega⟩
  intro k hk
  obtain ⟨hk, hb⟩ := hk
  (conv => whnf)
  (try simp only [Nat.zero_add])
  repeat ((first | refine V.s1 ?_); (try simp only [Nat.zero_add]))
  refine Cnd.split (CondB.mk (fun hq => ?_) (fun hq => ?_))
  · have hk2 : k < 16 := by simp at hq; omega
    have c := fcheck_c _ _ (bf k).1.1 (bf k).1.2
    change Called Tryz.prog _ _ (.int .i64 (if okX (f k) then 0 else 20)) at c
    cases h : okX (f k) with
    | false =>
      rw [h] at c
      (conv => whnf)
      (try simp only [zY14_0])
      repeat ((first | refine V.s1 ?_ | ((try ((with_reducible refine .ext ?_); (conv => whnf); (try simp only [zY14_0]))); (with_reducible refine call_intro (r := ?_) ?_ ?_); rotate_left; (focus (first | exact (c))); (conv => whnf)) | ((refine sp_at hk2 ?_); (conv => whnf))); (try simp only [zY14_0]))
      exact Fin.of rfl
    | true =>
      rw [h] at c
      (conv => whnf)
      (try simp only [zY14_0])
      repeat ((first | refine V.s1 ?_ | ((try ((with_reducible refine .ext ?_); (conv => whnf); (try simp only [zY14_0]))); (with_reducible refine call_intro (r := ?_) ?_ ?_); rotate_left; (focus (first | exact (c))); (conv => whnf)) | ((refine sp_at hk2 ?_); (conv => whnf))); (try simp only [zY14_0]))
      refine ⟨k + 1, ⟨by omega, fun i hi => ?_⟩, by omega, V.wk⟩
      by_cases e : i = k
      · subst e; exact h
      · exact hb i (by omega)
  · exfalso
    have hk2 : k = 16 := by simp at hq; omega
    subst hk2
    obtain ⟨i, h1, h2⟩ := hi
    rw [hb i h1] at h2
    cases h2
theorem check_go {f : Nat → Tx} (bf : BdS 20 f) (hf : ∀ k, k < 16 → okX (f k) = true) (e : Int) (at' : Called Tryz.prog 35 [.fn 36 [] [.ref (spL f)]] (.tup [.int .i64 0, .int .i64 e])) : Called Tryz.prog 12 [.agg (spL f)] (.int .i64 e) := by
  refine called_of_run tbOk 6 ⟨Tryz.func12, rfl, rfl, Nat.le_of_ble_eq_true rfl⟩ ?_
  (conv => whnf)
  (conv => whnf)
  (try simp only [Nat.zero_add])
  repeat ((first | refine V.s1 ?_); (try simp only [Nat.zero_add]))
  refine lp_any (0) (fun k => k ≤ 16) (fun k => 16 - k) (fun k => [(9, .int .i64 k)]) (fun k => []) ?_ ?_ ?_
  · exact V.wk
  · exact Nat.zero_le _
  intro k hk
  (conv => whnf)
  (try simp only [Nat.zero_add])
  repeat ((first | refine V.s1 ?_); (try simp only [Nat.zero_add]))
  refine Cnd.split (CondB.mk (fun hq => ?_) (fun hq => ?_))
  · have hk2 : k < 16 := by simp at hq; omega
    have c := fcheck_c _ _ (bf k).1.1 (bf k).1.2
    change Called Tryz.prog _ _ (.int .i64 (if okX (f k) then 0 else 20)) at c
    rw [hf k hk2] at c
    (conv => whnf)
    (try simp only [zY14_0])
    repeat ((first | refine V.s1 ?_ | ((try ((with_reducible refine .ext ?_); (conv => whnf); (try simp only [zY14_0]))); (with_reducible refine call_intro (r := ?_) ?_ ?_); rotate_left; (focus (first | exact (c))); (conv => whnf)) | ((refine sp_at hk2 ?_); (conv => whnf))); (try simp only [zY14_0]))
    exact ⟨(k + 1), by omega, by omega, V.wk⟩
  · have hk2 : k = 16 := by simp at hq; omega
    subst hk2
    (conv => whnf)
    (try simp only [Nat.zero_add])
    repeat ((first | refine V.s1 ?_ | ((try ((with_reducible refine .ext ?_); (conv => whnf); (try simp only [Nat.zero_add]))); (with_reducible refine call_intro (r := ?_) ?_ ?_); rotate_left; (focus (first | exact (at'))); (conv => whnf))); (try simp only [Nat.zero_add]))
    exact Fin.of rfl
theorem okS_iff {f : Nat → Tx} : okS f 16 = false → ∃ k, k < 16 ∧ okX (f k) = false := fun h => by
  refine Classical.byContradiction fun hn => ?_
  rw [okS_all fun k hk => by
    cases e : okX (f k) with
    | true => rfl
    | false => exact absurd ⟨k, hk, e⟩ hn] at h
  cases h
theorem inS_iff {f : Nat → Tx} : inS f 16 = false → ∃ k, k < 16 ∧ outX (f k) 2 = true := fun h => by
  refine Classical.byContradiction fun hn => ?_
  rw [inS_all fun k hk => by
    cases e : outX (f k) 2 with
    | false => rfl
    | true => exact absurd ⟨k, hk, e⟩ hn] at h
  cases h
theorem check_c {f : Nat → Tx} (bf : BdS 20 f) : Called Tryz.prog 12 [.agg (spL f)] (.int .i64 (chkS f)) := by
  unfold chkS
  cases h : okS f 16 with
  | false => exact check_bad bf (okS_iff h)
  | true =>
    have hf := okS_at h
    simp only [if_true]
    cases g : inS f 16 with
    | true => exact check_go bf hf _ (att_int_ok (es := []) (chk1_ok hf bf (inS_at g)))
    | false => exact check_go bf hf _ (att_int_pan (es := []) (by simp [InR, V.lo, V.hi]) (chk1_pan hf bf (inS_iff g)))
end Go.Proofs.YtpcpgjcdkgcbpaaGreatDoor
end
section
namespace Go.Proofs.YtpcpgjcdkgcbpaaGreatDoor
open Go Go.V Go.Nb
theorem colP_congr (p o : List Int) {a b : Nat → Rat} (h : ∀ k, k < 16 → a k = b k) : colP p o a = colP p o b := by
  unfold colP
  rw [sw_congr h]
theorem powL_len (n : Int) : (powL n).length = 16 := pow_len (pow_is n)
theorem white1_t (n : Int) (o0 o1 a0 a1 b0 b1 c0 c1 : List UInt8) (pw : Called Tryz.prog 45 [.int .i64 n] (.iarr .i64 (powL n))) (o : Called Tryz.prog 48 [.int .i64 1, .int .i64 1] (.tup [.agg [.str o0, .str o1], .int .i64 0]))
    (fl : Called Tryz.prog 41 [.agg [.str o0, .str o1]] (.agg (spL fun _ => (o0, o1)))) (cl : Called Tryz.prog 46 [.agg (spL fun _ => (o0, o1)), .iarr .i64 (powL n)] (.agg [.str a0, .str a1, .str b0, .str b1, .str c0, .str c1])) :
    Called Tryz.prog 44 [.ref [.int .i64 n]] (.agg [.str a0, .str a1, .str b0, .str b1, .str c0, .str c1]) := by
  have hl := powL_len n
  have nd := need_ok o0 o1
  generalize powL n = p at *
  refine called_of_run tbOk 6 ⟨Tryz.func44, rfl, rfl, Nat.le_of_ble_eq_true rfl⟩ ?_
  (conv => whnf)
  (conv => whnf)
  (try simp only [Nat.zero_add])
  repeat ((first | refine V.s1 ?_ | ((try ((with_reducible refine .ext ?_); (conv => whnf); (try simp only [Nat.zero_add]))); (with_reducible refine call_intro (r := ?_) ?_ ?_); rotate_left; (focus (first | exact (pw))); (conv => whnf))); (try simp only [Nat.zero_add]))
  refine ⟨(.take 5 (.ev (.cons 0 [5] (.take 1 (.take 2 (.ev (.cons 3 [5] (.ev (.cons 4 [5] (.ev (.cons 6 [] (.ev (.cons 7 [] (.done) (.nil))) (.nil))) (.nil))) (.nil))))) (.nil)))), [], ⟨by kernel_rfl, by kernel_rfl, by kernel_rfl, by kernel_rfl⟩, ?_⟩
  refine drw_meet [] [(1, .box [.str a0, .str a1, .str b0, .str b1, .str c0, .str c1])] ?_ ?_
  · (conv => whnf); (try simp only [Nat.zero_add])
    repeat' (first | exact V.wk | ((with_reducible refine And.intro ?_ draw_nil); (conv => whnf); (try simp only [Nat.zero_add])) | ((with_reducible first | refine draw_split ?_ ?_ | refine nds_split ?_ ?_) <;> (conv => whnf); (try simp only [Nat.zero_add])) | ((first | refine V.s1 ?_ | ((with_reducible refine recheck_and ?_ ?_); (focus ((conv => whnf); (try simp only [Nat.zero_add]); (repeat ((first | refine V.s1 ?_); (try simp only [Nat.zero_add]))); exact ⟨rfl⟩)); (conv => whnf)) | ((try ((with_reducible refine .ext ?_); (conv => whnf); (try simp only [Nat.zero_add]))); (with_reducible refine call_intro (r := ?_) ?_ ?_); rotate_left; (focus (first | exact (o) | exact (nd) | exact (fl) | exact (cl))); (conv => whnf))); (try simp only [Nat.zero_add])) | (refine And.intro ?_ ?_ <;> (conv => whnf); (try simp only [Nat.zero_add])))
  (conv => whnf)
  (try simp only [Nat.zero_add])
  repeat ((first | refine V.s1 ?_); (try simp only [Nat.zero_add]))
  exact Fin.of rfl
theorem white1_pan (n : Int) (pw : Panics Tryz.prog 45 [.int .i64 n] (.iface 114 (.agg #[.int .i64 4]))) : Panics Tryz.prog 44 [.ref [.int .i64 n]] (.iface 114 (.agg #[.int .i64 4])) := by
  refine panics_of_run tbOk 6 ⟨Tryz.func44, rfl, rfl, Nat.le_of_ble_eq_true rfl⟩ ?_
  (conv => whnf)
  (conv => whnf)
  (try simp only [Nat.zero_add])
  repeat ((first | refine V.s1 ?_); (try simp only [Nat.zero_add]))
  refine .pan ?_
  (conv => whnf)
  refine ⟨_, pw, ?_⟩
  (conv => whnf)
theorem white_t (n : Int) (a0 a1 b0 b1 c0 c1 : List UInt8) (e : Int) (g : Called Tryz.prog 43 [.fn 44 [] [.ref [.int .i64 n]]] (.tup [.agg [.str a0, .str a1, .str b0, .str b1, .str c0, .str c1], .int .i64 e])) :
    Called Tryz.prog 19 [.int .i64 n] (.tup [.agg [.str a0, .str a1, .str b0, .str b1, .str c0, .str c1], .int .i64 e]) := by
  refine called_of_run tbOk 6 ⟨Tryz.func19, rfl, rfl, Nat.le_of_ble_eq_true rfl⟩ ?_
  (conv => whnf)
  (conv => whnf)
  (try simp only [Nat.zero_add])
  repeat ((first | refine V.s1 ?_ | ((try ((with_reducible refine .ext ?_); (conv => whnf); (try simp only [Nat.zero_add]))); (with_reducible refine call_intro (r := ?_) ?_ ?_); rotate_left; (focus (first | exact (g))); (conv => whnf))); (try simp only [Nat.zero_add]))
  exact Fin.of rfl
theorem swhite_c (n : Int) : Called Tryz.prog 19 [.int .i64 n] (whiS n) := by
  unfold whiS
  cases h : isLt n with
  | true =>
    have o := y_of (n := 1) (m := 1) (by omega) (by omega)
    rw [y_div1] at o
    have k0 : 0 < 20 ∧ 20 ≤ 600 := by omega
    have f1 : Fq 20 (1 : Rat) := y_one.mono (by omega)
    have c := colour_c (p := powL n) (f := fun _ => xT 1) (pow_is n) (fun k _ => (xT_ok f1 k0).1) (fun k => xT_bd f1 k0)
    have e : ∀ o, colP (powL n) o (qS fun _ => xT 1) = colP (powL n) o (fun _ => 1) := fun o => colP_congr _ _ fun k hk => by rw [qS_lt hk]; exact (xT_ok f1 k0).2
    rw [e, e, e] at c
    unfold frT at o
    exact white_t _ _ _ _ _ _ _ _ (att_tri_ok (es := []) (white1_t n _ _ _ _ _ _ _ _ (powers_c h) o (flat_c (xT 1)) c))
  | false => exact white_t _ _ _ _ _ _ _ _ (att_tri_pan (es := []) (by simp [InR, V.lo, V.hi]) (white1_pan n (powers_no n h)))
theorem xyz1_t (f : Nat → Tx) (n : Int) (a0 a1 b0 b1 c0 c1 : List UInt8) (ck : Called Tryz.prog 12 [.agg (spL f)] (.int .i64 0)) (pw : Called Tryz.prog 45 [.int .i64 n] (.iarr .i64 (powL n)))
    (cl : Called Tryz.prog 46 [.agg (spL f), .iarr .i64 (powL n)] (.agg [.str a0, .str a1, .str b0, .str b1, .str c0, .str c1])) :
    Called Tryz.prog 53 [.ref (spL f), .ref [.int .i64 n]] (.agg [.str a0, .str a1, .str b0, .str b1, .str c0, .str c1]) := by
  have hl := powL_len n
  have so := stop_ok
  generalize powL n = p at *
  refine called_of_run tbOk 6 ⟨Tryz.func53, rfl, rfl, Nat.le_of_ble_eq_true rfl⟩ ?_
  (conv => whnf)
  (conv => whnf)
  (try simp only [Nat.zero_add])
  repeat ((first | refine V.s1 ?_ | ((try ((with_reducible refine .ext ?_); (conv => whnf); (try simp only [Nat.zero_add]))); (with_reducible refine call_intro (r := ?_) ?_ ?_); rotate_left; (focus (first | exact (ck) | exact (so))); (conv => whnf))); (try simp only [Nat.zero_add]))
  refine ⟨(.take 0 (.take 1 (.ev (.cons 2 [0] (.ev (.cons 3 [] (.ev (.cons 4 [] (.done) (.nil))) (.nil))) (.nil))))), [], ⟨by kernel_rfl, by kernel_rfl, by kernel_rfl, by kernel_rfl⟩, ?_⟩
  refine drw_meet [] [(2, .box [.str a0, .str a1, .str b0, .str b1, .str c0, .str c1])] ?_ ?_
  · (conv => whnf); (try simp only [Nat.zero_add])
    repeat' (first | exact V.wk | ((with_reducible refine And.intro ?_ draw_nil); (conv => whnf); (try simp only [Nat.zero_add])) | ((with_reducible first | refine draw_split ?_ ?_ | refine nds_split ?_ ?_) <;> (conv => whnf); (try simp only [Nat.zero_add])) | ((first | refine V.s1 ?_ | ((with_reducible refine recheck_and ?_ ?_); (focus ((conv => whnf); (try simp only [Nat.zero_add]); (repeat ((first | refine V.s1 ?_); (try simp only [Nat.zero_add]))); exact ⟨rfl⟩)); (conv => whnf)) | ((try ((with_reducible refine .ext ?_); (conv => whnf); (try simp only [Nat.zero_add]))); (with_reducible refine call_intro (r := ?_) ?_ ?_); rotate_left; (focus (first | exact (pw) | exact (cl))); (conv => whnf))); (try simp only [Nat.zero_add])) | (refine And.intro ?_ ?_ <;> (conv => whnf); (try simp only [Nat.zero_add])))
  (conv => whnf)
  (try simp only [Nat.zero_add])
  repeat ((first | refine V.s1 ?_); (try simp only [Nat.zero_add]))
  exact Fin.of rfl
theorem xyz1_pan (f : Nat → Tx) (n e : Int) (he : e ≠ 0) (ck : Called Tryz.prog 12 [.agg (spL f)] (.int .i64 e)) : Panics Tryz.prog 53 [.ref (spL f), .ref [.int .i64 n]] (.iface 114 (.agg #[.int .i64 e])) := by
  have sp := stop_pan e he
  refine panics_of_run tbOk 6 ⟨Tryz.func53, rfl, rfl, Nat.le_of_ble_eq_true rfl⟩ ?_
  (conv => whnf)
  (conv => whnf)
  (try simp only [Nat.zero_add])
  repeat ((first | refine V.s1 ?_ | ((try ((with_reducible refine .ext ?_); (conv => whnf); (try simp only [Nat.zero_add]))); (with_reducible refine call_intro (r := ?_) ?_ ?_); rotate_left; (focus (first | exact (ck))); (conv => whnf))); (try simp only [Nat.zero_add]))
  refine .pan ?_
  (conv => whnf)
  refine ⟨_, sp, ?_⟩
  (conv => whnf)
theorem xyz1_pan4 (f : Nat → Tx) (n : Int) (ck : Called Tryz.prog 12 [.agg (spL f)] (.int .i64 0)) (pw : Panics Tryz.prog 45 [.int .i64 n] (.iface 114 (.agg #[.int .i64 4]))) : Panics Tryz.prog 53 [.ref (spL f), .ref [.int .i64 n]] (.iface 114 (.agg #[.int .i64 4])) := by
  have so := stop_ok
  refine panics_of_run tbOk 6 ⟨Tryz.func53, rfl, rfl, Nat.le_of_ble_eq_true rfl⟩ ?_
  (conv => whnf)
  (conv => whnf)
  (try simp only [Nat.zero_add])
  repeat ((first | refine V.s1 ?_ | ((try ((with_reducible refine .ext ?_); (conv => whnf); (try simp only [Nat.zero_add]))); (with_reducible refine call_intro (r := ?_) ?_ ?_); rotate_left; (focus (first | exact (ck) | exact (so))); (conv => whnf))); (try simp only [Nat.zero_add]))
  refine ⟨(.take 0 (.take 1 (.ev (.cons 2 [0] (.ev (.cons 3 [] (.ev (.cons 4 [] (.done) (.nil))) (.nil))) (.nil))))), [], ⟨by kernel_rfl, by kernel_rfl, by kernel_rfl, by kernel_rfl⟩, .go (drawD_one ?_)⟩
  (conv => whnf)
  (try simp only [Nat.zero_add])
  repeat ((first | refine V.s1 ?_); (try simp only [Nat.zero_add]))
  refine .pan ?_
  (conv => whnf)
  refine ⟨_, pw, ?_⟩
  (conv => whnf)
theorem xyz_t (f : Nat → Tx) (n : Int) (a0 a1 b0 b1 c0 c1 : List UInt8) (e : Int) (g : Called Tryz.prog 43 [.fn 53 [] [.ref (spL f), .ref [.int .i64 n]]] (.tup [.agg [.str a0, .str a1, .str b0, .str b1, .str c0, .str c1], .int .i64 e])) :
    Called Tryz.prog 24 [.agg (spL f), .int .i64 n] (.tup [.agg [.str a0, .str a1, .str b0, .str b1, .str c0, .str c1], .int .i64 e]) := by
  refine called_of_run tbOk 6 ⟨Tryz.func24, rfl, rfl, Nat.le_of_ble_eq_true rfl⟩ ?_
  (conv => whnf)
  (conv => whnf)
  (try simp only [Nat.zero_add])
  repeat ((first | refine V.s1 ?_ | ((try ((with_reducible refine .ext ?_); (conv => whnf); (try simp only [Nat.zero_add]))); (with_reducible refine call_intro (r := ?_) ?_ ?_); rotate_left; (focus (first | exact (g))); (conv => whnf))); (try simp only [Nat.zero_add]))
  exact Fin.of rfl
theorem chkS_is (f : Nat → Tx) : chkS f = 0 ∨ chkS f = 2 ∨ chkS f = 20 := by
  unfold chkS
  cases okS f 16 <;> cases inS f 16 <;> simp
theorem chkS_ok {f : Nat → Tx} (h : chkS f = 0) : (∀ k, k < 16 → okX (f k) = true) ∧ ∀ k, k < 16 → outX (f k) 2 = false := by
  unfold chkS at h
  cases h1 : okS f 16 with
  | false => rw [h1] at h; cases h
  | true =>
    rw [h1] at h
    cases h2 : inS f 16 with
    | false => rw [h2] at h; cases h
    | true => exact ⟨okS_at h1, inS_at h2⟩
theorem xyz_c {f : Nat → Tx} (bf : BdS 20 f) (n : Int) : Called Tryz.prog 24 [.agg (spL f), .int .i64 n] (xyzX f n) := by
  have ck := check_c bf
  unfold xyzX
  by_cases h : chkS f = 0
  · rw [if_pos h]
    rw [h] at ck
    have hf := (chkS_ok h).1
    cases hl : isLt n with
    | true => exact xyz_t _ _ _ _ _ _ _ _ _ (att_tri_ok (es := []) (xyz1_t f n _ _ _ _ _ _ ck (powers_c hl) (colour_c (pow_is n) hf bf)))
    | false => exact xyz_t _ _ _ _ _ _ _ _ _ (att_tri_pan (es := []) (by simp [InR, V.lo, V.hi]) (xyz1_pan4 f n ck (powers_no n hl)))
  · rw [if_neg h]
    have hi : InR .i64 (chkS f) := by
      rcases chkS_is f with e | e | e <;> rw [e] <;> simp [InR, V.lo, V.hi]
    exact xyz_t _ _ _ _ _ _ _ _ _ (att_tri_pan (es := []) hi (xyz1_pan f n _ h ck))
theorem sflat_t (x : Tx) (e : Int) (fl : Called Tryz.prog 41 [.agg [.str x.1, .str x.2]] (.agg (spL fun _ => x))) (ck : Called Tryz.prog 12 [.agg (spL fun _ => x)] (.int .i64 e)) :
    Called Tryz.prog 17 [.agg [.str x.1, .str x.2]] (if e = 0 then spE (fun _ => x) 0 else spE noS e) := by
  by_cases he : e = 0
  · rw [if_pos he]
    subst he
    refine called_of_run tbOk 6 ⟨Tryz.func17, rfl, rfl, Nat.le_of_ble_eq_true rfl⟩ ?_
    (conv => whnf)
    (conv => whnf)
    (try simp only [Nat.zero_add])
    repeat ((first | refine V.s1 ?_ | ((try ((with_reducible refine .ext ?_); (conv => whnf); (try simp only [Nat.zero_add]))); (with_reducible refine call_intro (r := ?_) ?_ ?_); rotate_left; (focus (first | exact (fl) | exact (ck))); (conv => whnf))); (try simp only [Nat.zero_add]))
    exact Fin.of rfl
  · rw [if_neg he]
    refine called_of_run tbOk 6 ⟨Tryz.func17, rfl, rfl, Nat.le_of_ble_eq_true rfl⟩ ?_
    (conv => whnf)
    (conv => whnf)
    (try simp only [Nat.zero_add])
    repeat ((first | refine V.s1 ?_ | ((try ((with_reducible refine .ext ?_); (conv => whnf); (try simp only [Nat.zero_add]))); (with_reducible refine call_intro (r := ?_) ?_ ?_); rotate_left; (focus (first | exact (fl) | exact (ck))); (conv => whnf))); (try simp only [Nat.zero_add]))
    refine Cnd.split (CondB.mk (fun hq => ?_) (fun hq => ?_))
    · (conv => whnf)
      (try simp only [Nat.zero_add])
      repeat ((first | refine V.s1 ?_); (try simp only [Nat.zero_add]))
      exact Fin.of rfl
    · exfalso
      simp at hq
      exact he hq
theorem sflat_c {x : Tx} (bx : BdX 20 x) : Called Tryz.prog 17 [.agg [.str x.1, .str x.2]] (flatX x) := sflat_t x _ (flat_c x) (check_c fun _ => bx)
end Go.Proofs.YtpcpgjcdkgcbpaaGreatDoor
end
section
namespace Go.Proofs.YtpcpgjcdkgcbpaaGreatDoor
open Go Go.V Go.Nb
theorem yk1 : ((1 : Nat) : Int) = 1 := rfl
theorem yk2 : ((2 : Nat) : Int) = 2 := rfl
theorem yt0 : (0 : Int).toNat = 0 := rfl
theorem yt1 : (1 : Int).toNat = 1 := rfl
def cS (a0 a1 b0 b1 c0 c1 : List UInt8) : Nat → List D
  | 0 => [.str a0, .str a1]
  | 1 => [.str b0, .str b1]
  | _ => [.str c0, .str c1]
theorem zY16_0 : type_of% @Nat.zero_add ∧ type_of% @yt0 ∧ type_of% @yt1 := ⟨@Nat.zero_add, @yt0, @yt1⟩
theorem cor1_t (r0 r1 n0 n1 w0 w1 v0 v1 a0 a1 b0 b1 c0 c1 : List UInt8) (o : Called Tryz.prog 48 [.int .i64 1083, .int .i64 1000] (.tup [.agg [.str w0, .str w1], .int .i64 0])) (o2 : Called Tryz.prog 48 [.int .i64 83, .int .i64 1000] (.tup [.agg [.str v0, .str v1], .int .i64 0]))
    (m0 : Called Tryz.prog 31 [.agg [.str w0, .str w1], .agg [.str r0, .str r1]] (.tup [.agg [.str a0, .str a1], .int .i64 0])) (m1 : Called Tryz.prog 31 [.agg [.str v0, .str v1], .agg [.str n0, .str n1]] (.tup [.agg [.str b0, .str b1], .int .i64 0]))
    (s1 : Called Tryz.prog 60 [.agg [.str a0, .str a1], .agg [.str b0, .str b1]] (.tup [.agg [.str c0, .str c1], .int .i64 0])) :
    Called Tryz.prog 58 [.agg [.str r0, .str r1], .slf 2 1 (fun j => List.take 2 (List.drop (j * 2) [.str n0, .str n1]))] (.agg [.str c0, .str c1]) := by
  have nd := need_ok
  refine called_of_run tbOk 6 ⟨Tryz.func58, rfl, rfl, Nat.le_of_ble_eq_true rfl⟩ ?_
  (conv => whnf)
  (conv => whnf)
  (try simp only [Nat.zero_add])
  repeat ((first | refine V.s1 ?_ | ((try ((with_reducible refine .ext ?_); (conv => whnf); (try simp only [Nat.zero_add]))); (with_reducible refine call_intro (r := ?_) ?_ ?_); rotate_left; (focus (first | exact (o) | exact (o2) | exact (m0) | exact (nd _ _))); (conv => whnf))); (try simp only [Nat.zero_add]))
  refine lp_any (0) (fun k => k ≤ 1) (fun k => 1 - k) (fun k => [(30, .int .i64 k)]) (fun k => [(7, .box (cS a0 a1 c0 c1 c0 c1 k))]) ?_ ?_ ?_
  · exact V.wk
  · exact Nat.zero_le _
  intro k hk
  have hk4 : k = 0 ∨ k = 1 := by omega
  rcases hk4 with e | e
  all_goals subst e
  · simp only [yk0, cS]
    (conv => whnf)
    (try simp only [zY16_0])
    repeat ((first | refine V.s1 ?_); (try simp only [zY16_0]))
    refine ⟨(.take 0 (.take 1 (.take 2 (.ev (.cons 3 [0] (.take 4 (.take 5 (.ev (.cons 6 [0] (.ev (.cons 7 [] (.take 8 (.take 9 (.ev (.cons 10 [] (.ev (.cons 11 [] (.done) (.nil))) (.nil))))) (.nil))) (.nil))))) (.nil)))))), [], ⟨by kernel_rfl, by kernel_rfl, by kernel_rfl, by kernel_rfl⟩, ?_⟩
    refine drw_meet [] [(7, .box [.str c0, .str c1])] ?_ ?_
    · (conv => whnf); (try simp only [zY16_0])
      repeat' (first | exact V.wk | ((with_reducible refine And.intro ?_ draw_nil); (conv => whnf); (try simp only [zY16_0])) | ((with_reducible first | refine draw_split ?_ ?_ | refine nds_split ?_ ?_) <;> (conv => whnf); (try simp only [zY16_0])) | ((first | refine V.s1 ?_ | ((with_reducible refine recheck_and ?_ ?_); (focus ((conv => whnf); (try simp only [zY16_0]); (repeat ((first | refine V.s1 ?_); (try simp only [zY16_0]))); exact ⟨rfl⟩)); (conv => whnf)) | ((try ((with_reducible refine .ext ?_); (conv => whnf); (try simp only [zY16_0]))); (with_reducible refine call_intro (r := ?_) ?_ ?_); rotate_left; (focus (first | exact (m1) | exact (s1) | exact (nd _ _))); (conv => whnf))); (try simp only [zY16_0])) | (refine And.intro ?_ ?_ <;> (conv => whnf); (try simp only [zY16_0])))
    (conv => whnf)
    (try simp only [Nat.zero_add])
    repeat ((first | refine V.s1 ?_); (try simp only [Nat.zero_add]))
    exact ⟨1, by omega, by omega, V.wk⟩
  · simp only [yk1, cS]
    (conv => whnf)
    (try simp only [Nat.zero_add])
    repeat ((first | refine V.s1 ?_); (try simp only [Nat.zero_add]))
    exact Fin.of rfl
theorem cor2_t (r0 r1 n0 n1 p0 p1 w0 w1 v0 v1 a0 a1 b0 b1 c0 c1 d0 d1 e0 e1 : List UInt8) (o : Called Tryz.prog 48 [.int .i64 1166, .int .i64 1000] (.tup [.agg [.str w0, .str w1], .int .i64 0])) (o2 : Called Tryz.prog 48 [.int .i64 83, .int .i64 1000] (.tup [.agg [.str v0, .str v1], .int .i64 0]))
    (m0 : Called Tryz.prog 31 [.agg [.str w0, .str w1], .agg [.str r0, .str r1]] (.tup [.agg [.str a0, .str a1], .int .i64 0])) (m1 : Called Tryz.prog 31 [.agg [.str v0, .str v1], .agg [.str n0, .str n1]] (.tup [.agg [.str b0, .str b1], .int .i64 0]))
    (s1 : Called Tryz.prog 60 [.agg [.str a0, .str a1], .agg [.str b0, .str b1]] (.tup [.agg [.str c0, .str c1], .int .i64 0])) (m2 : Called Tryz.prog 31 [.agg [.str v0, .str v1], .agg [.str p0, .str p1]] (.tup [.agg [.str d0, .str d1], .int .i64 0]))
    (s2 : Called Tryz.prog 60 [.agg [.str c0, .str c1], .agg [.str d0, .str d1]] (.tup [.agg [.str e0, .str e1], .int .i64 0])) :
    Called Tryz.prog 58 [.agg [.str r0, .str r1], .slf 2 2 (fun j => List.take 2 (List.drop (j * 2) [.str n0, .str n1, .str p0, .str p1]))] (.agg [.str e0, .str e1]) := by
  have nd := need_ok
  refine called_of_run tbOk 6 ⟨Tryz.func58, rfl, rfl, Nat.le_of_ble_eq_true rfl⟩ ?_
  (conv => whnf)
  (conv => whnf)
  (try simp only [Nat.zero_add])
  repeat ((first | refine V.s1 ?_ | ((try ((with_reducible refine .ext ?_); (conv => whnf); (try simp only [Nat.zero_add]))); (with_reducible refine call_intro (r := ?_) ?_ ?_); rotate_left; (focus (first | exact (o) | exact (o2) | exact (m0) | exact (nd _ _))); (conv => whnf))); (try simp only [Nat.zero_add]))
  refine lp_any (0) (fun k => k ≤ 2) (fun k => 2 - k) (fun k => [(30, .int .i64 k)]) (fun k => [(7, .box (cS a0 a1 c0 c1 e0 e1 k))]) ?_ ?_ ?_
  · exact V.wk
  · exact Nat.zero_le _
  intro k hk
  have hk4 : k = 0 ∨ k = 1 ∨ k = 2 := by omega
  rcases hk4 with e | e | e
  all_goals subst e
  · simp only [yk0, cS]
    (conv => whnf)
    (try simp only [zY16_0])
    repeat ((first | refine V.s1 ?_); (try simp only [zY16_0]))
    refine ⟨(.take 0 (.take 1 (.take 2 (.ev (.cons 3 [0] (.take 4 (.take 5 (.ev (.cons 6 [0] (.ev (.cons 7 [] (.take 8 (.take 9 (.ev (.cons 10 [] (.ev (.cons 11 [] (.done) (.nil))) (.nil))))) (.nil))) (.nil))))) (.nil)))))), [], ⟨by kernel_rfl, by kernel_rfl, by kernel_rfl, by kernel_rfl⟩, ?_⟩
    refine drw_meet [] [(7, .box [.str c0, .str c1])] ?_ ?_
    · (conv => whnf); (try simp only [zY16_0])
      repeat' (first | exact V.wk | ((with_reducible refine And.intro ?_ draw_nil); (conv => whnf); (try simp only [zY16_0])) | ((with_reducible first | refine draw_split ?_ ?_ | refine nds_split ?_ ?_) <;> (conv => whnf); (try simp only [zY16_0])) | ((first | refine V.s1 ?_ | ((with_reducible refine recheck_and ?_ ?_); (focus ((conv => whnf); (try simp only [zY16_0]); (repeat ((first | refine V.s1 ?_); (try simp only [zY16_0]))); exact ⟨rfl⟩)); (conv => whnf)) | ((try ((with_reducible refine .ext ?_); (conv => whnf); (try simp only [zY16_0]))); (with_reducible refine call_intro (r := ?_) ?_ ?_); rotate_left; (focus (first | exact (m1) | exact (s1) | exact (nd _ _))); (conv => whnf))); (try simp only [zY16_0])) | (refine And.intro ?_ ?_ <;> (conv => whnf); (try simp only [zY16_0])))
    (conv => whnf)
    (try simp only [Nat.zero_add])
    repeat ((first | refine V.s1 ?_); (try simp only [Nat.zero_add]))
    exact ⟨1, by omega, by omega, V.wk⟩
  · simp only [yk1, cS]
    (conv => whnf)
    (try simp only [zY16_0])
    repeat ((first | refine V.s1 ?_); (try simp only [zY16_0]))
    refine ⟨(.take 0 (.take 1 (.take 2 (.ev (.cons 3 [0] (.take 4 (.take 5 (.ev (.cons 6 [0] (.ev (.cons 7 [] (.take 8 (.take 9 (.ev (.cons 10 [] (.ev (.cons 11 [] (.done) (.nil))) (.nil))))) (.nil))) (.nil))))) (.nil)))))), [], ⟨by kernel_rfl, by kernel_rfl, by kernel_rfl, by kernel_rfl⟩, ?_⟩
    refine drw_meet [] [(7, .box [.str e0, .str e1])] ?_ ?_
    · (conv => whnf); (try simp only [zY16_0])
      repeat' (first | exact V.wk | ((with_reducible refine And.intro ?_ draw_nil); (conv => whnf); (try simp only [zY16_0])) | ((with_reducible first | refine draw_split ?_ ?_ | refine nds_split ?_ ?_) <;> (conv => whnf); (try simp only [zY16_0])) | ((first | refine V.s1 ?_ | ((with_reducible refine recheck_and ?_ ?_); (focus ((conv => whnf); (try simp only [zY16_0]); (repeat ((first | refine V.s1 ?_); (try simp only [zY16_0]))); exact ⟨rfl⟩)); (conv => whnf)) | ((try ((with_reducible refine .ext ?_); (conv => whnf); (try simp only [zY16_0]))); (with_reducible refine call_intro (r := ?_) ?_ ?_); rotate_left; (focus (first | exact (m2) | exact (s2) | exact (nd _ _))); (conv => whnf))); (try simp only [zY16_0])) | (refine And.intro ?_ ?_ <;> (conv => whnf); (try simp only [zY16_0])))
    (conv => whnf)
    (try simp only [Nat.zero_add])
    repeat ((first | refine V.s1 ?_); (try simp only [Nat.zero_add]))
    exact ⟨2, by omega, by omega, V.wk⟩
  · simp only [yk2, cS]
    (conv => whnf)
    (try simp only [Nat.zero_add])
    repeat ((first | refine V.s1 ?_); (try simp only [Nat.zero_add]))
    exact Fin.of rfl
theorem cor1_c {r n : Rat} (hr : Fq 20 r) (hn : Fq 20 n) : Called Tryz.prog 58 [frT r, .slf 2 1 (fun j => List.take 2 (List.drop (j * 2) [.str (decZ n.num), .str (dec n.den)]))] (frT (Rat.divInt 1083 1000 * r - Rat.divInt 83 1000 * n)) := by
  have f1 : Fq 5 (Rat.divInt 1083 1000) := fq_divInt (d := 1000) (by omega) (by omega) (by omega)
  have f2 : Fq 5 (Rat.divInt 83 1000) := fq_divInt (d := 1000) (by omega) (by omega) (by omega)
  have o := y_of (n := 1083) (m := 1000) (by omega) (by omega)
  have o2 := y_of (n := 83) (m := 1000) (by omega) (by omega)
  have m0 := zmul f1 hr (by omega) (by omega) (by omega)
  have m1 := zmul f2 hn (by omega) (by omega) (by omega)
  have s := zsub (f1.mul hr) (f2.mul hn) (by omega) (by omega) (by omega)
  exact cor1_t _ _ _ _ _ _ _ _ _ _ _ _ _ _ o o2 m0 m1 s
theorem cor2_c {r n p : Rat} (hr : Fq 20 r) (hn : Fq 20 n) (hp : Fq 20 p) : Called Tryz.prog 58 [frT r, .slf 2 2 (fun j => List.take 2 (List.drop (j * 2) [.str (decZ n.num), .str (dec n.den), .str (decZ p.num), .str (dec p.den)]))] (frT (Rat.divInt 1166 1000 * r - Rat.divInt 83 1000 * n - Rat.divInt 83 1000 * p)) := by
  have f1 : Fq 5 (Rat.divInt 1166 1000) := fq_divInt (d := 1000) (by omega) (by omega) (by omega)
  have f2 : Fq 5 (Rat.divInt 83 1000) := fq_divInt (d := 1000) (by omega) (by omega) (by omega)
  have o := y_of (n := 1166) (m := 1000) (by omega) (by omega)
  have o2 := y_of (n := 83) (m := 1000) (by omega) (by omega)
  have m0 := zmul f1 hr (by omega) (by omega) (by omega)
  have m1 := zmul f2 hn (by omega) (by omega) (by omega)
  have s1 := zsub (f1.mul hr) (f2.mul hn) (by omega) (by omega) (by omega)
  have m2 := zmul f2 hp (by omega) (by omega) (by omega)
  have s2 := zsub ((f1.mul hr).sub (f2.mul hn)) (f2.mul hp) (by omega) (by omega) (by omega)
  exact cor2_t _ _ _ _ _ _ _ _ _ _ _ _ _ _ _ _ _ _ _ _ o o2 m0 m1 s1 m2 s2
end Go.Proofs.YtpcpgjcdkgcbpaaGreatDoor
end
section
namespace Go.Proofs.YtpcpgjcdkgcbpaaGreatDoor
open Go Go.V Go.Nb
theorem yk15 : ((15 : Nat) : Int) = 15 := rfl
theorem yk16 : ((16 : Nat) : Int) = 16 := rfl
theorem yt15 : (15 : Int).toNat = 15 := rfl
theorem yt14 : (14 : Int).toNat = 14 := rfl
theorem ys15 : (15 : Int) - 1 = 14 := rfl
def corF (f : Nat → Tx) (i : Nat) : Tx := xT (corQ (qS f) i)
theorem txq {f : Nat → Tx} (hf : ∀ k, k < 16 → okX (f k) = true) {k : Nat} (hk : k < 16) : (decZ (qS f k).num, dec (qS f k).den) = f k := by
  rw [qS_lt hk]
  exact qX_text (hf k hk)
theorem txq1 {f : Nat → Tx} (hf : ∀ k, k < 16 → okX (f k) = true) {k : Nat} (hk : k < 16) : decZ (qS f k).num = (f k).1 := congrArg Prod.fst (txq hf hk)
theorem txq2 {f : Nat → Tx} (hf : ∀ k, k < 16 → okX (f k) = true) {k : Nat} (hk : k < 16) : dec (qS f k).den = (f k).2 := congrArg Prod.snd (txq hf hk)
theorem zY17_0 : type_of% @Nat.zero_add ∧ type_of% @ys15 ∧ type_of% @yt14 ∧ type_of% @yt15 := ⟨@Nat.zero_add, @ys15, @yt14, @yt15⟩
theorem zY17_1 : type_of% @Int.toNat_natCast ∧ type_of% @Nat.zero_add := ⟨@Int.toNat_natCast, @Nat.zero_add⟩
theorem corr1_ok {f : Nat → Tx} (hf : ∀ k, k < 16 → okX (f k) = true) (bf : BdS 20 f) (ck : Called Tryz.prog 12 [.agg (spL f)] (.int .i64 0)) : Called Tryz.prog 57 [.ref (spL f)] (.agg (spL (corF f))) := by
  have so := stop_ok
  have fs := fq_qS hf bf
  have c0 : Called Tryz.prog 58 [.agg [.str (f 0).1, .str (f 0).2], .slf 2 1 (fun j => List.take 2 (List.drop (j * 2) [.str (f 1).1, .str (f 1).2]))] (.agg [.str (corF f 0).1, .str (corF f 0).2]) := by
    have c := cor1_c (fs 0) (fs 1)
    unfold frT at c
    rw [txq1 hf (k := 0) (by omega), txq2 hf (k := 0) (by omega), txq1 hf (k := 1) (by omega), txq2 hf (k := 1) (by omega)] at c
    exact c
  have c15 : Called Tryz.prog 58 [.agg [.str (f 15).1, .str (f 15).2], .slf 2 1 (fun j => List.take 2 (List.drop (j * 2) [.str (f 14).1, .str (f 14).2]))] (.agg [.str (corF f 15).1, .str (corF f 15).2]) := by
    have c := cor1_c (fs 15) (fs 14)
    unfold frT at c
    rw [txq1 hf (k := 15) (by omega), txq2 hf (k := 15) (by omega), txq1 hf (k := 14) (by omega), txq2 hf (k := 14) (by omega)] at c
    exact c
  have cm : ∀ k, 0 < k → k < 15 → Called Tryz.prog 58 [.agg [.str (f k).1, .str (f k).2], .slf 2 2 (fun j => List.take 2 (List.drop (j * 2) [.str (f (k - 1)).1, .str (f (k - 1)).2, .str (f (k + 1)).1, .str (f (k + 1)).2]))] (.agg [.str (corF f k).1, .str (corF f k).2]) := fun k h1 h2 => by
    have c := cor2_c (fs k) (fs (k - 1)) (fs (k + 1))
    unfold frT at c
    rw [txq1 hf (k := k) (by omega), txq2 hf (k := k) (by omega), txq1 hf (k := k - 1) (by omega), txq2 hf (k := k - 1) (by omega), txq1 hf (k := k + 1) (by omega), txq2 hf (k := k + 1) (by omega)] at c
    have e : corF f k = xT (Rat.divInt 1166 1000 * qS f k - Rat.divInt 83 1000 * qS f (k - 1) - Rat.divInt 83 1000 * qS f (k + 1)) := by
      unfold corF corQ
      rw [if_neg (by omega), if_neg (by omega)]
    rw [e]
    exact c
  clear fs hf bf
  generalize corF f = g at *
  refine called_of_run tbOk 6 ⟨Tryz.func57, rfl, rfl, Nat.le_of_ble_eq_true rfl⟩ ?_
  (conv => whnf)
  (conv => whnf)
  (try simp only [Nat.zero_add])
  repeat ((first | refine V.s1 ?_ | ((try ((with_reducible refine .ext ?_); (conv => whnf); (try simp only [Nat.zero_add]))); (with_reducible refine call_intro (r := ?_) ?_ ?_); rotate_left; (focus (first | exact (ck) | exact (so))); (conv => whnf))); (try simp only [Nat.zero_add]))
  refine lp_any (0) (fun k => k ≤ 16) (fun k => 16 - k) (fun k => [(8, .int .i64 k)]) (fun k => [(2, .box (spL (pref g noX k)))]) ?_ ?_ ?_
  · exact V.wk
  · exact Nat.zero_le _
  intro k hk
  have hk3 : k = 0 ∨ k = 15 ∨ k = 16 ∨ (0 < k ∧ k < 15) := by omega
  rcases hk3 with e | e | e | hk3
  · subst e
    clear cm c15
    simp only [yk0]
    (conv => whnf)
    (try simp only [Nat.zero_add, yt0])
    repeat ((first | refine V.s1 ?_); (try simp only [Nat.zero_add, yt0]))
    refine ⟨(.take 0 (.take 1 (.take 2 (.take 3 (.take 4 (.take 5 (.ev (.cons 6 [3, 2, 1, 0] (.ev (.cons 7 [0] (.take 8 (.ev (.cons 9 [] (.done) (.nil)))) (.nil))) (.nil))))))))), [], ⟨by kernel_rfl, by kernel_rfl, by kernel_rfl, by kernel_rfl⟩, ?_⟩
    refine drw_meet [] [(2, .box (spL (pref g noX 1)))] ?_ ?_
    · (conv => whnf); (try simp only [Nat.zero_add, yt0, yt1])
      repeat' (first | exact V.wk | ((with_reducible refine And.intro ?_ draw_nil); (conv => whnf); (try simp only [Nat.zero_add, yt0, yt1])) | ((with_reducible first | refine draw_split ?_ ?_ | refine nds_split ?_ ?_) <;> (conv => whnf); (try simp only [Nat.zero_add, yt0, yt1])) | ((first | refine V.s1 ?_ | ((with_reducible refine recheck_and ?_ ?_); (focus ((conv => whnf); (try simp only [Nat.zero_add, yt0, yt1]); (repeat ((first | refine V.s1 ?_ | ((refine sp_at (k := 0) (by decide) ?_); (conv => whnf)) | ((refine sp_at (k := 1) (by decide) ?_); (conv => whnf)) | ((refine sp_push (k := 0) (by decide) ?_); (conv => whnf))); (try simp only [Nat.zero_add, yt0, yt1]))); exact ⟨rfl⟩)); (conv => whnf)) | ((try ((with_reducible refine .ext ?_); (conv => whnf); (try simp only [Nat.zero_add, yt0, yt1]))); (with_reducible refine call_intro (r := ?_) ?_ ?_); rotate_left; (focus (first | exact (c0))); (conv => whnf)) | ((refine sp_at (k := 0) (by decide) ?_); (conv => whnf)) | ((refine sp_at (k := 1) (by decide) ?_); (conv => whnf)) | ((refine sp_push (k := 0) (by decide) ?_); (conv => whnf))); (try simp only [Nat.zero_add, yt0, yt1])) | (refine And.intro ?_ ?_ <;> (conv => whnf); (try simp only [Nat.zero_add, yt0, yt1])))
    (conv => whnf)
    (try simp only [Nat.zero_add])
    repeat ((first | refine V.s1 ?_); (try simp only [Nat.zero_add]))
    exact ⟨1, by omega, by omega, V.wk⟩
  · subst e
    clear cm c0
    simp only [yk15]
    (conv => whnf)
    (try simp only [Nat.zero_add, yt15, yt14])
    repeat ((first | refine V.s1 ?_); (try simp only [Nat.zero_add, yt15, yt14]))
    refine ⟨(.take 0 (.take 1 (.take 2 (.take 3 (.take 4 (.take 5 (.take 6 (.take 7 (.ev (.cons 8 [3, 2, 1, 0] (.ev (.cons 9 [0] (.take 10 (.ev (.cons 11 [] (.done) (.nil)))) (.nil))) (.nil))))))))))), [], ⟨by kernel_rfl, by kernel_rfl, by kernel_rfl, by kernel_rfl⟩, ?_⟩
    refine drw_meet [] [(2, .box (spL (pref g noX 16)))] ?_ ?_
    · (conv => whnf); (try simp only [zY17_0])
      repeat' (first | exact V.wk | ((with_reducible refine And.intro ?_ draw_nil); (conv => whnf); (try simp only [zY17_0])) | ((with_reducible first | refine draw_split ?_ ?_ | refine nds_split ?_ ?_) <;> (conv => whnf); (try simp only [zY17_0])) | ((first | refine V.s1 ?_ | ((with_reducible refine recheck_and ?_ ?_); (focus ((conv => whnf); (try simp only [zY17_0]); (repeat ((first | refine V.s1 ?_ | ((refine sp_at (k := 15) (by decide) ?_); (conv => whnf)) | ((refine sp_at (k := 14) (by decide) ?_); (conv => whnf)) | ((refine sp_push (k := 15) (by decide) ?_); (conv => whnf))); (try simp only [zY17_0]))); exact ⟨rfl⟩)); (conv => whnf)) | ((try ((with_reducible refine .ext ?_); (conv => whnf); (try simp only [zY17_0]))); (with_reducible refine call_intro (r := ?_) ?_ ?_); rotate_left; (focus (first | exact (c15))); (conv => whnf)) | ((refine sp_at (k := 15) (by decide) ?_); (conv => whnf)) | ((refine sp_at (k := 14) (by decide) ?_); (conv => whnf)) | ((refine sp_push (k := 15) (by decide) ?_); (conv => whnf))); (try simp only [zY17_0])) | (refine And.intro ?_ ?_ <;> (conv => whnf); (try simp only [zY17_0])))
    (conv => whnf)
    (try simp only [Nat.zero_add])
    repeat ((first | refine V.s1 ?_); (try simp only [Nat.zero_add]))
    exact ⟨16, by omega, by omega, V.wk⟩
  · subst e
    clear cm c0 c15
    simp only [yk16]
    (conv => whnf)
    (try simp only [Nat.zero_add])
    repeat ((first | refine V.s1 ?_); (try simp only [Nat.zero_add]))
    exact Fin.of rfl
  · obtain ⟨h0, h15⟩ := hk3
    have cmk := cm k h0 h15
    have e0 : decide ((k : Int) = 0) = false := decide_eq_false (by omega)
    have e15 : decide ((k : Int) = 15) = false := decide_eq_false (by omega)
    have e16 : decide ((k : Int) < 16) = true := decide_eq_true (by omega)
    have n1 : ((k : Int) - 1).toNat = k - 1 := by omega
    have n2 : ((k : Int) + 1).toNat = k + 1 := by omega
    clear cm c0 c15
    (conv => whnf)
    (try simp only [Nat.zero_add, e0, e15, e16])
    repeat ((first | refine V.s1 ?_); (try simp only [Nat.zero_add, e0, e15, e16]))
    refine ⟨(.take 0 (.take 1 (.take 2 (.take 3 (.take 4 (.take 5 (.take 6 (.take 7 (.take 8 (.take 9 (.take 10 (.take 11 (.ev (.cons 12 [3, 2, 1, 0] (.ev (.cons 13 [0] (.take 14 (.ev (.cons 15 [] (.done) (.nil)))) (.nil))) (.nil))))))))))))))), [], ⟨by kernel_rfl, by kernel_rfl, by kernel_rfl, by kernel_rfl⟩, ?_⟩
    refine drw_meet [] [(2, .box (spL (pref g noX (k + 1))))] ?_ ?_
    · (conv => whnf); (try simp only [zY17_1, n1, n2])
      repeat' (first | exact V.wk | ((with_reducible refine And.intro ?_ draw_nil); (conv => whnf); (try simp only [zY17_1, n1, n2])) | ((with_reducible first | refine draw_split ?_ ?_ | refine nds_split ?_ ?_) <;> (conv => whnf); (try simp only [zY17_1, n1, n2])) | ((first | refine V.s1 ?_ | ((with_reducible refine recheck_and ?_ ?_); (focus ((conv => whnf); (try simp only [zY17_1, n1, n2]); (repeat ((first | refine V.s1 ?_ | ((refine sp_at (k := k) (by omega) ?_); (conv => whnf)) | ((refine sp_at (k := k - 1) (by omega) ?_); (conv => whnf)) | ((refine sp_at (k := k + 1) (by omega) ?_); (conv => whnf)) | ((refine sp_push (k := k) (by omega) ?_); (conv => whnf))); (try simp only [zY17_1, n1, n2]))); exact ⟨rfl⟩)); (conv => whnf)) | ((try ((with_reducible refine .ext ?_); (conv => whnf); (try simp only [zY17_1, n1, n2]))); (with_reducible refine call_intro (r := ?_) ?_ ?_); rotate_left; (focus (first | exact (cmk))); (conv => whnf)) | ((refine sp_at (k := k) (by omega) ?_); (conv => whnf)) | ((refine sp_at (k := k - 1) (by omega) ?_); (conv => whnf)) | ((refine sp_at (k := k + 1) (by omega) ?_); (conv => whnf)) | ((refine sp_push (k := k) (by omega) ?_); (conv => whnf))); (try simp only [zY17_1, n1, n2])) | (refine And.intro ?_ ?_ <;> (conv => whnf); (try simp only [zY17_1, n1, n2])))
    (conv => whnf)
    (try simp only [Nat.zero_add])
    repeat ((first | refine V.s1 ?_); (try simp only [Nat.zero_add]))
    exact ⟨(k + 1), by omega, by omega, V.wk⟩
end Go.Proofs.YtpcpgjcdkgcbpaaGreatDoor
end
section
namespace Go.Proofs.YtpcpgjcdkgcbpaaGreatDoor
open Go Go.V Go.Nb
theorem zY18_0 : type_of% @Int.toNat_natCast ∧ type_of% @Nat.zero_add := ⟨@Int.toNat_natCast, @Nat.zero_add⟩
theorem mixs1_t (a b MA MB G : Nat → Tx) (t0 t1 o0 o1 r0 r1 : List UInt8) (ca : Called Tryz.prog 12 [.agg (spL a)] (.int .i64 0)) (cb : Called Tryz.prog 12 [.agg (spL b)] (.int .i64 0)) (ct : Called Tryz.prog 34 [.agg [.str t0, .str t1]] (.int .i64 0))
    (ou : Called Tryz.prog 37 [.agg [.str t0, .str t1], .int .i64 1] (.bool false)) (o : Called Tryz.prog 48 [.int .i64 1, .int .i64 1] (.tup [.agg [.str o0, .str o1], .int .i64 0])) (sb : Called Tryz.prog 60 [.agg [.str o0, .str o1], .agg [.str t0, .str t1]] (.tup [.agg [.str r0, .str r1], .int .i64 0]))
    (ma : ∀ k, k < 16 → Called Tryz.prog 31 [.agg [.str r0, .str r1], .agg [.str (a k).1, .str (a k).2]] (.tup [.agg [.str (MA k).1, .str (MA k).2], .int .i64 0]))
    (mb : ∀ k, k < 16 → Called Tryz.prog 31 [.agg [.str t0, .str t1], .agg [.str (b k).1, .str (b k).2]] (.tup [.agg [.str (MB k).1, .str (MB k).2], .int .i64 0]))
    (ad : ∀ k, k < 16 → Called Tryz.prog 21 [.agg [.str (MA k).1, .str (MA k).2], .agg [.str (MB k).1, .str (MB k).2]] (.tup [.agg [.str (G k).1, .str (G k).2], .int .i64 0])) :
    Called Tryz.prog 59 [.ref (spL a), .ref (spL b), .ref [.str t0, .str t1]] (.agg (spL G)) := by
  have so := stop_ok
  have nd := need_ok
  refine called_of_run tbOk 6 ⟨Tryz.func59, rfl, rfl, Nat.le_of_ble_eq_true rfl⟩ ?_
  (conv => whnf)
  (conv => whnf)
  (try simp only [Nat.zero_add])
  repeat ((first | refine V.s1 ?_ | ((try ((with_reducible refine .ext ?_); (conv => whnf); (try simp only [Nat.zero_add]))); (with_reducible refine call_intro (r := ?_) ?_ ?_); rotate_left; (focus (first | exact (ca) | exact (cb) | exact (ct) | exact (ou) | exact (so))); (conv => whnf))); (try simp only [Nat.zero_add]))
  refine ⟨(.take 4 (.ev (.cons 0 [4] (.take 1 (.take 2 (.ev (.cons 3 [4] (.ev (.cons 5 [] (.take 6 (.take 7 (.ev (.cons 8 [] (.ev (.cons 9 [] (.ev (.cons 10 [] (.done) (.nil))) (.nil))) (.cons 9 [7, 6] (.ev (.cons 8 [] (.ev (.cons 10 [] (.done) (.nil))) (.nil))) (.nil)))))) (.cons 9 [4] (.ev (.cons 5 [] (.take 6 (.take 7 (.ev (.cons 8 [] (.ev (.cons 10 [] (.done) (.nil))) (.nil))))) (.nil))) (.nil)))) (.cons 9 [2, 1, 4] (.ev (.cons 3 [4] (.ev (.cons 5 [] (.take 6 (.take 7 (.ev (.cons 8 [] (.ev (.cons 10 [] (.done) (.nil))) (.nil))))) (.nil))) (.nil))) (.nil)))))) (.cons 9 [4] (.ev (.cons 0 [4] (.take 1 (.take 2 (.ev (.cons 3 [4] (.ev (.cons 5 [] (.take 6 (.take 7 (.ev (.cons 8 [] (.ev (.cons 10 [] (.done) (.nil))) (.nil))))) (.nil))) (.nil))))) (.nil))) (.nil))))), [], ⟨by kernel_rfl, by kernel_rfl, by kernel_rfl, by kernel_rfl⟩, ?_⟩
  refine drw_meet [(4, .box 4 0)] [(4, .box [.str r0, .str r1])] ?_ ?_
  · (conv => whnf); (try simp only [Nat.zero_add])
    repeat' (first | exact V.wk | ((with_reducible refine And.intro ?_ draw_nil); (conv => whnf); (try simp only [Nat.zero_add])) | ((with_reducible first | refine draw_split ?_ ?_ | refine nds_split ?_ ?_) <;> (conv => whnf); (try simp only [Nat.zero_add])) | ((first | refine V.s1 ?_ | ((with_reducible refine recheck_and ?_ ?_); (focus ((conv => whnf); (try simp only [Nat.zero_add]); (repeat ((first | refine V.s1 ?_); (try simp only [Nat.zero_add]))); exact ⟨rfl⟩)); (conv => whnf)) | ((try ((with_reducible refine .ext ?_); (conv => whnf); (try simp only [Nat.zero_add]))); (with_reducible refine call_intro (r := ?_) ?_ ?_); rotate_left; (focus (first | exact (o) | exact (sb) | exact (nd _ _))); (conv => whnf))); (try simp only [Nat.zero_add])) | (refine And.intro ?_ ?_ <;> (conv => whnf); (try simp only [Nat.zero_add])))
  (conv => whnf)
  (try simp only [Nat.zero_add])
  repeat ((first | refine V.s1 ?_); (try simp only [Nat.zero_add]))
  refine lp_any (0) (fun k => k ≤ 16) (fun k => 16 - k) (fun k => [(28, .int .i64 k)]) (fun k => [(5, .box (spL (pref G noX k)))]) ?_ ?_ ?_
  · exact V.wk
  · exact Nat.zero_le _
  intro k hk
  (conv => whnf)
  (try simp only [Nat.zero_add])
  repeat ((first | refine V.s1 ?_); (try simp only [Nat.zero_add]))
  refine Cnd.split (CondB.mk (fun hq => ?_) (fun hq => ?_))
  · have hk2 : k < 16 := by simp at hq; omega
    have mak := ma k hk2
    have mbk := mb k hk2
    have adk := ad k hk2
    clear ma mb ad
    (conv => whnf)
    (try simp only [Nat.zero_add])
    repeat ((first | refine V.s1 ?_); (try simp only [Nat.zero_add]))
    refine ⟨(.take 0 (.take 1 (.take 2 (.take 3 (.take 4 (.take 9 (.take 10 (.take 11 (.take 12 (.ev (.cons 5 [12, 11, 10, 9, 0] (.take 6 (.take 7 (.ev (.cons 8 [12, 11, 10, 9, 0] (.ev (.cons 13 [0] (.take 14 (.take 15 (.ev (.cons 16 [0] (.ev (.cons 17 [0] (.take 18 (.take 19 (.ev (.cons 20 [0] (.take 21 (.ev (.cons 22 [] (.done) (.nil)))) (.nil))))) (.nil))) (.nil))))) (.nil))) (.nil))))) (.nil)))))))))))), [], ⟨by kernel_rfl, by kernel_rfl, by kernel_rfl, by kernel_rfl⟩, ?_⟩
    refine drw_meet [] [(5, .box (spL (pref G noX (k + 1))))] ?_ ?_
    · (conv => whnf); (try simp only [zY18_0])
      repeat' (first | exact V.wk | ((with_reducible refine And.intro ?_ draw_nil); (conv => whnf); (try simp only [zY18_0])) | ((with_reducible first | refine draw_split ?_ ?_ | refine nds_split ?_ ?_) <;> (conv => whnf); (try simp only [zY18_0])) | ((first | refine V.s1 ?_ | ((with_reducible refine recheck_and ?_ ?_); (focus ((conv => whnf); (try simp only [zY18_0]); (repeat ((first | refine V.s1 ?_ | ((refine sp_at hk2 ?_); (conv => whnf)) | ((refine sp_push hk2 ?_); (conv => whnf))); (try simp only [zY18_0]))); exact ⟨rfl⟩)); (conv => whnf)) | ((try ((with_reducible refine .ext ?_); (conv => whnf); (try simp only [zY18_0]))); (with_reducible refine call_intro (r := ?_) ?_ ?_); rotate_left; (focus (first | exact (mak) | exact (mbk) | exact (adk) | exact (nd _ _))); (conv => whnf)) | ((refine sp_at hk2 ?_); (conv => whnf)) | ((refine sp_push hk2 ?_); (conv => whnf))); (try simp only [zY18_0])) | (refine And.intro ?_ ?_ <;> (conv => whnf); (try simp only [zY18_0])))
    (conv => whnf)
    (try simp only [Nat.zero_add])
    repeat ((first | refine V.s1 ?_); (try simp only [Nat.zero_add]))
    exact ⟨(k + 1), by omega, by omega, V.wk⟩
  · have hk2 : k = 16 := by simp at hq; omega
    subst hk2
    (conv => whnf)
    (try simp only [Nat.zero_add])
    repeat ((first | refine V.s1 ?_); (try simp only [Nat.zero_add]))
    exact Fin.of rfl
theorem mixs1_pa (a b : Nat → Tx) (t0 t1 : List UInt8) (e : Int) (he : e ≠ 0) (ca : Called Tryz.prog 12 [.agg (spL a)] (.int .i64 e)) : Panics Tryz.prog 59 [.ref (spL a), .ref (spL b), .ref [.str t0, .str t1]] (.iface 114 (.agg #[.int .i64 e])) := by
  have sp := stop_pan e he
  refine panics_of_run tbOk 6 ⟨Tryz.func59, rfl, rfl, Nat.le_of_ble_eq_true rfl⟩ ?_
  (conv => whnf)
  (conv => whnf)
  (try simp only [Nat.zero_add])
  repeat ((first | refine V.s1 ?_ | ((try ((with_reducible refine .ext ?_); (conv => whnf); (try simp only [Nat.zero_add]))); (with_reducible refine call_intro (r := ?_) ?_ ?_); rotate_left; (focus (first | exact (ca))); (conv => whnf))); (try simp only [Nat.zero_add]))
  refine .pan ?_
  (conv => whnf)
  refine ⟨_, sp, ?_⟩
  (conv => whnf)
theorem mixs1_pb (a b : Nat → Tx) (t0 t1 : List UInt8) (e : Int) (he : e ≠ 0) (ca : Called Tryz.prog 12 [.agg (spL a)] (.int .i64 0)) (cb : Called Tryz.prog 12 [.agg (spL b)] (.int .i64 e)) : Panics Tryz.prog 59 [.ref (spL a), .ref (spL b), .ref [.str t0, .str t1]] (.iface 114 (.agg #[.int .i64 e])) := by
  have sp := stop_pan e he
  have so := stop_ok
  refine panics_of_run tbOk 6 ⟨Tryz.func59, rfl, rfl, Nat.le_of_ble_eq_true rfl⟩ ?_
  (conv => whnf)
  (conv => whnf)
  (try simp only [Nat.zero_add])
  repeat ((first | refine V.s1 ?_ | ((try ((with_reducible refine .ext ?_); (conv => whnf); (try simp only [Nat.zero_add]))); (with_reducible refine call_intro (r := ?_) ?_ ?_); rotate_left; (focus (first | exact (ca) | exact (cb) | exact (so))); (conv => whnf))); (try simp only [Nat.zero_add]))
  refine .pan ?_
  (conv => whnf)
  refine ⟨_, sp, ?_⟩
  (conv => whnf)
theorem mixs1_pt (a b : Nat → Tx) (t0 t1 : List UInt8) (e : Int) (he : e ≠ 0) (ca : Called Tryz.prog 12 [.agg (spL a)] (.int .i64 0)) (cb : Called Tryz.prog 12 [.agg (spL b)] (.int .i64 0)) (ct : Called Tryz.prog 34 [.agg [.str t0, .str t1]] (.int .i64 e)) : Panics Tryz.prog 59 [.ref (spL a), .ref (spL b), .ref [.str t0, .str t1]] (.iface 114 (.agg #[.int .i64 e])) := by
  have sp := stop_pan e he
  have so := stop_ok
  refine panics_of_run tbOk 6 ⟨Tryz.func59, rfl, rfl, Nat.le_of_ble_eq_true rfl⟩ ?_
  (conv => whnf)
  (conv => whnf)
  (try simp only [Nat.zero_add])
  repeat ((first | refine V.s1 ?_ | ((try ((with_reducible refine .ext ?_); (conv => whnf); (try simp only [Nat.zero_add]))); (with_reducible refine call_intro (r := ?_) ?_ ?_); rotate_left; (focus (first | exact (ca) | exact (cb) | exact (ct) | exact (so))); (conv => whnf))); (try simp only [Nat.zero_add]))
  refine .pan ?_
  (conv => whnf)
  refine ⟨_, sp, ?_⟩
  (conv => whnf)
theorem mixs1_po (a b : Nat → Tx) (t0 t1 : List UInt8) (ca : Called Tryz.prog 12 [.agg (spL a)] (.int .i64 0)) (cb : Called Tryz.prog 12 [.agg (spL b)] (.int .i64 0)) (ct : Called Tryz.prog 34 [.agg [.str t0, .str t1]] (.int .i64 0))
    (ou : Called Tryz.prog 37 [.agg [.str t0, .str t1], .int .i64 1] (.bool true)) : Panics Tryz.prog 59 [.ref (spL a), .ref (spL b), .ref [.str t0, .str t1]] (.iface 114 (.agg #[.int .i64 2])) := by
  have sp := stop_pan 2 (by decide)
  have so := stop_ok
  refine panics_of_run tbOk 6 ⟨Tryz.func59, rfl, rfl, Nat.le_of_ble_eq_true rfl⟩ ?_
  (conv => whnf)
  (conv => whnf)
  (try simp only [Nat.zero_add])
  repeat ((first | refine V.s1 ?_ | ((try ((with_reducible refine .ext ?_); (conv => whnf); (try simp only [Nat.zero_add]))); (with_reducible refine call_intro (r := ?_) ?_ ?_); rotate_left; (focus (first | exact (ca) | exact (cb) | exact (ct) | exact (ou) | exact (so))); (conv => whnf))); (try simp only [Nat.zero_add]))
  refine .pan ?_
  (conv => whnf)
  refine ⟨_, sp, ?_⟩
  (conv => whnf)
end Go.Proofs.YtpcpgjcdkgcbpaaGreatDoor
end
section
namespace Go.Proofs.YtpcpgjcdkgcbpaaGreatDoor
open Go Go.V Go.Nb
theorem chkS_in (f : Nat → Tx) : InR .i64 (chkS f) := by
  rcases chkS_is f with e | e | e <;> rw [e] <;> simp [InR, V.lo, V.hi]
theorem corr1_pan (f : Nat → Tx) (e : Int) (he : e ≠ 0) (ck : Called Tryz.prog 12 [.agg (spL f)] (.int .i64 e)) : Panics Tryz.prog 57 [.ref (spL f)] (.iface 114 (.agg #[.int .i64 e])) := by
  have sp := stop_pan e he
  refine panics_of_run tbOk 6 ⟨Tryz.func57, rfl, rfl, Nat.le_of_ble_eq_true rfl⟩ ?_
  (conv => whnf)
  (conv => whnf)
  (try simp only [Nat.zero_add])
  repeat ((first | refine V.s1 ?_ | ((try ((with_reducible refine .ext ?_); (conv => whnf); (try simp only [Nat.zero_add]))); (with_reducible refine call_intro (r := ?_) ?_ ?_); rotate_left; (focus (first | exact (ck))); (conv => whnf))); (try simp only [Nat.zero_add]))
  refine .pan ?_
  (conv => whnf)
  refine ⟨_, sp, ?_⟩
  (conv => whnf)
theorem corrected_t (f g : Nat → Tx) (e : Int) (c : Called Tryz.prog 56 [.fn 57 [] [.ref (spL f)]] (.tup [.agg (spL g), .int .i64 e])) : Called Tryz.prog 27 [.agg (spL f)] (.tup [.agg (spL g), .int .i64 e]) := by
  refine called_of_run tbOk 6 ⟨Tryz.func27, rfl, rfl, Nat.le_of_ble_eq_true rfl⟩ ?_
  (conv => whnf)
  (conv => whnf)
  (try simp only [Nat.zero_add])
  repeat ((first | refine V.s1 ?_ | ((try ((with_reducible refine .ext ?_); (conv => whnf); (try simp only [Nat.zero_add]))); (with_reducible refine call_intro (r := ?_) ?_ ?_); rotate_left; (focus (first | exact (c))); (conv => whnf))); (try simp only [Nat.zero_add]))
  exact Fin.of rfl
theorem corrected_c {f : Nat → Tx} (bf : BdS 20 f) : Called Tryz.prog 27 [.agg (spL f)] (corX f) := by
  have ck := check_c bf
  unfold corX
  by_cases h : chkS f = 0
  · rw [if_pos h]
    rw [h] at ck
    exact corrected_t _ _ _ (att_spe_ok (es := []) (corr1_ok (chkS_ok h).1 bf ck))
  · rw [if_neg h]
    exact corrected_t _ _ _ (att_spe_pan (es := []) (chkS_in f) (corr1_pan f _ h ck))
end Go.Proofs.YtpcpgjcdkgcbpaaGreatDoor
end
section
namespace Go.Proofs.YtpcpgjcdkgcbpaaGreatDoor
open Go Go.V Go.Nb
theorem mixs_t (a b : Nat → Tx) (t : Tx) (g : Nat → Tx) (e : Int) (c : Called Tryz.prog 56 [.fn 59 [] [.ref (spL a), .ref (spL b), .ref [.str t.1, .str t.2]]] (.tup [.agg (spL g), .int .i64 e])) : Called Tryz.prog 28 [.agg (spL a), .agg (spL b), .agg [.str t.1, .str t.2]] (.tup [.agg (spL g), .int .i64 e]) := by
  refine called_of_run tbOk 6 ⟨Tryz.func28, rfl, rfl, Nat.le_of_ble_eq_true rfl⟩ ?_
  (conv => whnf)
  (conv => whnf)
  (try simp only [Nat.zero_add])
  repeat ((first | refine V.s1 ?_ | ((try ((with_reducible refine .ext ?_); (conv => whnf); (try simp only [Nat.zero_add]))); (with_reducible refine call_intro (r := ?_) ?_ ?_); rotate_left; (focus (first | exact (c))); (conv => whnf))); (try simp only [Nat.zero_add]))
  exact Fin.of rfl
def mixG (a b : Nat → Tx) (t : Tx) (i : Nat) : Tx := xT (mixQ (qX t) (qX (a i)) (qX (b i)))
theorem spL_congr {f g : Nat → Tx} (h : ∀ k, k < 16 → f k = g k) : spL f = spL g := by
  unfold spL
  rw [h 0 (by omega), h 1 (by omega), h 2 (by omega), h 3 (by omega), h 4 (by omega), h 5 (by omega), h 6 (by omega), h 7 (by omega), h 8 (by omega), h 9 (by omega), h 10 (by omega), h 11 (by omega), h 12 (by omega), h 13 (by omega), h 14 (by omega), h 15 (by omega)]
theorem mixs_ok {a b : Nat → Tx} {t : Tx} (ha : ∀ k, k < 16 → okX (a k) = true) (hb : ∀ k, k < 16 → okX (b k) = true) (ht : okX t = true) (ba : BdS 20 a) (bb : BdS 20 b) (bt : BdX 20 t) (ca : Called Tryz.prog 12 [.agg (spL a)] (.int .i64 0)) (cb : Called Tryz.prog 12 [.agg (spL b)] (.int .i64 0)) (ct : Called Tryz.prog 34 [.agg [.str t.1, .str t.2]] (.int .i64 0))
    (ou : Called Tryz.prog 37 [.agg [.str t.1, .str t.2], .int .i64 1] (.bool false)) :
    Called Tryz.prog 59 [.ref (spL a), .ref (spL b), .ref [.str t.1, .str t.2]] (.agg (spL (mixG a b t))) := by
  have o := y_of (n := 1) (m := 1) (by omega) (by omega)
  rw [y_div1] at o
  have ft := bt.2 ht
  have f1 : Fq 1 (1 : Rat) := y_one
  have xt : frT (qX t) = .agg [.str t.1, .str t.2] := congrArg (fun x : Tx => D.agg [.str x.1, .str x.2]) (qX_text ht)
  have xa : ∀ k, k < 16 → frT (qX (a k)) = .agg [.str (a k).1, .str (a k).2] := fun k hk => congrArg (fun x : Tx => D.agg [.str x.1, .str x.2]) (qX_text (ha k hk))
  have xb : ∀ k, k < 16 → frT (qX (b k)) = .agg [.str (b k).1, .str (b k).2] := fun k hk => congrArg (fun x : Tx => D.agg [.str x.1, .str x.2]) (qX_text (hb k hk))
  have sb := zsub f1 ft (by omega) (by omega) (by omega)
  rw [xt] at sb
  have ma : ∀ k, k < 16 → Called Tryz.prog 31 [frT (1 - qX t), .agg [.str (a k).1, .str (a k).2]] (.tup [frT ((1 - qX t) * qX (a k)), .int .i64 0]) := fun k hk => by
    have c := zmul (f1.sub ft) ((ba k).2 (ha k hk)) (by omega) (by omega) (by omega)
    rw [xa k hk] at c
    exact c
  have mb : ∀ k, k < 16 → Called Tryz.prog 31 [.agg [.str t.1, .str t.2], .agg [.str (b k).1, .str (b k).2]] (.tup [frT (qX t * qX (b k)), .int .i64 0]) := fun k hk => by
    have c := zmul ft ((bb k).2 (hb k hk)) (by omega) (by omega) (by omega)
    rw [xb k hk, xt] at c
    exact c
  have ad : ∀ k, k < 16 → Called Tryz.prog 21 [frT ((1 - qX t) * qX (a k)), frT (qX t * qX (b k))] (.tup [frT (mixQ (qX t) (qX (a k)) (qX (b k))), .int .i64 0]) := fun k hk =>
    zadd ((f1.sub ft).mul ((ba k).2 (ha k hk))) (ft.mul ((bb k).2 (hb k hk))) (by omega) (by omega) (by omega)
  exact mixs1_t a b (fun k => xT ((1 - qX t) * qX (a k))) (fun k => xT (qX t * qX (b k))) (mixG a b t) _ _ _ _ _ _ ca cb ct ou o sb ma mb ad
theorem smix_c {a b : Nat → Tx} {t : Tx} (ba : BdS 20 a) (bb : BdS 20 b) (bt : BdX 20 t) : Called Tryz.prog 28 [.agg (spL a), .agg (spL b), .agg [.str t.1, .str t.2]] (mixS a b t) := by
  have ca := check_c ba
  have cb := check_c bb
  have ct := fcheck_c _ _ bt.1.1 bt.1.2
  change Called Tryz.prog _ _ (.int .i64 (if okX t then 0 else 20)) at ct
  unfold mixS
  by_cases h1 : chkS a = 0
  · rw [if_pos h1]
    rw [h1] at ca
    by_cases h2 : chkS b = 0
    · rw [if_pos h2]
      rw [h2] at cb
      cases h3 : okX t with
      | true =>
        rw [h3] at ct
        have ou := outside_c (m := 1) h3 bt (by omega) (by omega)
        rw [y_div1] at ou
        cases h4 : outX t 1 with
        | true =>
          rw [h4] at ou
          exact mixs_t _ _ _ _ _ (att_spe_pan (es := []) (by simp [InR, V.lo, V.hi]) (mixs1_po a b _ _ ca cb ct ou))
        | false =>
          rw [h4] at ou
          exact mixs_t _ _ _ _ _ (att_spe_ok (es := []) (mixs_ok (chkS_ok h1).1 (chkS_ok h2).1 h3 ba bb bt ca cb ct ou))
      | false =>
        rw [h3] at ct
        exact mixs_t _ _ _ _ _ (att_spe_pan (es := []) (by simp [InR, V.lo, V.hi]) (mixs1_pt a b _ _ 20 (by decide) ca cb ct))
    · rw [if_neg h2]
      exact mixs_t _ _ _ _ _ (att_spe_pan (es := []) (chkS_in b) (mixs1_pb a b _ _ _ h2 ca cb))
  · rw [if_neg h1]
    exact mixs_t _ _ _ _ _ (att_spe_pan (es := []) (chkS_in a) (mixs1_pa a b _ _ _ h1 ca))
end Go.Proofs.YtpcpgjcdkgcbpaaGreatDoor
end
section
namespace Go.Proofs.YtpcpgjcdkgcbpaaGreatDoor
open Go Go.V Go.Nb
theorem l26_of {n m : Int} (hn : -9223372036854775807 ≤ n ∧ n ≤ 9223372036854775807) (hm : 1 ≤ m ∧ m ≤ 9223372036854775807) : Called Tryz.prog 22 [.int .i64 n, .int .i64 m] (frT (Rat.divInt n m)) := by
  have c := y_of hn hm
  unfold frT at *
  generalize Rat.divInt n m = q at *
  refine called_of_run tbOk 6 ⟨Tryz.func22, rfl, rfl, Nat.le_of_ble_eq_true rfl⟩ ?_
  (conv => whnf)
  refine V.st ?_
  repeat ((try ((with_reducible refine .ext ?_); (conv => whnf))); (with_reducible refine call_intro (r := ?_) ?_ ?_); rotate_left; (focus (first | exact (c))); (conv => whnf); refine V.st ?_)
  exact Fin.of rfl
theorem zY21_0 : type_of% @Int.toNat_natCast ∧ type_of% @Nat.zero_add := ⟨@Int.toNat_natCast, @Nat.zero_add⟩
theorem rflat_c (x : Tx) : Called Tryz.prog 42 [.agg [.str x.1, .str x.2]] (.agg (spL fun _ => x)) := by
  refine called_of_run tbOk 6 ⟨Tryz.func42, rfl, rfl, Nat.le_of_ble_eq_true rfl⟩ ?_
  (conv => whnf)
  (conv => whnf)
  (try simp only [Nat.zero_add])
  repeat ((first | refine V.s1 ?_); (try simp only [Nat.zero_add]))
  refine lp_any (0) (fun k => k ≤ 16) (fun k => 16 - k) (fun k => [(4, .int .i64 k)]) (fun k => [(3, .box (spL (pref (fun _ => x) noX k)))]) ?_ ?_ ?_
  · exact V.wk
  · exact Nat.zero_le _
  intro k hk
  (conv => whnf)
  (try simp only [Nat.zero_add])
  repeat ((first | refine V.s1 ?_); (try simp only [Nat.zero_add]))
  refine Cnd.split (CondB.mk (fun hq => ?_) (fun hq => ?_))
  · have hk2 : k < 16 := by simp at hq; omega
    (conv => whnf)
    (try simp only [zY21_0])
    repeat ((first | refine V.s1 ?_); (try simp only [zY21_0]))
    refine sp_push (g := fun _ => x) hk2 ?_
    (conv => whnf)
    (try simp only [Nat.zero_add])
    repeat ((first | refine V.s1 ?_); (try simp only [Nat.zero_add]))
    exact ⟨(k + 1), by omega, by omega, V.wk⟩
  · have hk2 : k = 16 := by simp at hq; omega
    subst hk2
    (conv => whnf)
    (try simp only [Nat.zero_add])
    repeat ((first | refine V.s1 ?_); (try simp only [Nat.zero_add]))
    exact Fin.of rfl
def onlyF (x y : Tx) (m : Nat) : Nat → Tx := putF (fun _ => x) m y
theorem only_t (x y : Tx) (m : Nat) (hm : m < 16) (c0 : Called Tryz.prog 22 [.int .i64 0, .int .i64 1] (.agg [.str x.1, .str x.2])) (c1 : Called Tryz.prog 22 [.int .i64 1, .int .i64 1] (.agg [.str y.1, .str y.2])) :
    Called Tryz.prog 26 [.int .i64 m] (.agg (spL (onlyF x y m))) := by
  refine called_of_run tbOk 6 ⟨Tryz.func26, rfl, rfl, Nat.le_of_ble_eq_true rfl⟩ ?_
  (conv => whnf)
  (conv => whnf)
  (try simp only [Nat.zero_add])
  repeat ((first | refine V.s1 ?_); (try simp only [Nat.zero_add]))
  refine lp_any (0) (fun k => k ≤ 16) (fun k => 16 - k) (fun k => [(4, .int .i64 k)]) (fun k => [(2, .box (spL (pref (fun _ => x) noX k)))]) ?_ ?_ ?_
  · exact V.wk
  · exact Nat.zero_le _
  intro k hk
  (conv => whnf)
  (try simp only [Nat.zero_add])
  repeat ((first | refine V.s1 ?_); (try simp only [Nat.zero_add]))
  refine Cnd.split (CondB.mk (fun hq => ?_) (fun hq => ?_))
  · have hk2 : k < 16 := by simp at hq; omega
    (conv => whnf)
    (try simp only [zY21_0])
    repeat ((first | refine V.s1 ?_ | ((try ((with_reducible refine .ext ?_); (conv => whnf); (try simp only [zY21_0]))); (with_reducible refine call_intro (r := ?_) ?_ ?_); rotate_left; (focus (first | exact (c0))); (conv => whnf)) | ((refine sp_push (g := fun _ => x) hk2 ?_); (conv => whnf))); (try simp only [zY21_0]))
    exact ⟨(k + 1), by omega, by omega, V.wk⟩
  · have hk2 : k = 16 := by simp at hq; omega
    subst hk2
    (conv => whnf)
    (try simp only [zY21_0])
    repeat ((first | refine V.s1 ?_ | ((try ((with_reducible refine .ext ?_); (conv => whnf); (try simp only [zY21_0]))); (with_reducible refine call_intro (r := ?_) ?_ ?_); rotate_left; (focus (first | exact (c1))); (conv => whnf)) | ((refine sp_put (f := fun _ => x) hm ?_); (conv => whnf))); (try simp only [zY21_0]))
    exact Fin.of rfl
end Go.Proofs.YtpcpgjcdkgcbpaaGreatDoor
end
section
namespace Go.Proofs.YtpcpgjcdkgcbpaaGreatDoor
open Go Go.V Go.Nb
def drN (ds : List Int) (k : Nat) : Int := (ds.getD k 0).tmod 201
def drF (ds : List Int) (k : Nat) : Tx := xT (Rat.divInt (drN ds k) 100)
theorem drN_bd {ds : List Int} (hd : ∀ n ∈ ds, 0 ≤ n ∧ n ≤ 255) (k : Nat) : 0 ≤ drN ds k ∧ drN ds k ≤ 200 := by
  have h : 0 ≤ ds.getD k 0 := by
    rw [List.getD_eq_getElem?_getD]
    cases e : ds[k]? with
    | none => exact Int.le_refl 0
    | some n => exact (hd n (List.mem_of_getElem? e)).1
  unfold drN
  rw [Int.tmod_eq_emod_of_nonneg h]
  omega
theorem draft_t (ds : List Int) (hl : ds.length = 16) (g : Nat → Tx) (c : ∀ k, k < 16 → Called Tryz.prog 33 [.int .i64 ((ds.getD k 0).tmod 201), .int .i64 100] (.agg [.str (g k).1, .str (g k).2])) :
    Called Tryz.prog 10 [.iarr .u8 ds] (.agg (spL g)) := by
  refine called_of_run tbOk 6 ⟨Tryz.func10, rfl, rfl, Nat.le_of_ble_eq_true rfl⟩ ?_
  (conv => whnf)
  (conv => whnf)
  (try simp only [Nat.zero_add])
  repeat ((first | refine V.s1 ?_); (try simp only [Nat.zero_add]))
  refine lp_any (0) (fun k => k ≤ 16) (fun k => 16 - k) (fun k => [(4, .int .i64 k)]) (fun k => [(3, .box (spL (pref g noX k)))]) ?_ ?_ ?_
  · exact V.wk
  · exact Nat.zero_le _
  intro k hk
  (conv => whnf)
  (try simp only [Nat.zero_add])
  repeat ((first | refine V.s1 ?_); (try simp only [Nat.zero_add]))
  refine Cnd.split (CondB.mk (fun hq => ?_) (fun hq => ?_))
  · have hk2 : k < 16 := by simp at hq; omega
    have ck := c k hk2
    (conv => whnf)
    (try simp only [Nat.zero_add, Int.toNat_natCast])
    repeat ((first | refine V.s1 ?_ | ((try ((with_reducible refine .ext ?_); (conv => whnf); (try simp only [Nat.zero_add, Int.toNat_natCast]))); (with_reducible refine call_intro (r := ?_) ?_ ?_); rotate_left; (focus (first | exact (ck))); (conv => whnf)) | ((refine sp_push hk2 ?_); (conv => whnf))); (try simp only [Nat.zero_add, Int.toNat_natCast]))
    exact ⟨(k + 1), by omega, by omega, V.wk⟩
  · have hk2 : k = 16 := by simp at hq; omega
    subst hk2
    (conv => whnf)
    (try simp only [Nat.zero_add])
    repeat ((first | refine V.s1 ?_); (try simp only [Nat.zero_add]))
    exact Fin.of rfl
theorem draft_c {ds : List Int} (hl : ds.length = 16) (hd : ∀ n ∈ ds, 0 ≤ n ∧ n ≤ 255) : Called Tryz.prog 10 [.iarr .u8 ds] (.agg (spL (drF ds))) := by
  refine draft_t ds hl (drF ds) fun k hk => ?_
  have hb := drN_bd hd k
  have c := y_23of (n := drN ds k) (m := 100) (by omega) (by omega)
  exact c
end Go.Proofs.YtpcpgjcdkgcbpaaGreatDoor
end
section
namespace Go.Proofs.YtpcpgjcdkgcbpaaGreatDoor
theorem k0 : ((0 : Nat) : Int) = 0 := rfl
theorem k1 : ((1 : Nat) : Int) = 1 := rfl
theorem k2 : ((2 : Nat) : Int) = 2 := rfl
theorem k3 : ((3 : Nat) : Int) = 3 := rfl
theorem tn0 : (0 : Int).toNat = 0 := rfl
theorem tn1 : (1 : Int).toNat = 1 := rfl
theorem tn2 : (2 : Int).toNat = 2 := rfl
theorem tn3 : (3 : Int).toNat = 3 := rfl
end Go.Proofs.YtpcpgjcdkgcbpaaGreatDoor
end
section
namespace Go.Proofs.YtpcpgjcdkgcbpaaGreatDoor
open Go Go.V Go.Nb
def numQ (n d : Int) : Rat := Rat.divInt n (1 + d)
theorem numFrac_c (n d : Int) (hn : -32768 ≤ n ∧ n ≤ 32767) (hd : 0 ≤ d ∧ d ≤ 255) : Called Tryz.prog 14 [.agg [.int .i16 n, .int .u8 d]] (frT (numQ n d)) := by
  have c := y_23of (n := n) (m := 1 + d) (by omega) (by omega)
  unfold numQ frT at *
  generalize Rat.divInt n (1 + d) = q at *
  refine called_of_run tbOk 6 ⟨Tryz.func14, rfl, rfl, Nat.le_of_ble_eq_true rfl⟩ ?_
  (conv => whnf)
  (conv => whnf)
  (try simp only [Nat.zero_add])
  repeat ((first | refine V.s1 ?_ | ((try ((with_reducible refine .ext ?_); (conv => whnf); (try simp only [Nat.zero_add]))); (with_reducible refine call_intro (r := ?_) ?_ ?_); rotate_left; (focus (first | exact (c))); (conv => whnf))); (try simp only [Nat.zero_add]))
  exact Fin.of rfl
def shN (n d : Int) : Int := if n.tmod (1 + d + 1) < 0 then -(n.tmod (1 + d + 1)) else n.tmod (1 + d + 1)
def shQ (n d : Int) : Rat := Rat.divInt (shN n d) (1 + d)
theorem shN_bd (n d : Int) (hd : 0 ≤ d ∧ d ≤ 255) : 0 ≤ shN n d ∧ shN n d ≤ 1 + d := by
  unfold shN
  have h1 := Int.tmod_lt_of_pos n (show 0 < 1 + d + 1 by omega)
  have h2 := Int.lt_tmod_of_pos n (show 0 < 1 + d + 1 by omega)
  split <;> omega
theorem numShare_c (n d : Int) (hn : -32768 ≤ n ∧ n ≤ 32767) (hd : 0 ≤ d ∧ d ≤ 255) : Called Tryz.prog 15 [.agg [.int .i16 n, .int .u8 d]] (frT (shQ n d)) := by
  have hb := shN_bd n d hd
  have c := y_23of (n := shN n d) (m := 1 + d) (by omega) (by omega)
  unfold shQ frT at *
  generalize Rat.divInt (shN n d) (1 + d) = q at *
  unfold shN at c
  have h1 := Int.tmod_lt_of_pos n (show 0 < 1 + d + 1 by omega)
  have h2 := Int.lt_tmod_of_pos n (show 0 < 1 + d + 1 by omega)
  clear hb
  obtain ⟨m, hm⟩ : ∃ m, n.tmod (1 + d + 1) = m := ⟨_, rfl⟩
  rw [hm] at c h1 h2
  refine called_of_run tbOk 6 ⟨Tryz.func15, rfl, rfl, Nat.le_of_ble_eq_true rfl⟩ ?_
  (conv => whnf)
  (conv => whnf)
  (try simp only [Nat.zero_add, hm])
  repeat ((first | refine V.s1 ?_); (try simp only [Nat.zero_add, hm]))
  refine Cnd.split (CondB.mk (fun hq => ?_) (fun hq => ?_))
  · rw [decide_eq_true_eq] at hq
    rw [if_pos hq] at c
    rw [← Int.zero_sub] at c
    (conv => whnf)
    (try simp only [Nat.zero_add, hm])
    repeat ((first | refine V.s1 ?_ | ((try ((with_reducible refine .ext ?_); (conv => whnf); (try simp only [Nat.zero_add, hm]))); (with_reducible refine call_intro (r := ?_) ?_ ?_); rotate_left; (focus (first | exact (c))); (conv => whnf))); (try simp only [Nat.zero_add, hm]))
    exact Fin.of rfl
  · rw [decide_eq_false_iff_not] at hq
    rw [if_neg hq] at c
    (conv => whnf)
    (try simp only [Nat.zero_add, hm])
    repeat ((first | refine V.s1 ?_ | ((try ((with_reducible refine .ext ?_); (conv => whnf); (try simp only [Nat.zero_add, hm]))); (with_reducible refine call_intro (r := ?_) ?_ ?_); rotate_left; (focus (first | exact (c))); (conv => whnf))); (try simp only [Nat.zero_add, hm]))
    exact Fin.of rfl
theorem oddFrac_c (s t : List UInt8) : Called Tryz.prog 16 [.agg [.str s, .str t]] (.agg [.str (s.take 20), .str (t.take 20)]) := by
  have tk : ∀ l : List UInt8, List.take (min (l.length : Int) 20).toNat l = l.take 20 := fun l => by
    rcases Nat.le_total l.length 20 with h | h
    · rw [show (min (l.length : Int) 20).toNat = l.length by omega, List.take_length, List.take_of_length_le h]
    · rw [show (min (l.length : Int) 20).toNat = 20 by omega]
  refine called_of_run tbOk 6 ⟨Tryz.func16, rfl, rfl, Nat.le_of_ble_eq_true rfl⟩ ?_
  (conv => whnf)
  (conv => whnf)
  (try simp only [Nat.zero_add])
  repeat ((first | refine V.s1 ?_); (try simp only [Nat.zero_add]))
  refine ⟨(.take 0 (.take 1 (.take 2 (.take 3 (.take 4 (.take 5 (.take 6 (.take 7 (.take 8 (.take 9 (.take 10 (.take 11 (.take 12 (.take 13 (.take 14 (.ev (.cons 15 [] (.done) (.nil)))))))))))))))))), [], ⟨by kernel_rfl, by kernel_rfl, by kernel_rfl, by kernel_rfl⟩, ?_⟩
  refine drw_meet [] [(2, .box [.str (s.take 20), .str (t.take 20)])] ?_ ?_
  · (conv => whnf); (try simp only [Nat.zero_add, tn0, tn1, tn2, tk])
    repeat' (first | exact V.wk | ((with_reducible refine And.intro ?_ draw_nil); (conv => whnf); (try simp only [Nat.zero_add, tn0, tn1, tn2, tk])) | ((with_reducible first | refine draw_split ?_ ?_ | refine nds_split ?_ ?_) <;> (conv => whnf); (try simp only [Nat.zero_add, tn0, tn1, tn2, tk])) | ((first | refine V.s1 ?_ | ((with_reducible refine recheck_and ?_ ?_); (focus ((conv => whnf); (try simp only [Nat.zero_add, tn0, tn1, tn2, tk]); (repeat ((first | refine V.s1 ?_); (try simp only [Nat.zero_add, tn0, tn1, tn2, tk]))); exact ⟨rfl⟩)); (conv => whnf))); (try simp only [Nat.zero_add, tn0, tn1, tn2, tk])) | (refine And.intro ?_ ?_ <;> (conv => whnf); (try simp only [Nat.zero_add, tn0, tn1, tn2, tk])))
  (conv => whnf)
  (try simp only [Nat.zero_add])
  repeat ((first | refine V.s1 ?_); (try simp only [Nat.zero_add]))
  exact Fin.of rfl
theorem zY24_0 : type_of% @Int.toNat_natCast ∧ type_of% @Nat.zero_add ∧ type_of% @tn0 ∧ type_of% @tn1 ∧ type_of% @tn2 := ⟨@Int.toNat_natCast, @Nat.zero_add, @tn0, @tn1, @tn2⟩
theorem bend_c (p : Int) (s t : List UInt8) (f : Nat → Tx) (hp : 0 ≤ p ∧ p ≤ 255) : Called Tryz.prog 11 [.agg [.int .u8 p, .str s, .str t], .agg (spL f)] (.agg (spL (putF f (p % 16).toNat (s.take 20, t.take 20)))) := by
  have o := oddFrac_c s t
  have hm : 0 ≤ p % 16 ∧ p % 16 < 16 := by
    omega
  obtain ⟨k, hk⟩ : ∃ k : Nat, p % 16 = (k : Int) := ⟨(p % 16).toNat, by omega⟩
  rw [hk] at hm ⊢
  have hk2 : k < 16 := by omega
  rw [Int.toNat_natCast]
  generalize List.take 20 s = s' at *
  generalize List.take 20 t = t' at *
  refine called_of_run tbOk 6 ⟨Tryz.func11, rfl, rfl, Nat.le_of_ble_eq_true rfl⟩ ?_
  (conv => whnf)
  (conv => whnf)
  (try simp only [Nat.zero_add])
  repeat ((first | refine V.s1 ?_); (try simp only [Nat.zero_add]))
  refine ⟨(.take 0 (.take 1 (.take 2 (.take 3 (.take 4 (.ev (.cons 5 [2, 1, 0] (.take 6 (.ev (.cons 7 [] (.done) (.nil)))) (.nil)))))))), [], ⟨by kernel_rfl, by kernel_rfl, by kernel_rfl, by kernel_rfl⟩, ?_⟩
  refine drw_meet [] [(3, .box (spL (putF f k (s', t'))))] ?_ ?_
  · (conv => whnf); (try simp only [zY24_0, hk])
    repeat' (first | exact V.wk | ((with_reducible refine And.intro ?_ draw_nil); (conv => whnf); (try simp only [zY24_0, hk])) | ((with_reducible first | refine draw_split ?_ ?_ | refine nds_split ?_ ?_) <;> (conv => whnf); (try simp only [zY24_0, hk])) | ((first | refine V.s1 ?_ | ((with_reducible refine recheck_and ?_ ?_); (focus ((conv => whnf); (try simp only [zY24_0, hk]); (repeat ((first | refine V.s1 ?_ | ((refine sp_put hk2 ?_); (conv => whnf))); (try simp only [zY24_0, hk]))); exact ⟨rfl⟩)); (conv => whnf)) | ((try ((with_reducible refine .ext ?_); (conv => whnf); (try simp only [zY24_0, hk]))); (with_reducible refine call_intro (r := ?_) ?_ ?_); rotate_left; (focus (first | exact (o))); (conv => whnf)) | ((refine sp_put hk2 ?_); (conv => whnf))); (try simp only [zY24_0, hk])) | (refine And.intro ?_ ?_ <;> (conv => whnf); (try simp only [zY24_0, hk])))
  (conv => whnf)
  (try simp only [Nat.zero_add])
  repeat ((first | refine V.s1 ?_); (try simp only [Nat.zero_add]))
  exact Fin.of rfl
end Go.Proofs.YtpcpgjcdkgcbpaaGreatDoor
end
section
namespace Go.Proofs.YtpcpgjcdkgcbpaaGreatDoor
open Go Go.V Go.Nb
theorem c_eq {P : Program} {f : Nat} {ds es : List D} {r : D} (r' : D) (h : Called P f ds r) (e : r = r') (e2 : ds = es) : Called P f es r' := e2 ▸ e ▸ h
theorem bdt {s t : List UInt8} (hs : s.length ≤ 20) (ht : t.length ≤ 20) : BdX 20 (s, t) := ⟨⟨by show s.length ≤ _; omega, by show t.length ≤ _; omega⟩, fun h => fq_text h hs ht⟩
theorem bd_only (m : Nat) : BdS 20 (onlyF ([48], [49]) ([49], [49]) m) := fun k => by
  unfold onlyF putF
  dsimp only
  split <;> exact bdt (by decide) (by decide)
theorem o_1_1 : Called Tryz.prog 22 [.int .i64 1, .int .i64 1] (.agg [.str [49], .str [49]]) := c_eq _ (l26_of (by omega) (by omega)) (by kernel_rfl) rfl
theorem o_1_2 : Called Tryz.prog 22 [.int .i64 1, .int .i64 2] (.agg [.str [49], .str [50]]) := c_eq _ (l26_of (by omega) (by omega)) (by kernel_rfl) rfl
theorem o_1083_1000 : Called Tryz.prog 22 [.int .i64 1083, .int .i64 1000] (.agg [.str [49, 48, 56, 51], .str [49, 48, 48, 48]]) := c_eq _ (l26_of (by omega) (by omega)) (by kernel_rfl) rfl
theorem o_m83_1000 : Called Tryz.prog 22 [.int .i64 (-83), .int .i64 1000] (.agg [.str [45, 56, 51], .str [49, 48, 48, 48]]) := c_eq _ (l26_of (by omega) (by omega)) (by kernel_rfl) rfl
theorem o_0_1 : Called Tryz.prog 22 [.int .i64 0, .int .i64 1] (.agg [.str [48], .str [49]]) := c_eq _ (l26_of (by omega) (by omega)) (by kernel_rfl) rfl
theorem o_1166_1000 : Called Tryz.prog 22 [.int .i64 1166, .int .i64 1000] (.agg [.str [53, 56, 51], .str [53, 48, 48]]) := c_eq _ (l26_of (by omega) (by omega)) (by kernel_rfl) rfl
theorem o_5_2 : Called Tryz.prog 22 [.int .i64 5, .int .i64 2] (.agg [.str [53], .str [50]]) := c_eq _ (l26_of (by omega) (by omega)) (by kernel_rfl) rfl
theorem o_1_3 : Called Tryz.prog 22 [.int .i64 1, .int .i64 3] (.agg [.str [49], .str [51]]) := c_eq _ (l26_of (by omega) (by omega)) (by kernel_rfl) rfl
theorem x_only0 : Called Tryz.prog 26 [.int .i64 0] (.agg [.str [49], .str [49], .str [48], .str [49], .str [48], .str [49], .str [48], .str [49], .str [48], .str [49], .str [48], .str [49], .str [48], .str [49], .str [48], .str [49], .str [48], .str [49], .str [48], .str [49], .str [48], .str [49], .str [48], .str [49], .str [48], .str [49], .str [48], .str [49], .str [48], .str [49], .str [48], .str [49]]) := c_eq _ (only_t ([48], [49]) ([49], [49]) 0 (by decide) o_0_1 o_1_1) (by kernel_rfl) (by kernel_rfl)
theorem x_only1 : Called Tryz.prog 26 [.int .i64 1] (.agg [.str [48], .str [49], .str [49], .str [49], .str [48], .str [49], .str [48], .str [49], .str [48], .str [49], .str [48], .str [49], .str [48], .str [49], .str [48], .str [49], .str [48], .str [49], .str [48], .str [49], .str [48], .str [49], .str [48], .str [49], .str [48], .str [49], .str [48], .str [49], .str [48], .str [49], .str [48], .str [49]]) := c_eq _ (only_t ([48], [49]) ([49], [49]) 1 (by decide) o_0_1 o_1_1) (by kernel_rfl) (by kernel_rfl)
theorem x_w7 : Called Tryz.prog 19 [.int .i64 7] (.tup [.agg [.str [53, 51, 52, 48, 51, 53, 57], .str [53, 51, 52, 55, 53, 49, 56], .str [49], .str [49], .str [50, 54, 53, 57, 56, 56, 53], .str [50, 54, 55, 51, 55, 53, 57]], .int .i64 0]) := c_eq _ (swhite_c 7) (by kernel_rfl) (by kernel_rfl)
theorem x_w3 : Called Tryz.prog 19 [.int .i64 3] (.tup [.agg [.str [], .str [], .str [], .str [], .str [], .str []], .int .i64 4]) := c_eq _ (swhite_c 3) (by kernel_rfl) (by kernel_rfl)
theorem x_f12 : Called Tryz.prog 17 [.agg [.str [49], .str [50]]] (.tup [.agg [.str [49], .str [50], .str [49], .str [50], .str [49], .str [50], .str [49], .str [50], .str [49], .str [50], .str [49], .str [50], .str [49], .str [50], .str [49], .str [50], .str [49], .str [50], .str [49], .str [50], .str [49], .str [50], .str [49], .str [50], .str [49], .str [50], .str [49], .str [50], .str [49], .str [50], .str [49], .str [50]], .int .i64 0]) := c_eq _ (sflat_c (x := ([49], [50])) (bdt (by decide) (by decide))) (by kernel_rfl) (by kernel_rfl)
theorem x_f01 : Called Tryz.prog 17 [.agg [.str [48], .str [49]]] (.tup [.agg [.str [48], .str [49], .str [48], .str [49], .str [48], .str [49], .str [48], .str [49], .str [48], .str [49], .str [48], .str [49], .str [48], .str [49], .str [48], .str [49], .str [48], .str [49], .str [48], .str [49], .str [48], .str [49], .str [48], .str [49], .str [48], .str [49], .str [48], .str [49], .str [48], .str [49], .str [48], .str [49]], .int .i64 0]) := c_eq _ (sflat_c (x := ([48], [49])) (bdt (by decide) (by decide))) (by kernel_rfl) (by kernel_rfl)
theorem x_f11 : Called Tryz.prog 17 [.agg [.str [49], .str [49]]] (.tup [.agg [.str [49], .str [49], .str [49], .str [49], .str [49], .str [49], .str [49], .str [49], .str [49], .str [49], .str [49], .str [49], .str [49], .str [49], .str [49], .str [49], .str [49], .str [49], .str [49], .str [49], .str [49], .str [49], .str [49], .str [49], .str [49], .str [49], .str [49], .str [49], .str [49], .str [49], .str [49], .str [49]], .int .i64 0]) := c_eq _ (sflat_c (x := ([49], [49])) (bdt (by decide) (by decide))) (by kernel_rfl) (by kernel_rfl)
theorem x_f13 : Called Tryz.prog 17 [.agg [.str [49], .str [51]]] (.tup [.agg [.str [49], .str [51], .str [49], .str [51], .str [49], .str [51], .str [49], .str [51], .str [49], .str [51], .str [49], .str [51], .str [49], .str [51], .str [49], .str [51], .str [49], .str [51], .str [49], .str [51], .str [49], .str [51], .str [49], .str [51], .str [49], .str [51], .str [49], .str [51], .str [49], .str [51], .str [49], .str [51]], .int .i64 0]) := c_eq _ (sflat_c (x := ([49], [51])) (bdt (by decide) (by decide))) (by kernel_rfl) (by kernel_rfl)
theorem x_f52 : Called Tryz.prog 17 [.agg [.str [53], .str [50]]] (.tup [.agg [.str [], .str [], .str [], .str [], .str [], .str [], .str [], .str [], .str [], .str [], .str [], .str [], .str [], .str [], .str [], .str [], .str [], .str [], .str [], .str [], .str [], .str [], .str [], .str [], .str [], .str [], .str [], .str [], .str [], .str [], .str [], .str []], .int .i64 2]) := c_eq _ (sflat_c (x := ([53], [50])) (bdt (by decide) (by decide))) (by kernel_rfl) (by kernel_rfl)
theorem x_xyz : Called Tryz.prog 24 [.agg [.str [49], .str [50], .str [49], .str [50], .str [49], .str [50], .str [49], .str [50], .str [49], .str [50], .str [49], .str [50], .str [49], .str [50], .str [49], .str [50], .str [49], .str [50], .str [49], .str [50], .str [49], .str [50], .str [49], .str [50], .str [49], .str [50], .str [49], .str [50], .str [49], .str [50], .str [49], .str [50]], .int .i64 1] (.tup [.agg [.str [49, 52, 56, 49, 53, 50, 49, 57, 54, 56, 50, 53], .str [50, 54, 57, 57, 49, 53, 55, 54, 56, 57, 54, 56], .str [49], .str [50], .str [57, 53, 55, 50, 50, 50, 49, 54, 49, 50, 49], .str [53, 51, 57, 56, 51, 49, 53, 51, 55, 57, 51, 54]], .int .i64 0]) := c_eq _ (xyz_c (f := fun _ => ([49], [50])) (fun _ => bdt (by decide) (by decide)) 1) (by kernel_rfl) (by kernel_rfl)
theorem x_cor0 : Called Tryz.prog 27 [.agg [.str [49], .str [49], .str [48], .str [49], .str [48], .str [49], .str [48], .str [49], .str [48], .str [49], .str [48], .str [49], .str [48], .str [49], .str [48], .str [49], .str [48], .str [49], .str [48], .str [49], .str [48], .str [49], .str [48], .str [49], .str [48], .str [49], .str [48], .str [49], .str [48], .str [49], .str [48], .str [49]]] (.tup [.agg [.str [49, 48, 56, 51], .str [49, 48, 48, 48], .str [45, 56, 51], .str [49, 48, 48, 48], .str [48], .str [49], .str [48], .str [49], .str [48], .str [49], .str [48], .str [49], .str [48], .str [49], .str [48], .str [49], .str [48], .str [49], .str [48], .str [49], .str [48], .str [49], .str [48], .str [49], .str [48], .str [49], .str [48], .str [49], .str [48], .str [49], .str [48], .str [49]], .int .i64 0]) := c_eq _ (corrected_c (bd_only 0)) (by kernel_rfl) (by kernel_rfl)
theorem x_cor1 : Called Tryz.prog 27 [.agg [.str [48], .str [49], .str [49], .str [49], .str [48], .str [49], .str [48], .str [49], .str [48], .str [49], .str [48], .str [49], .str [48], .str [49], .str [48], .str [49], .str [48], .str [49], .str [48], .str [49], .str [48], .str [49], .str [48], .str [49], .str [48], .str [49], .str [48], .str [49], .str [48], .str [49], .str [48], .str [49]]] (.tup [.agg [.str [45, 56, 51], .str [49, 48, 48, 48], .str [53, 56, 51], .str [53, 48, 48], .str [45, 56, 51], .str [49, 48, 48, 48], .str [48], .str [49], .str [48], .str [49], .str [48], .str [49], .str [48], .str [49], .str [48], .str [49], .str [48], .str [49], .str [48], .str [49], .str [48], .str [49], .str [48], .str [49], .str [48], .str [49], .str [48], .str [49], .str [48], .str [49], .str [48], .str [49]], .int .i64 0]) := c_eq _ (corrected_c (bd_only 1)) (by kernel_rfl) (by kernel_rfl)
theorem x_mix : Called Tryz.prog 28 [.agg [.str [48], .str [49], .str [48], .str [49], .str [48], .str [49], .str [48], .str [49], .str [48], .str [49], .str [48], .str [49], .str [48], .str [49], .str [48], .str [49], .str [48], .str [49], .str [48], .str [49], .str [48], .str [49], .str [48], .str [49], .str [48], .str [49], .str [48], .str [49], .str [48], .str [49], .str [48], .str [49]], .agg [.str [49], .str [49], .str [49], .str [49], .str [49], .str [49], .str [49], .str [49], .str [49], .str [49], .str [49], .str [49], .str [49], .str [49], .str [49], .str [49], .str [49], .str [49], .str [49], .str [49], .str [49], .str [49], .str [49], .str [49], .str [49], .str [49], .str [49], .str [49], .str [49], .str [49], .str [49], .str [49]], .agg [.str [49], .str [51]]] (.tup [.agg [.str [49], .str [51], .str [49], .str [51], .str [49], .str [51], .str [49], .str [51], .str [49], .str [51], .str [49], .str [51], .str [49], .str [51], .str [49], .str [51], .str [49], .str [51], .str [49], .str [51], .str [49], .str [51], .str [49], .str [51], .str [49], .str [51], .str [49], .str [51], .str [49], .str [51], .str [49], .str [51]], .int .i64 0]) := c_eq _ (smix_c (a := fun _ => ([48], [49])) (b := fun _ => ([49], [49])) (t := ([49], [51])) (fun _ => bdt (by decide) (by decide)) (fun _ => bdt (by decide) (by decide)) (bdt (by decide) (by decide))) (by kernel_rfl) (by kernel_rfl)
end Go.Proofs.YtpcpgjcdkgcbpaaGreatDoor
end
