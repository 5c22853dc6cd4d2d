/- Laws of a small interpreter over plain values, each proved against the model of the language: part 9. No condition. -/
import Derived.Test.YtpcpgjcdkgcbpaaGreatDoorW8
import Derived.KernelRfl
import Derived.Test.YtpcpgjcdkgcbpaaGreatDoorW6
import Derived.Carry
import Derived.OpenShut
import Derived.SizedLaws
import Derived.ChangeSlices
set_option linter.unusedSimpArgs false
set_option linter.unusedVariables false
set_option maxHeartbeats 8000000
set_option maxRecDepth 100000
section
namespace Go.V
open Go Go.RowKit
def zB : D → Value → Bool
  | .any, v => v.oneCell'
  | .int k n, .int k' n' => kE k k' && decide (n = n') && decide (n = 0)
  | .bool b, .bool b' => b == b'
  | .str s, .string s' => s.isEmpty && s'.size == 0
  | .nil, .slice none 0 0 => true
  | _, _ => false
def zBL : List D → List Value → Bool
  | [], [] => true
  | d :: ds, v :: vs => zB d v && zBL ds vs
  | _, _ => false
theorem zB_ok {d : D} {v : Value} (h : zB d v = true) (E : Env) (hp : Pub) : Den E hp d v ∧ v.oneCell' = true := by
  unfold zB at h
  split at h
  · exact ⟨by simp [Den], h⟩
  · simp only [Bool.and_eq_true, decide_eq_true_eq] at h
    obtain ⟨⟨h1, rfl⟩, rfl⟩ := h
    have := kE_eq h1; subst this
    exact ⟨by simp only [Den]; exact ⟨trivial, zero_inR _⟩, rfl⟩
  · simp at h; subst h; exact ⟨by simp [Den], rfl⟩
  · simp only [Bool.and_eq_true, List.isEmpty_iff, beq_iff_eq] at h
    obtain ⟨rfl, h2⟩ := h
    refine ⟨?_, rfl⟩
    simp only [Den]
    refine ⟨?_, by simp⟩
    congr 1
    apply ByteArray.ext
    apply Array.toList_inj.1
    rename_i s'
    have : s'.data.size = 0 := h2
    simp [Array.size_eq_zero_iff.1 this]
  · exact ⟨by simp [Den], rfl⟩
  · cases h
theorem zBL_ok {ds : List D} {vs : List Value} (h : zBL ds vs = true) (E : Env) (hp : Pub) : DenL E hp ds vs ∧ ∀ v ∈ vs, v.oneCell' = true := by
  induction ds generalizing vs with
  | nil => cases vs with
    | nil => exact ⟨by simp [DenL], by simp⟩
    | cons => simp [zBL] at h
  | cons d ds ih =>
    cases vs with
    | nil => simp [zBL] at h
    | cons v vs =>
      simp only [zBL, Bool.and_eq_true] at h
      obtain ⟨h1, h2⟩ := zB_ok h.1 E hp
      obtain ⟨h3, h4⟩ := ih h.2
      refine ⟨by simp only [DenL]; exact ⟨_, _, rfl, h1, h3⟩, fun u hu => ?_⟩
      rcases List.mem_cons.1 hu with rfl | hu
      · exact h2
      · exact h4 u hu
def isAggV : Value → Bool
  | .agg _ => true
  | _ => false
def fieldsB (P : Program) (fields : Array Field) : Nat → List (Nat × Nat) → Bool
  | _, [] => true
  | j, (o, u) :: fs => (match fields[j]? with
    | some f => Nat.beq f.offset o && Nat.beq f.type u && (match P.info? u with | some iu => !Nat.beq iu.size 0 | none => false)
    | none => false) && fieldsB P fields (j + 1) fs
def undB (P : Program) (t : Nat) (k : TyK) : Bool := match k, P.underlying t with
  | .int k, some (.int k') => kE k k'
  | .bool, some .bool => true
  | .str, some .string => true
  | .slice e, some (.slice e') => Nat.beq e e'
  | .arr n e, some (.array n' e') => Nat.beq n n' && Nat.beq e e'
  | .ptr e, some (.pointer e') => Nat.beq e e'
  | .func, some (.func _ _ _) => true
  | .struct fs, some (.struct fields) => Nat.beq fields.size fs.length && fieldsB P fields 0 fs
  | .other, some (.struct _) => false
  | .other, some (.array _ _) => false
  | .other, some _ => true
  | _, _ => false
def eqB (P : Program) (t : Nat) : Bool := match P.underlying t with
  | some (.struct fields) => !P.stoodInHeld t && fields.toList.all fun f => f.name != "_"
  | _ => true
theorem eqB_ok {P : Program} {t : Nat} (h : eqB P t = true) : ∀ fields, P.underlying t = some (.struct fields) → P.stoodInHeld t = false ∧ ∀ f ∈ fields.toList, f.name ≠ "_" := fun fields hu => by
  unfold eqB at h
  rw [hu] at h
  simp only [Bool.and_eq_true, Bool.not_eq_true', List.all_eq_true, bne_iff_ne] at h
  exact h
def tyB (P : Program) (t : Nat) (y : Ty) : Bool := match P.info? t with
  | none => false
  | some i => match i.zero with
    | none => false
    | some z => Nat.beq i.size y.size && Nat.beq i.bytes y.bytes && zBL y.zero z.cells.toList && (y.kind.isAgg == isAggV z) && Nat.beq z.cells.size y.size &&
        (y.kind.isAgg || (z.oneCell' && Nat.beq y.size 1)) && undB P t y.kind && eqB P t
theorem fieldsB_ok {P : Program} {fields : Array Field} : ∀ {fs : List (Nat × Nat)} {j : Nat}, fieldsB P fields j fs = true →
    ∀ (i o u : Nat), fs[i]? = some (o, u) → ∃ f iu, fields[j + i]? = some f ∧ f.offset = o ∧ f.type = u ∧ P.info? u = some iu ∧ iu.size ≠ 0
  | [], j, _, i, o, u, hi => by simp at hi
  | (o', u') :: fs, j, h, i, o, u, hi => by
    simp only [fieldsB, Bool.and_eq_true] at h
    cases i with
    | zero =>
      simp at hi
      obtain ⟨rfl, rfl⟩ := hi
      have h1 := h.1
      split at h1
      · rename_i f hf
        simp only [Bool.and_eq_true] at h1
        obtain ⟨⟨h2, h3⟩, h4⟩ := h1
        split at h4
        · rename_i iu hiu
          refine ⟨f, iu, by simpa using hf, nbeq_true h2, nbeq_true h3, hiu, fun e => ?_⟩
          rw [e] at h4; simp at h4
        · cases h4
      · cases h1
    | succ i =>
      obtain ⟨f, iu, h1, h2⟩ := fieldsB_ok h.2 i o u (by simpa using hi)
      exact ⟨f, iu, by rw [← h1]; congr 1; omega, h2⟩
theorem tyB_ok {P : Program} {t : Nat} {y : Ty} (h : tyB P t y = true) : TyOk P t y := by
  unfold tyB at h
  split at h
  · cases h
  · rename_i i hi
    split at h
    · cases h
    · rename_i z hz
      simp only [Bool.and_eq_true, Bool.or_eq_true] at h
      obtain ⟨⟨⟨⟨⟨⟨⟨h1, h2⟩, h3⟩, h4⟩, h5⟩, h6⟩, h7⟩, h8⟩ := h
      refine { info := ⟨i, z, hi, nbeq_true h1, nbeq_true h2, hz, fun E hp => (zBL_ok h3 E hp).1, (zBL_ok h3 Env.dummy (fun _ _ => none)).2, fun ha => ?_, nbeq_true h5, fun ha => ?_⟩, und := ?_, eqs := eqB_ok h8 }
      · rw [ha] at h4
        cases z <;> simp [isAggV] at h4
        exact ⟨_, rfl⟩
      · rw [ha] at h6
        rcases h6 with h6 | h6
        · cases h6
        · exact ⟨h6.1, nbeq_true h6.2⟩
      · unfold undB at h7
        cases hk : y.kind <;> rw [hk] at h7 <;> cases hu : P.underlying t <;> rw [hu] at h7 <;> (try simp only at h7) <;> first | cases h7 | skip
        all_goals rename_i d
        all_goals cases d <;> (try simp only at h7) <;> first | (cases h7; done) | skip
        all_goals first
          | (have := kE_eq h7; subst this; rfl)
          | rfl
          | (have := nbeq_true h7; subst this; rfl)
          | (simp only [Bool.and_eq_true] at h7; have e1 := nbeq_true h7.1; have e2 := nbeq_true h7.2; subst e1; subst e2; rfl)
          | exact ⟨_, _, _, rfl⟩
          | (simp only [Bool.and_eq_true] at h7
             exact ⟨_, rfl, nbeq_true h7.1, fun j o u hj => by have := fieldsB_ok h7.2 j o u hj; simpa using this⟩)
          | exact ⟨_, rfl, (fun _ e => (by cases e)), (fun _ _ e => (by cases e))⟩
def tbB (P : Program) : Tb → Bool
  | [] => true
  | (t, y) :: tb => tyB P t y && tbB P tb
theorem tbB_ok {P : Program} {tb : Tb} (h : tbB P tb = true) : TbOk P tb := by
  induction tb with
  | nil => intro t y hy; simp [tyL] at hy
  | cons x tb ih =>
    obtain ⟨s, y'⟩ := x
    simp only [tbB, Bool.and_eq_true] at h
    intro t y hy
    simp only [tyL] at hy
    cases hb : Nat.beq s t with
    | true =>
      rw [hb] at hy
      have := nbeq_true hb; subst this
      cases hy
      exact tyB_ok h.1
    | false => rw [hb] at hy; exact ih h.2 t y hy
end Go.V
end
section
namespace Go.V
open Go Go.RowKit
theorem lp_inv {off : Nat} {L : Sl} {H : Hp} {body : Sl → Hp → K3 → Prop} {K : K3} (n : Nat) (I : Nat → Prop) (sl : Nat → Sl) (hp : Nat → Hp) (h0 : Wk off L H (sl 0) (hp 0)) (hI : I 0)
    (step : ∀ k, k ≤ n → I k → body (sl k) (hp k) (nrm (fun L' H' => ∃ y, (y ≤ n ∧ I y) ∧ n - y < n - k ∧ Wk off L' H' (sl y) (hp y)) K)) : Lp off L H body K :=
  Lp.of ⟨Nat, fun k => k ≤ n ∧ I k, sl, hp, fun k => n - k, ⟨0, ⟨Nat.zero_le _, hI⟩, h0⟩, fun k hk => step k hk.1 hk.2⟩
theorem draw_nil {P : Program} {tb : Tb} {inl : Inl} {yl : Yl} {N off : Nat} {all : List Oper} {KP : KPan} {gt : Nat → Sl → Hp → Prop} {L : Sl} {H : Hp} {K : K2} : drawBs P tb inl yl N off all KP gt .nil L H K := True.intro
theorem getD_toNat (xs : List Int) (k : Nat) (x : Int) (h : xs[k]? = some x) : xs.getD (k : Int).toNat 0 = x := by
  simp [List.getD_eq_getElem?_getD, h]
theorem getx {xs : List Int} {k : Nat} (h : (k : Int) < xs.length) : ∃ x, xs[k]? = some x ∧ xs.getD (k : Int).toNat 0 = x := by
  have h2 : k < xs.length := by omega
  exact ⟨xs[k], List.getElem?_eq_getElem h2, by simp [List.getD_eq_getElem?_getD, h2]⟩
def slApp : Sl → Sl → Sl
  | [], M => M
  | x :: L, M => x :: slApp L M
def hpApp : Hp → Hp → Hp
  | [], M => M
  | x :: L, M => x :: hpApp L M
def wkSl (L L2 : Sl) : Sl → Prop
  | [] => True
  | (t, _) :: R => (match look L2 t with | .any => True | d => look L t = d) ∧ wkSl L L2 R
def wkHp (H H2 : Hp) : Hp → Prop
  | [] => True
  | (i, _) :: R => (match lookH H2 i with | none => True | some c => lookH H i = some c) ∧ wkHp H H2 R
theorem look_none {L : Sl} {t : Nat} (h : ∀ p ∈ L, p.1 ≠ t) : look L t = .any := by
  induction L with
  | nil => rfl
  | cons x L ih =>
    obtain ⟨s, d⟩ := x
    rw [look_cons, if_neg (h (s, d) (by simp))]
    exact ih fun p hp => h p (by simp [hp])
theorem lookH_none {H : Hp} {t : Nat} (h : ∀ p ∈ H, p.1 ≠ t) : lookH H t = none := by
  induction H with
  | nil => rfl
  | cons x L ih =>
    obtain ⟨s, d⟩ := x
    rw [lookH_cons, if_neg (h (s, d) (by simp))]
    exact ih fun p hp => h p (by simp [hp])
theorem wkSl_mem {L L2 R : Sl} (h : wkSl L L2 R) {t : Nat} (ht : ∃ p ∈ R, p.1 = t) : look L2 t = .any ∨ look L t = look L2 t := by
  induction R with
  | nil => obtain ⟨p, hp, _⟩ := ht; simp at hp
  | cons x R ih =>
    obtain ⟨s, d⟩ := x
    obtain ⟨p, hp, e⟩ := ht
    by_cases hs : s = t
    · subst hs
      have h1 := h.1
      cases hl : look L2 s <;> rw [hl] at h1 <;> first | exact .inl rfl | exact .inr h1
    · rcases List.mem_cons.1 hp with e2 | e2
      · subst e2; exact absurd e hs
      · exact ih h.2 ⟨p, e2, e⟩
theorem wkHp_mem {H H2 R : Hp} (h : wkHp H H2 R) {i : Nat} {c : Chunk} (hi : ∃ p ∈ R, p.1 = i) (hc : lookH H2 i = some c) : lookH H i = some c := by
  induction R with
  | nil => obtain ⟨p, hp, _⟩ := hi; simp at hp
  | cons x R ih =>
    obtain ⟨s, d⟩ := x
    obtain ⟨p, hp, e⟩ := hi
    by_cases hs : s = i
    · subst hs
      have h1 := h.1
      rw [hc] at h1; exact h1
    · rcases List.mem_cons.1 hp with e2 | e2
      · subst e2; exact absurd e hs
      · exact ih h.2 ⟨p, e2, e⟩
theorem Wk.of2 {off : Nat} {L L' : Sl} {H H' : Hp} (h1 : wkSl L L' L') (h2 : wkHp H H' H') : Wk off L H L' H' := by
  refine ⟨fun cx E h a w _ S => ?_⟩
  have hl : ∀ {i c}, lookH H' i = some c → lookH H i = some c := fun {i c} hc => by
    by_cases hm : ∃ p ∈ H', p.1 = i
    · exact wkHp_mem h2 hm hc
    · rw [lookH_none (fun p hp e => hm ⟨p, hp, e⟩)] at hc; cases hc
  refine ⟨E, h, { knows := fun t => ?_, mem := ?_, agree := S.agree, since := S.since, low := S.low, side := S.side }⟩
  · by_cases hm : ∃ p ∈ L', p.1 = t
    · rcases wkSl_mem h1 hm with e | e
      · rw [e]; simp [Den]
      · rw [← e]; exact S.knows t
    · rw [look_none (fun p hp e => hm ⟨p, hp, e⟩)]; simp [Den]
  · exact { ok := fun i c hc => S.mem.ok i c (hl hc), base := fun i c hc => S.mem.base i c (hl hc), unpub := fun i c hc => S.mem.unpub i c (hl hc),
            inj := fun i j c c' hij hc hc' => S.mem.inj i j c c' hij (hl hc) (hl hc') }
def slAppK : Sl → Sl → (Sl → Prop) → Prop
  | [], M, K => K M
  | x :: L, M, K => slAppK L M fun N => K (x :: N)
theorem slAppK_eq (L M : Sl) (K : Sl → Prop) : slAppK L M K = K (slApp L M) := by
  induction L generalizing K with
  | nil => rfl
  | cons x L ih => simp only [slAppK, slApp, ih]
def hpAppK : Hp → Hp → (Hp → Prop) → Prop
  | [], M, K => K M
  | x :: L, M, K => hpAppK L M fun N => K (x :: N)
theorem hpAppK_eq (L M : Hp) (K : Hp → Prop) : hpAppK L M K = K (hpApp L M) := by
  induction L generalizing K with
  | nil => rfl
  | cons x L ih => simp only [hpAppK, hpApp, ih]
def hasK : List Nat → Nat → (Bool → Prop) → Prop
  | [], _, K => K false
  | s :: L, t, K => match Nat.beq s t with | true => K true | false => hasK L t K
theorem lp_go {off : Nat} {L : Sl} {H : Hp} {body : Sl → Hp → K3 → Prop} {K : K3} (n : Nat) (I : Nat → Prop) (sl : Nat → Sl) (hp : Nat → Hp) (h0 : Wk off L H (slApp (sl 0) L) (hpApp (hp 0) H)) (hI : I 0)
    (step : ∀ k, k ≤ n → I k → slAppK (sl k) L fun L1 => hpAppK (hp k) H fun H1 => body L1 H1 (nrm (fun L' H' => ∃ y, (y ≤ n ∧ I y) ∧ n - y < n - k ∧ Wk off L' H' (slApp (sl y) L) (hpApp (hp y) H)) K)) : Lp off L H body K :=
  lp_inv n I (fun k => slApp (sl k) L) (fun k => hpApp (hp k) H) h0 hI fun k hk hi => by
    have := step k hk hi
    rw [slAppK_eq, hpAppK_eq] at this
    exact this
theorem lp_any {off : Nat} {L : Sl} {H : Hp} {body : Sl → Hp → K3 → Prop} {K : K3} {α : Type} (x0 : α) (I : α → Prop) (μ : α → Nat) (sl : α → Sl) (hp : α → Hp) (h0 : Wk off L H (slApp (sl x0) L) (hpApp (hp x0) H)) (hI : I x0)
    (step : ∀ k, I k → slAppK (sl k) L fun L1 => hpAppK (hp k) H fun H1 => body L1 H1 (nrm (fun L' H' => ∃ y, I y ∧ μ y < μ k ∧ Wk off L' H' (slApp (sl y) L) (hpApp (hp y) H)) K)) : Lp off L H body K :=
  Lp.of ⟨α, I, fun k => slApp (sl k) L, fun k => hpApp (hp k) H, μ, ⟨x0, hI, h0⟩, fun k hk => by
    have := step k hk
    rw [slAppK_eq, hpAppK_eq] at this
    exact this⟩
def xjn (off i : Nat) {β : Type} (inv : β → Prop) (sl : β → Sl) (hp : β → Hp) (K : K3) : K3 := fun e L' H' => match e with
  | .exit j => match Nat.beq j i with
    | true => ∃ y, inv y ∧ Wk off L' H' (sl y) (hp y)
    | false => K (.exit j) L' H'
  | e => K e L' H'
theorem lp_exit {off : Nat} {L : Sl} {H : Hp} {body : Sl → Hp → K3 → Prop} {K : K3} {β : Type} (i : Nat) (inv : β → Prop) (sl : β → Sl) (hp : β → Hp)
    (h : Lp off L H body (xjn off i inv (fun y => slApp (sl y) L) (fun y => hpApp (hp y) H) K)) (k : ∀ y, inv y → slAppK (sl y) L fun L1 => hpAppK (hp y) H fun H1 => K (.exit i) L1 H1) : Lp off L H body K := by
  obtain ⟨K2, hK2, hr⟩ := h.out
  refine ⟨K2, fun e L' H' hk => ?_, hr⟩
  obtain ⟨L2, H2, hw, hx⟩ := hK2 e L' H' hk
  cases e with
  | exit j =>
    simp only [xjn] at hx
    cases hb : Nat.beq j i with
    | true =>
      rw [hb] at hx
      have := nbeq_true hb; subst this
      obtain ⟨y, hy, hw2⟩ := hx
      have := k y hy
      rw [slAppK_eq, hpAppK_eq] at this
      exact ⟨_, _, hw.trans hw2, this⟩
    | false => rw [hb] at hx; exact ⟨_, _, hw, hx⟩
  | _ => exact ⟨_, _, hw, hx⟩
theorem cnd_meet {P : Program} {tb : Tb} {inl : Inl} {N off : Nat} {a b : Code} {yl : Yl} {x : Bool} {L : Sl} {H : Hp} {K : K3} (sl : Sl) (hp : Hp)
    (h : CondB x (RunC P tb inl N a yl off L H (jn off (slApp sl L) (hpApp hp H) K)) (RunC P tb inl N b yl off L H (jn off (slApp sl L) (hpApp hp H) K))) (k : slAppK sl L fun L1 => hpAppK hp H fun H1 => K .normal L1 H1) :
    Cnd off x (RunC P tb inl N a yl off L H) (RunC P tb inl N b yl off L H) K := .join _ _ h (by rw [slAppK_eq, hpAppK_eq] at k; exact k)
theorem drw_meet {P : Program} {tb : Tb} {inl : Inl} {N off : Nat} {all : List Oper} {KP : KPan} {p : Plan} {ns : List Nd} {yl : Yl} {L : Sl} {H : Hp} {K : K2} (sl : Sl) (hp : Hp)
    (h : drawK P tb inl yl N off all KP (fun _ _ _ => False) p L H fun L' H' => Wk off L' H' (slApp sl L) (hpApp hp H)) (k : slAppK sl L fun L1 => hpAppK hp H fun H1 => K L1 H1) :
    Drw off (drawD P tb inl yl N off all KP p ns L H) K := .join _ _ (drawD_one h) (by rw [slAppK_eq, hpAppK_eq] at k; exact k)
def ctrL : List (Nat × Sl × Hp) → List Nat → Sl → Sl
  | [], _, L => L
  | (i, sl, _) :: c, rem, L => match memB i rem with | true => ctrL c rem L | false => ctrL c rem (slApp sl L)
def ctrH : List (Nat × Sl × Hp) → List Nat → Hp → Hp
  | [], _, H => H
  | (i, _, hp) :: c, rem, H => match memB i rem with | true => ctrH c rem H | false => ctrH c rem (hpApp hp H)
def ctrK : List (Nat × Sl × Hp) → List Nat → Sl → Hp → (Sl → Hp → Prop) → Prop
  | [], _, L, H, K => K L H
  | (i, sl, hp) :: c, rem, L, H, K => match memB i rem with | true => ctrK c rem L H K | false => slAppK sl L fun L1 => hpAppK hp H fun H1 => ctrK c rem L1 H1 K
theorem ctrK_eq : ∀ (c : List (Nat × Sl × Hp)) (rem : List Nat) (L : Sl) (H : Hp) (K : Sl → Hp → Prop), ctrK c rem L H K = K (ctrL c rem L) (ctrH c rem H)
  | [], _, _, _, _ => rfl
  | (i, sl, hp) :: c, rem, L, H, K => by
    simp only [ctrK, ctrL, ctrH]
    cases memB i rem with
    | true => exact ctrK_eq c rem L H K
    | false => simp only [slAppK_eq, hpAppK_eq]; exact ctrK_eq c rem _ _ K
def nthN : List Nd → Nat → (Nd → Prop) → Prop
  | [], _, _ => False
  | nd :: _, 0, K => K nd
  | _ :: ns, n + 1, K => nthN ns n K
theorem nthN_el {ns : List Nd} {n : Nat} {K : Nd → Prop} (h : nthN ns n K) : ∃ nd, ns[n]? = some nd ∧ K nd := by
  induction ns generalizing n with
  | nil => exact h.elim
  | cons d ds ih =>
    cases n with
    | zero => exact ⟨d, rfl, h⟩
    | succ n => exact ih h
def ctrGt (off : Nat) (ns : List Nd) (ctr : List (Nat × Sl × Hp)) (L : Sl) (H : Hp) : Nat → Sl → Hp → Prop := fun k L' H' => nthN ns k fun nd => ctrK ctr nd.rem L H fun Lk Hk => Wk off L' H' Lk Hk
def ndsK (P : Program) (tb : Tb) (inl : Inl) (yl : Yl) (N off : Nat) (all : List Oper) (KP : KPan) (gt : Nat → Sl → Hp → Prop) (ctr : List (Nat × Sl × Hp)) (L : Sl) (H : Hp) (K : K2) : List Nd → Prop
  | [] => True
  | nd :: ns => (ctrK ctr nd.rem L H fun Lk Hk => recheckK tb all nd.pend Lk Hk (drawK P tb inl yl N off all KP gt nd.plan Lk Hk K)) ∧ ndsK P tb inl yl N off all KP gt ctr L H K ns
theorem ndsK_el {P : Program} {tb : Tb} {inl : Inl} {yl : Yl} {N off : Nat} {all : List Oper} {KP : KPan} {gt : Nat → Sl → Hp → Prop} {ctr : List (Nat × Sl × Hp)} {L : Sl} {H : Hp} {K : K2} : ∀ {ns : List Nd}, ndsK P tb inl yl N off all KP gt ctr L H K ns → ∀ nd ∈ ns,
    recheckK tb all nd.pend (ctrL ctr nd.rem L) (ctrH ctr nd.rem H) (drawK P tb inl yl N off all KP gt nd.plan (ctrL ctr nd.rem L) (ctrH ctr nd.rem H) K)
  | [], _, nd, hm => by cases hm
  | nd' :: ns, h, nd, hm => by
    simp only [ndsK, ctrK_eq] at h
    rcases List.mem_cons.1 hm with rfl | hm
    · exact h.1
    · exact ndsK_el (ns := ns) h.2 nd hm
theorem dag_meet {P : Program} {tb : Tb} {inl : Inl} {N off : Nat} {all : List Oper} {KP : KPan} {p : Plan} {ns : List Nd} {yl : Yl} {L : Sl} {H : Hp} {K : K2} (sl : Sl) (hp : Hp) (ctr : List (Nat × Sl × Hp))
    (h : drawK P tb inl yl N off all KP (ctrGt off ns ctr L H) p L H fun L' H' => Wk off L' H' (slApp sl L) (hpApp hp H))
    (hn : ndsK P tb inl yl N off all KP (ctrGt off ns ctr L H) ctr L H (fun L' H' => Wk off L' H' (slApp sl L) (hpApp hp H)) ns) (k : slAppK sl L fun L1 => hpAppK hp H fun H1 => K L1 H1) :
    Drw off (drawD P tb inl yl N off all KP p ns L H) K := by
  refine .join _ _ ⟨_, fun k L' H' hk => ?_, h⟩ (by rw [slAppK_eq, hpAppK_eq] at k; exact k)
  obtain ⟨nd, h1, h2⟩ := nthN_el hk
  rw [ctrK_eq] at h2
  exact ⟨nd, _, _, h1, h2, ndsK_el hn nd (List.mem_of_getElem? h1)⟩
theorem draw_split {A : Prop} {P : Program} {tb : Tb} {inl : Inl} {yl : Yl} {N off : Nat} {all : List Oper} {KP : KPan} {gt : Nat → Sl → Hp → Prop} {bs : Brs} {L : Sl} {H : Hp} {K : K2} (a : A) (b : drawBs P tb inl yl N off all KP gt bs L H K) : A ∧ drawBs P tb inl yl N off all KP gt bs L H K := ⟨a, b⟩
theorem nds_split {A : Prop} {P : Program} {tb : Tb} {inl : Inl} {yl : Yl} {N off : Nat} {all : List Oper} {KP : KPan} {gt : Nat → Sl → Hp → Prop} {ctr : List (Nat × Sl × Hp)} {L : Sl} {H : Hp} {K : K2} {ns : List Nd} (a : A) (b : ndsK P tb inl yl N off all KP gt ctr L H K ns) : A ∧ ndsK P tb inl yl N off all KP gt ctr L H K ns := ⟨a, b⟩
theorem recheck_and {A : Prop} {tb : Tb} {all : List Oper} {qs : List Nat} {L : Sl} {H : Hp} {K : Prop} (h : A) (k : recheckK tb all qs L H K) : A ∧ recheckK tb all qs L H K := ⟨h, k⟩
theorem no_tf {A : Prop} (h : true = false) : A := by cases h
theorem no_ft {A : Prop} (h : false = true) : A := by cases h
theorem no_nt {A : Prop} (h : (!true) = true) : A := by cases h
theorem no_nf {A : Prop} (h : (!false) = false) : A := by cases h
theorem Cnd.y {off : Nat} {A B : K3 → Prop} {K : K3} (h : A K) : Cnd off true A B K := .split ⟨fun _ => h, no_tf⟩
theorem Cnd.n {off : Nat} {A B : K3 → Prop} {K : K3} (h : B K) : Cnd off false A B K := .split ⟨no_ft, fun _ => h⟩
theorem Cnd.ny {off : Nat} {A B : K3 → Prop} {K : K3} (h : A K) : Cnd off (!false) A B K := .split ⟨fun _ => h, no_nf⟩
theorem Cnd.nn {off : Nat} {A B : K3 → Prop} {K : K3} (h : B K) : Cnd off (!true) A B K := .split ⟨no_nt, fun _ => h⟩
theorem Cnd.yes {off : Nat} {x : Bool} {A B : K3 → Prop} {K : K3} (e : x = true) (h : A K) : Cnd off x A B K := .split ⟨fun _ => h, fun h' => (by rw [e] at h'; cases h')⟩
theorem Cnd.no {off : Nat} {x : Bool} {A B : K3 → Prop} {K : K3} (e : x = false) (h : B K) : Cnd off x A B K := .split ⟨fun h' => (by rw [e] at h'; cases h'), fun _ => h⟩
theorem call_intro {P : Program} {g : Prop} {f : Nat} {ds : List D} {K : D → Prop} {r : D} (h : Called P f ds r) (k : K r) : ∃ r, (g → Called P f ds r) ∧ K r := ⟨r, fun _ => h, k⟩
def FinL : List D → List D → Prop
  | [], [] => True
  | r :: rs, r' :: rs' => Fin r r' ∧ FinL rs rs'
  | _, _ => False
theorem FinL.den {h : Pub} : ∀ {rs rs' : List D} {vs : List Value}, FinL rs rs' → DenL Env.dummy h rs' vs → DenL Env.dummy h rs vs
  | [], [], _, _, H => H
  | _ :: _, _ :: _, _, F, H => by
    simp only [DenL] at H ⊢
    obtain ⟨v, vs', h1, h2, h3⟩ := H
    exact ⟨v, vs', h1, F.1.out _ _ h2, FinL.den F.2 h3⟩
theorem Fin.tup {rs rs' : List D} (F : FinL rs rs') : Fin (.tup rs) (.tup rs') := ⟨fun h v hv => by
  simp only [Den] at hv ⊢
  obtain ⟨vs, h1, h2⟩ := hv
  exact ⟨vs, h1, FinL.den F h2⟩⟩
theorem Fin.agg {rs rs' : List D} (F : FinL rs rs') : Fin (.agg rs) (.agg rs') := ⟨fun h v hv => by
  simp only [Den] at hv ⊢
  obtain ⟨vs, h1, h2, h3⟩ := hv
  exact ⟨vs, h1, FinL.den F h2, h3⟩⟩
theorem Called.cast {P : Program} {f : Nat} {ds : List D} {r r' : D} (h : Called P f ds r) (e : r = r') : Called P f ds r' := e ▸ h
theorem Called.arg {P : Program} {f : Nat} {ds ds' : List D} {r : D} (F : FinL ds' ds) (h : Called P f ds' r) : Called P f ds r :=
  ⟨h.1, fun hp w vs ha hd => h.2 hp w vs ha (FinL.den F hd)⟩
theorem Called.fin {P : Program} {f : Nat} {ds : List D} {r r' : D} (h : Called P f ds r) (F : Fin r' r) : Called P f ds r' :=
  ⟨h.1, fun hp w vs ha hd => (h.2 hp w vs ha hd).mono fun e w' ⟨v, h', h1, h2, h3, h4, h5, h6⟩ => ⟨v, h', h1, F.out _ _ h2, h3, h4, h5, h6⟩⟩
end Go.V
end
section
namespace Go.V
open Go Go.RowKit
section
variable {cx : Cx} {E : Env} {h : Pub} {a : Act} {w : World} {L : Sl} {H : Hp}
theorem Sat.rechunk (S : Sat cx E h a w L H) {j : Nat} {c c' : Chunk} (hj : lookH H j = some c) (hl : c.live = true) (hc : ChunkOk E h w j c') : Sat cx E h a w L ((j, c') :: H) := by
  have key : ∀ i x, lookH ((j, c') :: H) i = some x → x.live = true → ∃ y, lookH H i = some y ∧ y.live = true := fun i x hx hlx => by
    rw [lookH_cons] at hx
    split at hx
    · rename_i e; subst e; exact ⟨c, hj, hl⟩
    · exact ⟨x, hx, hlx⟩
  refine { S with mem := { ok := ?_, base := ?_, unpub := ?_, inj := ?_ } }
  · intro i x hx
    rw [lookH_cons] at hx
    split at hx
    · rename_i e; subst e; cases hx; exact hc
    · exact S.mem.ok i x hx
  · intro i x hx hlx
    obtain ⟨y, h1, h2⟩ := key i x hx hlx
    exact S.mem.base i y h1 h2
  · intro i x hx hlx
    obtain ⟨y, h1, h2⟩ := key i x hx hlx
    exact S.mem.unpub i y h1 h2
  · intro i k x y hik hx hy lx ly
    obtain ⟨x', h1, h2⟩ := key i x hx lx
    obtain ⟨y', h3, h4⟩ := key k y hy ly
    exact S.mem.inj i k x' y' hik h1 h3 h2 h4
theorem Sat.reslot (S : Sat cx E h a w L H) {t : Nat} {d : D} (hd : Den E h d (a.tmps.getD t Go.undef)) : Sat cx E h a w ((t, d) :: L) H := by
  refine { S with knows := fun s => ?_ }
  rw [look_cons]
  split
  · rename_i e; subst e; exact hd
  · exact S.knows s
theorem Sat.virt0 (S : Sat cx E h a w L H) {i : Nat} {k : IntKind} (hoff' : cx.off ≤ i) :
    Sat cx (E.virt i) h a w (purge i L) ((i, .arr k []) :: purgeH i H) := by
  have hoff := E.off_virt i
  have live : ∀ j c', j ≠ i → lookH ((i, .arr k []) :: purgeH i H) j = some c' → c'.live = true → ∃ c0, lookH H j = some c0 ∧ c' = purgeC i c0 ∧ c0.live = true := by
    intro j c' hj hc' hl
    rw [lookH_cons, if_neg (Ne.symm hj)] at hc'
    obtain ⟨c0, h1, h2⟩ := lookH_purge hc'
    exact ⟨c0, h1, h2, by rw [h2, purgeC_live] at hl; exact hl⟩
  have hne : ∀ j, (E.virt i).real j = true → j ≠ i := fun j hr e => by subst e; rw [E.virt_real] at hr; cases hr
  have hre : ∀ j, j ≠ i → (E.virt i).real j = E.real j := fun j hj => (hoff j hj).2.2.2.1
  refine { knows := ?_, mem := ?_, agree := S.agree, since := S.since, low := fun j hj => low_off S.low hoff hoff' j hj, side := S.side }
  · exact fun t => look_purge hoff (S.knows t)
  · refine { ok := ?_, base := ?_, unpub := ?_, inj := ?_ }
    · intro j c' hc'
      by_cases hj : j = i
      · subst hj; rw [lookH_cons, if_pos rfl] at hc'; cases hc'; exact .inl ⟨E.virt_real _, rfl⟩
      · cases hl : c'.live with
        | false => cases c' <;> first | trivial | (simp [Chunk.live] at hl)
        | true =>
          obtain ⟨c0, h1, rfl, hl'⟩ := live j c' hj hc' hl
          exact ChunkOk.env hoff hj (S.mem.ok j _ h1)
    · intro j c' hc' hl hr
      have hj := hne j hr
      obtain ⟨c0, h1, rfl, hl'⟩ := live j c' hj hc' hl
      rw [hre j hj] at hr
      exact S.mem.base j _ h1 hl' hr
    · intro j c' hc' hl hr o
      have hj := hne j hr
      obtain ⟨c0, h1, rfl, hl'⟩ := live j c' hj hc' hl
      rw [hre j hj] at hr
      exact S.mem.unpub j _ h1 hl' hr o
    · intro j k' c1 c2 hjk h1 h2 l1 l2 r1 r2
      have hj := hne j r1
      have hk := hne k' r2
      obtain ⟨c0, g1, rfl, l1'⟩ := live j c1 hj h1 l1
      obtain ⟨c0', g2, rfl, l2'⟩ := live k' c2 hk h2 l2
      rw [hre j hj] at r1
      rw [hre k' hk] at r2
      exact S.mem.inj j k' _ _ hjk g1 g2 l1' l2' r1 r2
end
theorem den_nil_osl {E : Env} {h : Pub} {i : Nat} {v : Value} (hr : E.real i = false) (hv : Den E h .nil v) : Den E h (.osl i 0 0) v := by
  simp only [Den] at hv ⊢
  exact .inl ⟨hr, hv, trivial⟩
theorem denL_set {E : Env} {h : Pub} {d : D} : ∀ {ds : List D} {vs : List Value} {p : Nat} {x : D}, DenL E h ds vs → ds[p]? = some x → (∀ v, Den E h x v → Den E h d v) → DenL E h (ds.set p d) vs
  | [], _, _, _, _, hp, _ => by simp at hp
  | y :: ds, vs, p, x, H, hp, hd => by
    simp only [DenL] at H
    obtain ⟨v, vs', rfl, h1, h2⟩ := H
    cases p with
    | zero => simp at hp; subst hp; simp only [List.set_cons_zero, DenL]; exact ⟨v, vs', rfl, hd v h1, h2⟩
    | succ p => simp only [List.set_cons_succ, DenL]; exact ⟨v, vs', rfl, h1, denL_set h2 (by simpa using hp) hd⟩
theorem Wk.ghostBox {off : Nat} {L : Sl} {H : Hp} (i j p : Nat) (k : IntKind) {ds : List D} (hoff : off ≤ i) (hj : lookH (purgeH i H) j = some (.box ds)) (hij : j ≠ i) (hp : ds[p]? = some .nil) :
    Wk off L H (purge i L) ((j, .box (ds.set p (.osl i 0 0))) :: (i, .arr k []) :: purgeH i H) := by
  refine ⟨fun cx E h a w e S => ?_⟩
  subst e
  have S1 := S.virt0 (k := k) hoff
  have hj1 : lookH ((i, .arr k []) :: purgeH i H) j = some (.box ds) := by rw [lookH_cons, if_neg (Ne.symm hij)]; exact hj
  refine ⟨E.virt i, h, S1.rechunk hj1 rfl ?_⟩
  obtain ⟨h1, vs, rest, T, h2, h3, h4⟩ := S1.mem.ok j _ hj1
  exact ⟨h1, vs, rest, T, h2, denL_set h3 hp (fun v hv => den_nil_osl (E.virt_real i) hv), h4⟩
theorem Wk.ghostSlot {off : Nat} {L : Sl} {H : Hp} (i t : Nat) (k : IntKind) (hoff : off ≤ i) (ht : look (purge i L) t = .nil) :
    Wk off L H ((t, .osl i 0 0) :: purge i L) ((i, .arr k []) :: purgeH i H) := by
  refine ⟨fun cx E h a w e S => ?_⟩
  subst e
  have S1 := S.virt0 (k := k) hoff
  have := S1.knows t
  rw [ht] at this
  exact ⟨E.virt i, h, S1.reslot (den_nil_osl (E.virt_real i) this)⟩
theorem Lp.pre {off : Nat} {L L1 : Sl} {H H1 : Hp} {body : Sl → Hp → K3 → Prop} {K : K3} (hw : Wk off L H L1 H1) (hl : Lp off L1 H1 body K) : Lp off L H body K := by
  obtain ⟨K2, hK2, α, I, sl, hp, μ, ⟨x, hx, h0⟩, hs⟩ := hl.out
  exact ⟨⟨K2, hK2, α, I, sl, hp, μ, ⟨x, hx, hw.trans h0⟩, hs⟩⟩
theorem Lp.ghostBox {off : Nat} {L : Sl} {H : Hp} {body : Sl → Hp → K3 → Prop} {K : K3} (i j p : Nat) (k : IntKind) (hoff : off ≤ i) (hij : j ≠ i)
    (h : purgeK i L fun L1 => purgeHK i H fun H1 => lookHK H1 j fun c => match c with
      | .box ds => nthK ds p fun d => match d with
        | .nil => setAtK ds p [.osl i 0 0] fun ds' => Lp off L1 ((j, .box ds') :: (i, .arr k []) :: H1) body K
        | _ => False
      | _ => False) : Lp off L H body K := by
  rw [purgeK_eq, purgeHK_eq] at h
  obtain ⟨c, hc, h⟩ := lookHK_el h
  split at h
  case h_2 => exact h.elim
  rename_i ds
  obtain ⟨d, hd, h⟩ := nthK_el h
  split at h
  case h_2 => exact h.elim
  obtain ⟨_, h⟩ := setAtK_el h
  have e : V.setAt ds p [.osl i 0 0] = ds.set p (.osl i 0 0) := by
    have hp := (List.getElem?_eq_some_iff.1 hd).1
    unfold V.setAt
    rw [List.set_eq_take_append_cons_drop, if_pos hp]
    simp
  rw [e] at h
  exact Lp.pre (Wk.ghostBox i j p k hoff hc hij hd) h
theorem Lp.ghostSlot {off : Nat} {L : Sl} {H : Hp} {body : Sl → Hp → K3 → Prop} {K : K3} (i t : Nat) (k : IntKind) (hoff : off ≤ i)
    (h : purgeK i L fun L1 => purgeHK i H fun H1 => lookK L1 t fun d => match d with
      | .nil => Lp off ((t, .osl i 0 0) :: L1) ((i, .arr k []) :: H1) body K
      | _ => False) : Lp off L H body K := by
  rw [purgeK_eq, purgeHK_eq, lookK_eq] at h
  split at h
  case h_2 => exact h.elim
  rename_i hd
  exact Lp.pre (Wk.ghostSlot i t k hoff hd) h
theorem Lp.pub {off : Nat} {L : Sl} {H : Hp} {body : Sl → Hp → K3 → Prop} {K : K3} (i : Nat)
    (h : lookHK H i fun c => match c with
      | .gone => False
      | .lp _ => False
      | c => pubSlK i c L fun L1 => pubHpK i c H fun H1 => Lp off L1 ((i, .gone) :: H1) body K) : Lp off L H body K := by
  obtain ⟨c, hc, h⟩ := lookHK_el h
  split at h
  · exact h.elim
  · exact h.elim
  · rename_i hne hne2
    have hl : c.cel = true := by
      cases c with
      | gone => exact absurd rfl hne
      | lp p => exact absurd rfl (hne2 p)
      | _ => rfl
    rw [pubSlK_eq, pubHpK_eq] at h
    refine Lp.pre ⟨fun cx E h' a w _ S => ?_⟩ h
    obtain ⟨h1, _, S1, _⟩ := S.publish hc hl
    exact ⟨E, h1, S1⟩
theorem getxn {xs : List Int} {k : Nat} (h : (k : Int) < xs.length) : ∃ x, xs[k]? = some x ∧ xs.getD k 0 = x := by
  have h2 : k < xs.length := by omega
  exact ⟨xs[k], List.getElem?_eq_getElem h2, by simp [List.getD_eq_getElem?_getD, h2]⟩
end Go.V
end
section
namespace Go.V
open Go Go.RowKit
structure Hold (B : Prop) : Prop where
  out : B
theorem sd {A : Prop} (h : A := by
  first
  | exact fun _ h => (by rw [h]; rfl)
  | (intros; (repeat' (first | exact rfl | exact True.intro | exact Nat.le_refl _ | with_reducible refine And.intro ?_ ?_ | assumption)); done)
  | (intros; (try simp only [V.InR, V.lo, V.hi, decide_eq_true_eq, decide_eq_false_iff_not] at *); omega)
  | (intros; (try simp only [V.InR, V.lo, V.hi, decide_eq_true_eq, decide_eq_false_iff_not, true_and, List.length_cons, List.length_nil, List.length_append, List.length_set, List.length_replicate, List.length_map, List.length_take, List.length_drop, Nat.zero_add, Int.toNat_natCast] at *); omega)
  | fail) : A := h
theorem rc {A : Prop} (h : A := by
  first
  | ((conv => whnf); (repeat (first
      | ((with_reducible refine And.intro ?_ ?_); (focus (exact sd)); (conv => whnf))
      | ((with_reducible refine Or.inl (And.intro ?_ ?_)); (focus (exact sd)); (conv => whnf))
      | ((with_reducible refine Or.inr (And.intro ?_ ?_)); (focus (exact sd)); (conv => whnf)))); exact ⟨rfl⟩)
  | fail) : A := h
theorem s1 {A B : Prop} (k : B) (h : Hold B → A := by
  first
  | (intro k
     first
     | ((with_reducible first | refine And.intro ?_ draw_nil | refine Cnd.y ?_ | refine Cnd.n ?_ | refine Cnd.ny ?_ | refine Cnd.nn ?_); (conv => whnf))
     | ((with_reducible refine recheck_and ?_ ?_); (focus (exact rc)); (conv => whnf))
     | ((with_reducible refine And.intro ?_ ?_); (focus (exact sd)); (conv => whnf))
     | ((with_reducible refine GrdK.yes ?_ ?_); (focus (first | with_reducible assumption | rfl)); (conv => whnf))
     | ((with_reducible refine GrdK.no ?_ ?_); (focus (first | with_reducible assumption | rfl)); (conv => whnf))
     | ((with_reducible refine Cnd.no ?_ ?_); (focus decide); (conv => whnf))
     | ((with_reducible refine Cnd.yes ?_ ?_); (focus decide); (conv => whnf))
     | ((with_reducible refine Or.inl (And.intro ?_ ?_)); (focus (exact sd)); (conv => whnf))
     | ((with_reducible refine Or.inr (And.intro ?_ ?_)); (focus (exact sd)); (conv => whnf))
     exact k.out)
  | fail) : A := h ⟨k⟩
theorem st {A B : Prop} (k : B) (h : Hold B → A := by
  first
  | (intro k
     repeat (first
     | ((with_reducible first | refine And.intro ?_ draw_nil | refine Cnd.y ?_ | refine Cnd.n ?_ | refine Cnd.ny ?_ | refine Cnd.nn ?_); (conv => whnf))
     | ((with_reducible refine recheck_and ?_ ?_); (focus (exact rc)); (conv => whnf))
     | ((with_reducible refine And.intro ?_ ?_); (focus (exact sd)); (conv => whnf))
     | ((with_reducible refine GrdK.yes ?_ ?_); (focus (first | with_reducible assumption | rfl)); (conv => whnf))
     | ((with_reducible refine GrdK.no ?_ ?_); (focus (first | with_reducible assumption | rfl)); (conv => whnf))
     | ((with_reducible refine Cnd.no ?_ ?_); (focus decide); (conv => whnf))
     | ((with_reducible refine Cnd.yes ?_ ?_); (focus decide); (conv => whnf))
     | ((with_reducible refine Or.inl (And.intro ?_ ?_)); (focus (exact sd)); (conv => whnf))
     | ((with_reducible refine Or.inr (And.intro ?_ ?_)); (focus (exact sd)); (conv => whnf)))
     exact k.out)
  | fail) : A := h ⟨k⟩
theorem wk {off : Nat} {L L' : Sl} {H H' : Hp} (h1 : wkSl L L' L' := by first | ((repeat' (first | exact True.intro | exact rfl | (refine And.intro ?_ ?_))); done) | fail)
    (h2 : wkHp H H' H' := by first | ((repeat' (first | exact True.intro | exact rfl | (refine And.intro ?_ ?_))); done) | fail) : Wk off L H L' H' := Wk.of2 h1 h2
end Go.V
end
section
namespace Go.V
open Go Go.RowKit
theorem Wk.pub {off : Nat} {L : Sl} {H : Hp} {L2 : Sl} {H2 : Hp} (i : Nat)
    (h : lookHK H i fun c => match c with
      | .gone => False
      | .lp _ => False
      | c => pubSlK i c L fun L1 => pubHpK i c H fun H1 => Wk off L1 ((i, .gone) :: H1) L2 H2) : Wk off L H L2 H2 := by
  obtain ⟨c, hc, h⟩ := lookHK_el h
  split at h
  · exact h.elim
  · exact h.elim
  · rename_i hne hne2
    have hl : c.cel = true := by
      cases c with
      | gone => exact absurd rfl hne
      | lp p => exact absurd rfl (hne2 p)
      | _ => rfl
    rw [pubSlK_eq, pubHpK_eq] at h
    refine ⟨fun cx E h' a w e S => ?_⟩
    obtain ⟨h1, _, S1, _⟩ := S.publish hc hl
    exact h.out cx E h1 a w e S1
end Go.V
end
section
open Go Go.RowKit
namespace Go.V
def pubOf (w : World) : Pub := fun b o => w.cell? ⟨b, o, none⟩
theorem agree_pubOf (w : World) (hg : GlW w) : Agree (pubOf w) w := ⟨fun _ _ _ e => e, fun g vs h i v hv => by
  obtain ⟨_, T, f, h2⟩ := hg.1 g vs h
  unfold pubOf
  rw [cell_of_row w g i _ T f h2]
  simpa using hv, hg, fun g h => by
  obtain ⟨tp, p, T, f, h2⟩ := hg.2 g h
  exact ⟨.iface tp p, by unfold pubOf; rw [cell_of_row w g 0 _ T f h2]; rfl⟩⟩
theorem Called.walk {P : Program} {f : Nat} {ds : List D} (c : Called P f ds (.bool true)) (w : World) {vs : List Value} (hd : DenL Env.dummy (pubOf w) ds vs) (hg : GlW w := by first | exact ⟨fun _ _ h => absurd h List.not_mem_nil, fun _ h => absurd h List.not_mem_nil⟩ | fail) :
    Calls P f vs.toArray w fun e w' => e = .returned (.bool true) ∧ Below w.heap.size w w' := by
  refine (c.call (pubOf w) w vs (agree_pubOf w hg) hd).mono fun e w' ⟨v, h', he, hv, _, _, hb, _⟩ => ?_
  simp only [Den] at hv
  subst hv
  exact ⟨he, hb⟩
end Go.V
end
section
open Go Go.RowKit
namespace Go.V
inductive Lf where
  | bool
  | int (k : IntKind)
  | ints (k : IntKind)
  | str
def leafOk (w : World) : Lf → Value → Prop
  | .bool, v => ∃ b, v = .bool b
  | .int k, v => ∃ n, v = .int k n ∧ InR k n
  | .ints k, v => ∃ zs, slIntsOk (pubOf w) k zs v
  | .str, v => ∃ s : List UInt8, v = .string ⟨s.toArray⟩ ∧ s.length ≤ 281474976710656
def leavesOk (w : World) : List Lf → List Value → Prop
  | [], vs => vs = []
  | l :: ls, vs => ∃ v vs', vs = v :: vs' ∧ leafOk w l v ∧ leavesOk w ls vs'
theorem leavesOk.app {w : World} : ∀ {a b : List Lf} {xs ys : List Value}, leavesOk w a xs → leavesOk w b ys → leavesOk w (a ++ b) (xs ++ ys)
  | [], _, _, _, h, k => by simp only [leavesOk] at h; subst h; exact k
  | _ :: a, b, _, ys, ⟨v, vs', rfl, h1, h2⟩, k => ⟨v, vs' ++ ys, rfl, h1, leavesOk.app h2 k⟩
def rep (l : List Lf) : Nat → List Lf
  | 0 => []
  | n + 1 => l ++ rep l n
def leavesF (P : Program) (g : TypeId → Option (List Lf)) : List Field → Nat → Option (List Lf)
  | [], _ => some []
  | fd :: fds, off => if fd.offset = off then (g fd.type).bind fun l => if P.cellsOf fd.type = l.length then (leavesF P g fds (off + l.length)).map (l ++ ·) else none else none
def leaves (P : Program) : Nat → TypeId → Option (List Lf)
  | 0, _ => none
  | f + 1, t => match P.underlying t with
    | some .bool => some [.bool]
    | some (.int k) => some [.int k]
    | some .string => some [.str]
    | some (.slice e) => match P.underlying e with
      | some (.int k) => if P.cellsOf e = 1 ∧ 1 ≤ P.bytesOf e then some [.ints k] else none
      | _ => none
    | some (.struct fs) => (leavesF P (leaves P f) fs.toList 0).bind fun l => if P.cellsOf t = l.length then some l else none
    | some (.array n e) => (leaves P f e).bind fun l => if P.cellsOf e = l.length ∧ P.cellsOf t = (rep l n).length then some (rep l n) else none
    | _ => none
def SpotOk (v : Value) : Prop := ∀ a len cap, v = .slice (some a) len cap → a.spot = none
theorem spotOk_cell {P : Program} {w : World} {r : Reach} {base : Nat} {t : TypeId} {v : Value} (h : Cell.okWide P w r base t v) : SpotOk v := by
  intro a len cap e
  subst e
  unfold Cell.okWide at h
  split at h
  all_goals first
    | (rename_i h1; simp at h1; done)
    | skip
  unfold Cell.ok at h
  split at h <;> simp_all [World.has]
theorem spotOk_of {P : Program} {w : World} {r : Reach} {base : Nat} {t : TypeId} {v : Value} (h : Value.okWide P w r base t v) : ∀ c ∈ v.cells.toList, SpotOk c := by
  unfold Value.okWide at h
  split at h
  · obtain ⟨cs, rfl, _, ts, _, _, h3⟩ := h
    intro c hc
    obtain ⟨i, hi, rfl⟩ := List.mem_iff_getElem.1 hc
    obtain ⟨u, _, hu⟩ := h3 i _ (by simp only [Value.cells] at hi ⊢; exact Array.getElem?_eq_getElem (by simpa using hi))
    exact spotOk_cell hu
  · obtain ⟨cs, rfl, _, ts, _, _, h3⟩ := h
    intro c hc
    obtain ⟨i, hi, rfl⟩ := List.mem_iff_getElem.1 hc
    obtain ⟨u, _, hu⟩ := h3 i _ (by simp only [Value.cells] at hi ⊢; exact Array.getElem?_eq_getElem (by simpa using hi))
    exact spotOk_cell hu
  · intro c hc
    have : c = v ∨ ∃ cs, v = .agg cs := by
      cases v <;> simp_all [Value.cells]
    rcases this with rfl | ⟨cs, rfl⟩
    · exact spotOk_cell h
    · exfalso
      unfold Cell.okWide at h
      split at h
      all_goals first
        | (rename_i h1; simp at h1; done)
        | skip
      unfold Cell.ok at h
      split at h <;> simp_all
section
variable {H : Type} {enc : TypeId × Value → H} {P : Program} {w : World} {base : Nat} {spare : Nat → Bool} {held : Bool}
theorem inR_wf {k : IntKind} {n : Int} (h : (Lit.int k n).wf = true) : InR k n := by
  cases k <;> simp [Lit.wf, IntKind.min, IntKind.max, IntKind.signed, IntKind.bits] at h <;> simp [InR, lo, hi] <;> omega
theorem leaf_ints {t e : TypeId} {k : IntKind} {fuel : Nat} {cs : List Value} {x : DataW H × List MemPlace} (ht : P.underlying t = some (.slice e)) (he : P.underlying e = some (.int k)) (hc : P.cellsOf e = 1) (hb : 1 ≤ P.bytesOf e)
    (h : DataW.trod enc P w base spare held fuel t cs = some x) (hz : (x.1.weights P t).all (· ≤ reachBytes) = true) (hs : ∀ v ∈ cs, SpotOk v) : leavesOk w [.ints k] cs := by
  rcases Go.ChangeShapes.open_ints ht he hc h with ⟨rfl, _⟩ | ⟨a, len, cap, zs, rfl, _, hl, hm, hzl, rfl, hcell, hwf⟩
  · exact ⟨_, [], rfl, ⟨[], none, 0, rfl, Nat.le_refl _, by decide, by simp, rfl, rfl⟩, rfl⟩
  · have hsp : a.spot = none := hs _ (by simp) a len cap rfl
    have hlz : len ≤ zs.length := by rw [hzl]; split <;> omega
    have hw : zs.length ≤ reachBytes := by
      simp only [DataW.weights, ht, List.all_cons, Bool.and_eq_true, decide_eq_true_eq, ChangeShapes.lits, List.length_map, List.length_take, List.length_drop] at hz
      have h1 := hz.1
      have e1 : min len zs.length + (zs.length - len) = zs.length := by omega
      rw [e1] at h1
      exact Nat.le_trans (Nat.le_mul_of_pos_right _ hb) h1
    have hr : reachBytes ≤ 281474976710656 := by decide
    have htl : (zs.take len).length = len := by rw [List.length_take]; omega
    refine ⟨_, [], rfl, ⟨zs.take len, some a, cap, by rw [htl], by omega, by omega, fun n hn => inR_wf (hwf n (List.mem_of_mem_take hn)), hsp, fun i n hi => ?_⟩, rfl⟩
    have hi2 : i < len := by
      have := (List.getElem?_eq_some_iff.1 hi).1
      omega
    have hg : zs[i]? = some n := by rw [← hi, List.getElem?_take_of_lt hi2]
    have := hcell i (by omega)
    rw [List.getD_eq_getElem?_getD, hg] at this
    have ea : a.add i = ⟨a.block, a.off + i, none⟩ := by
      obtain ⟨b, o, s⟩ := a
      subst hsp
      unfold Addr.add
      split
      · rename_i h0
        subst h0
        rfl
      · rfl
    rw [ea] at this
    exact this
theorem leavesF_ok {g : TypeId → Option (List Lf)} {n : Nat} {cs : List Value}
    (ih : ∀ (t : TypeId) (ls : List Lf) (cs : List Value) (x : DataW H × List MemPlace), g t = some ls → DataW.trod enc P w base spare held n t cs = some x → (x.1.weights P t).all (· ≤ reachBytes) = true → (∀ v ∈ cs, SpotOk v) → leavesOk w ls cs)
    (hs : ∀ v ∈ cs, SpotOk v) :
    ∀ (fds : List Field) (off : Nat) (ls : List Lf) (xs : List (DataW H × List MemPlace)), leavesF P g fds off = some ls → xs.length = fds.length →
      (∀ (i : Nat) (f : Field), fds[i]? = some f → DataW.trod enc P w base spare held n f.type ((cs.drop f.offset).take (P.cellsOf f.type)) = xs[i]?) →
      (DataW.weightsEach P (fds.map (·.type)) (xs.map (·.1))).all (· ≤ reachBytes) = true → leavesOk w ls ((cs.drop off).take ls.length) := by
  intro fds
  induction fds with
  | nil =>
    intro off ls xs h _ _ _
    simp only [leavesF, Option.some.injEq] at h
    subst h
    rfl
  | cons fd fds ihf =>
    intro off ls xs h hl hx hz
    cases xs with
    | nil => simp at hl
    | cons x xs =>
      simp only [leavesF] at h
      split at h
      case isFalse => cases h
      case isTrue ho =>
        cases hg : g fd.type with
        | none => rw [hg] at h; cases h
        | some l =>
          rw [hg] at h
          simp only [Option.bind_some] at h
          split at h
          case isFalse => cases h
          case isTrue hc =>
            obtain ⟨r, hr, rfl⟩ := Option.map_eq_some_iff.1 h
            simp only [List.map_cons, DataW.weightsEach, List.all_append, Bool.and_eq_true] at hz
            have h1 := ih _ _ _ _ hg (hx 0 fd rfl) hz.1 (fun v hv => hs v (List.mem_of_mem_drop (List.mem_of_mem_take hv)))
            have h2 := ihf (off + l.length) r xs hr (by simpa using hl) (fun i f hf => hx (i + 1) f hf) hz.2
            rw [hc, ho] at h1
            rw [List.length_append, List.take_add, List.drop_drop]
            exact h1.app h2
theorem rep_length (l : List Lf) (n : Nat) : (rep l n).length = n * l.length := by
  induction n with
  | zero => simp [rep]
  | succ n ih => rw [rep, List.length_append, ih, Nat.add_mul, Nat.one_mul, Nat.add_comm]
theorem leavesA_ok {l : List Lf} {e : TypeId} {n : Nat} {cs : List Value}
    (ih : ∀ (cs : List Value) (x : DataW H × List MemPlace), DataW.trod enc P w base spare held n e cs = some x → (x.1.weights P e).all (· ≤ reachBytes) = true → (∀ v ∈ cs, SpotOk v) → leavesOk w l cs)
    (hs : ∀ v ∈ cs, SpotOk v) :
    ∀ (m off : Nat) (xs : List (DataW H × List MemPlace)), xs.length = m →
      (∀ (i : Nat), i < m → DataW.trod enc P w base spare held n e ((cs.drop (off + i * l.length)).take l.length) = xs[i]?) →
      (DataW.weightsAll P e (xs.map (·.1))).all (· ≤ reachBytes) = true → leavesOk w (rep l m) ((cs.drop off).take (rep l m).length) := by
  intro m
  induction m with
  | zero => intro off xs _ _ _; rfl
  | succ m ihm =>
    intro off xs hl hx hz
    cases xs with
    | nil => simp at hl
    | cons x xs =>
      simp only [List.map_cons, DataW.weightsAll, List.all_append, Bool.and_eq_true] at hz
      have h1 := ih _ _ (hx 0 (by omega)) hz.1 (fun v hv => hs v (List.mem_of_mem_drop (List.mem_of_mem_take hv)))
      have h2 := ihm (off + l.length) xs (by simpa using hl) (fun i hi => by
        have := hx (i + 1) (by omega)
        rw [Nat.add_mul, Nat.one_mul, Nat.add_comm (i * l.length), ← Nat.add_assoc] at this
        exact this) hz.2
      rw [Nat.zero_mul, Nat.add_zero] at h1
      rw [rep, List.length_append, List.take_add, List.drop_drop]
      exact h1.app h2
theorem leaves_ok : ∀ (f : Nat) (n : Nat) (t : TypeId) (ls : List Lf) (cs : List Value) (x : DataW H × List MemPlace), leaves P f t = some ls → DataW.trod enc P w base spare held n t cs = some x →
    (x.1.weights P t).all (· ≤ reachBytes) = true → (∀ v ∈ cs, SpotOk v) → leavesOk w ls cs := by
  intro f
  induction f with
  | zero => intro n t ls cs x h; simp [leaves] at h
  | succ f ih =>
    intro n t ls cs x h hd hz hs
    unfold leaves at h
    split at h
    · rename_i ht
      cases h
      obtain ⟨b, rfl, _⟩ := DataW.trod_bool ht hd
      exact ⟨_, [], rfl, ⟨b, rfl⟩, rfl⟩
    · rename_i k ht
      cases h
      obtain ⟨n, rfl, _, hwf⟩ := DataW.trod_int ht hd
      exact ⟨_, [], rfl, ⟨n, rfl, inR_wf hwf⟩, rfl⟩
    · rename_i ht
      cases h
      obtain ⟨s, rfl, hx, hwf⟩ := DataW.trod_string ht hd
      subst hx
      have hr : reachBytes ≤ 281474976710656 := by decide
      refine ⟨_, [], rfl, ⟨s.data.toList, rfl, ?_⟩, rfl⟩
      simp only [DataW.weights, ht, List.all_cons, List.all_nil, Bool.and_true, decide_eq_true_eq] at hz
      omega
    · rename_i e ht
      split at h
      · rename_i k he
        split at h
        · rename_i hc
          cases h
          exact leaf_ints ht he hc.1 hc.2 hd hz hs
        · cases h
      · cases h
    · rename_i fs ht
      cases hg : leavesF P (leaves P f) fs.toList 0 with
      | none => rw [hg] at h; cases h
      | some l =>
        rw [hg] at h
        simp only [Option.bind_some] at h
        split at h
        case isFalse => cases h
        case isTrue hc =>
          cases h
          obtain ⟨xs, m, _, rfl, hcl, hxl, hx⟩ := DataW.trod_struct ht hd
          simp only [DataW.weights, ht] at hz
          have := leavesF_ok (P := P) (enc := enc) (base := base) (spare := spare) (held := held) (n := m) (fun t ls cs x h1 h2 h3 h4 => ih m t ls cs x h1 h2 h3 h4) hs fs.toList 0 _ xs hg (by simpa using hxl) (fun i f hf => hx i f (by simpa using hf)) hz
          rw [List.drop_zero, List.take_of_length_le (by omega)] at this
          exact this
    · rename_i m e ht
      cases hg : leaves P f e with
      | none => rw [hg] at h; cases h
      | some l =>
        rw [hg] at h
        simp only [Option.bind_some] at h
        split at h
        case isFalse => cases h
        case isTrue hc =>
          cases h
          obtain ⟨xs, m', _, rfl, hcl, hxl, hx⟩ := DataW.trod_array ht hd
          simp only [DataW.weights, ht] at hz
          have := leavesA_ok (P := P) (enc := enc) (base := base) (spare := spare) (held := held) (n := m') (fun cs x h2 h3 h4 => ih m' e l cs x hg h2 h3 h4) hs m 0 xs hxl (fun i hi => by
            have := hx i hi
            rw [hc.1] at this
            rw [Nat.zero_add]
            exact this) hz
          rw [List.drop_zero, List.take_of_length_le (by omega)] at this
          exact this
    · cases h
theorem read_arg {r : Reach} {b0 f : Nat} {t : TypeId} {v : Value} {d : DataW H} {ps : List MemPlace} {ls : List Lf} (hl : leaves P f t = some ls) (hv : Value.okWide P w r b0 t v) (hd : DataW.Trod enc P w base spare held t v d ps)
    (hz : (d.weights P t).all (· ≤ reachBytes) = true) : leavesOk w ls v.cells.toList := by
  obtain ⟨n, hn⟩ := hd
  exact leaves_ok f n t ls _ _ hl hn hz (spotOk_of hv)
end
end Go.V
end
