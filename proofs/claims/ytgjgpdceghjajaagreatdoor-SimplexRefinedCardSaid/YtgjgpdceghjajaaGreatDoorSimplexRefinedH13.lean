/- Laws of a small interpreter over plain values, part 13. No condition. -/
import Derived.Test.YtgjgpdceghjajaaGreatDoorSimplexRefinedH12
import Derived.KernelRfl
import Derived.Test.YtgjgpdceghjajaaGreatDoorSimplexRefinedH9
import Derived.Carry
set_option linter.unusedSimpArgs false
set_option linter.unusedVariables false
set_option maxHeartbeats 8000000
set_option maxRecDepth 100000
section
namespace Go.V
open Go Go.RowKit
def zB : D → Value → Bool
 | .any, v => v.oneCell'
 | .int k n, .int k' n' => kE k k' && decide (n = n') && decide (n = 0)
 | .bool b, .bool b' => b == b'
 | .str s, .string s' => s.isEmpty && s'.size == 0
 | .nil, .slice none 0 0 => true
 | _, _ => false
def zBL : List D → List Value → Bool
 | [], [] => true
 | d :: ds, v :: vs => zB d v && zBL ds vs
 | _, _ => false
theorem zB_ok {d : D} {v : Value} (h : zB d v = true) (E : Env) (hp : Pub) : Den E hp d v ∧ v.oneCell' = true := by
 unfold zB at h
 split at h
 ·exact ⟨by simp [Den], h⟩
 ·simp only [jh9, decide_eq_true_eq] at h
  obtain ⟨⟨h1, rfl⟩, rfl⟩ := h
  have := kE_eq h1; subst this
  exact ⟨by simp only [Den]; exact ⟨trivial, zero_inR _⟩, rfl⟩
 ·simp at h; subst h; exact ⟨by simp [Den], rfl⟩
 ·simp only [jh9, List.isEmpty_iff, beq_iff_eq] at h
  obtain ⟨rfl, h2⟩ := h
  refine ⟨?_, rfl⟩
  simp only [Den]
  refine ⟨?_, by simp⟩
  congr 1
  apply ByteArray.ext
  apply Array.toList_inj.1
  rename_i s'
  have : s'.data.size = 0 := h2
  simp [Array.size_eq_zero_iff.1 this]
 ·exact ⟨by simp [Den], rfl⟩
 ·cases h
theorem zBL_ok {ds : List D} {vs : List Value} (h : zBL ds vs = true) (E : Env) (hp : Pub) : DenL E hp ds vs ∧ ∀ v ∈ vs, v.oneCell' = true := by
 induction ds generalizing vs with
 | nil => cases vs with
  | nil => exact ⟨by simp [DenL], by simp⟩
  | cons => simp [zBL] at h
 | cons d ds ih =>
  cases vs with
  | nil => simp [zBL] at h
  | cons v vs =>
   simp only [zBL, jh9] at h
   obtain ⟨h1, h2⟩ := zB_ok h.1 E hp
   obtain ⟨h3, h4⟩ := ih h.2
   refine ⟨by simp only [DenL]; exact ⟨_, _, rfl, h1, h3⟩, fun u hu => ?_⟩
   rcases jiL.1 hu with rfl | hu
   ·exact h2
   ·exact h4 u hu
def isAggV : Value → Bool
 | .agg _ => true
 | _ => false
def jge (P : Program) (fields : Array Field) : Nat → List (Nat × Nat) → Bool
  | _, [] => true
  | j, (o, u) :: fs => (match fields[j]? with
    | some f => Nat.beq f.offset o && Nat.beq f.type u && (match P.info? u with | some iu => !Nat.beq iu.size 0 | none => false)
    | none => false) && jge P fields (j + 1) fs
def undB (P : Program) (t : Nat) (k : TyK) : Bool := match k, P.underlying t with
 | .int k, some (.int k') => kE k k'
 | .bool, some .bool => true
 | .str, some .string => true
 | .slice e, some (.slice e') => Nat.beq e e'
 | .arr n e, some (.array n' e') => Nat.beq n n' && Nat.beq e e'
 | .ptr e, some (.pointer e') => Nat.beq e e'
 | .func, some (.func _ _ _) => true
 | .struct fs, some (.struct fields) => Nat.beq fields.size fs.length && jge P fields 0 fs
 | .other, some (.struct _) => false
 | .other, some (.array _ _) => false
 | .other, some _ => true
 | _, _ => false
def eqB (P : Program) (t : Nat) : Bool := match P.underlying t with
 | some (.struct fields) => !P.stoodInHeld t && fields.toList.all fun f => f.name != "_"
 | _ => true
theorem eqB_ok {P : Program} {t : Nat} (h : eqB P t = true) : ∀ fields, P.underlying t = some (.struct fields) → P.stoodInHeld t = false ∧ ∀ f ∈ fields.toList, f.name ≠ "_" := fun fields hu => by
 unfold eqB at h
 rw [hu] at h
 simp only [jh9, Bool.not_eq_true', jiI, bne_iff_ne] at h
 exact h
def tyB (P : Program) (t : Nat) (y : Ty) : Bool := match P.info? t with
 | none => false
 | some i => match i.zero with
  | none => false
  | some z => Nat.beq i.size y.size && Nat.beq i.bytes y.bytes && zBL y.zero z.cells.toList && (y.kind.isAgg == isAggV z) && Nat.beq z.cells.size y.size &&
    (y.kind.isAgg || (z.oneCell' && Nat.beq y.size 1)) && undB P t y.kind && eqB P t
theorem jfF {P : Program} {fields : Array Field} : ∀ {fs : List (Nat × Nat)} {j : Nat}, jge P fields j fs = true →
  ∀ (i o u : Nat), fs[i]? = some (o, u) → ∃ f iu, fields[j + i]? = some f ∧ f.offset = o ∧ f.type = u ∧ P.info? u = some iu ∧ iu.size ≠ 0
 | [], j, _, i, o, u, hi => by simp at hi
 | (o', u') :: fs, j, h, i, o, u, hi => by
  simp only [jge, jh9] at h
  cases i with
  | zero =>
   simp at hi
   obtain ⟨rfl, rfl⟩ := hi
   have h1 := h.1
   split at h1
   ·rename_i f hf
    simp only [jh9] at h1
    obtain ⟨⟨h2, h3⟩, h4⟩ := h1
    split at h4
    ·rename_i iu hiu
     refine ⟨f, iu, by simpa using hf, jae h2, jae h3, hiu, fun e => ?_⟩
     rw [e] at h4; simp at h4
    ·cases h4
   ·cases h1
  | succ i =>
   obtain ⟨f, iu, h1, h2⟩ := jfF h.2 i o u (by simpa using hi)
   exact ⟨f, iu, by rw [← h1]; congr 1; omega, h2⟩
theorem tyB_ok {P : Program} {t : Nat} {y : Ty} (h : tyB P t y = true) : TyOk P t y := by
  unfold tyB at h
  split at h
  · cases h
  · rename_i i hi
    split at h
    · cases h
    · rename_i z hz
      simp only [jh9, Bool.or_eq_true] at h
      obtain ⟨⟨⟨⟨⟨⟨⟨h1, h2⟩, h3⟩, h4⟩, h5⟩, h6⟩, h7⟩, h8⟩ := h
      refine { info := ⟨i, z, hi, jae h1, jae h2, hz, fun E hp => (zBL_ok h3 E hp).1, (zBL_ok h3 Env.dummy (fun _ _ => none)).2, fun ha => ?_, jae h5, fun ha => ?_⟩, und := ?_, eqs := eqB_ok h8 }
      · rw [ha] at h4
        cases z <;> simp [isAggV] at h4
        exact ⟨_, rfl⟩
      · rw [ha] at h6
        rcases h6 with h6 | h6
        · cases h6
        · exact ⟨h6.1, jae h6.2⟩
      · unfold undB at h7
        cases hk : y.kind <;> rw [hk] at h7 <;> cases hu : P.underlying t <;> rw [hu] at h7 <;> (try simp only at h7) <;> first | cases h7 | skip
        all_goals rename_i d
        all_goals cases d <;> (try simp only at h7) <;> first | (cases h7; done) | skip
        all_goals first
          | (have := kE_eq h7; subst this; rfl)
          | rfl
          | (have := jae h7; subst this; rfl)
          | (simp only [jh9] at h7; have e1 := jae h7.1; have e2 := jae h7.2; subst e1; subst e2; rfl)
          | exact ⟨_, _, _, rfl⟩
          | (simp only [jh9] at h7
             exact ⟨_, rfl, jae h7.1, fun j o u hj => by have := jfF h7.2 j o u hj; simpa using this⟩)
          | exact ⟨_, rfl, (fun _ e => (by cases e)), (fun _ _ e => (by cases e))⟩
def tbB (P : Program) : Tb → Bool
 | [] => true
 | (t, y) :: tb => tyB P t y && tbB P tb
theorem tbB_ok {P : Program} {tb : Tb} (h : tbB P tb = true) : TbOk P tb := by
 induction tb with
 | nil => intro t y hy; simp [tyL] at hy
 | cons x tb ih =>
  obtain ⟨s, y'⟩ := x
  simp only [tbB, jh9] at h
  intro t y hy
  simp only [tyL] at hy
  cases hb : Nat.beq s t with
  | true =>
   rw [hb] at hy
   have := jae hb; subst this
   cases hy
   exact tyB_ok h.1
  | false => rw [hb] at hy; exact ih h.2 t y hy
end Go.V
end
section
namespace Go.V
open Go Go.RowKit
theorem lp_inv {off : Nat} {L : Sl} {H : Hp} {body : Sl → Hp → K3 → Prop} {K : K3} (n : Nat) (I : Nat → Prop) (sl : Nat → Sl) (hp : Nat → Hp) (h0 : Wk off L H (sl 0) (hp 0)) (hI : I 0)
  (step : ∀ k, k ≤ n → I k → body (sl k) (hp k) (nrm (fun L' H' => ∃ y, (y ≤ n ∧ I y) ∧ n - y < n - k ∧ Wk off L' H' (sl y) (hp y)) K)) : Lp off L H body K :=
 Lp.of ⟨Nat, fun k => k ≤ n ∧ I k, sl, hp, fun k => n - k, ⟨0, ⟨jib _, hI⟩, h0⟩, fun k hk => step k hk.1 hk.2⟩
theorem jaB {P : Program} {tb : Tb} {inl : Inl} {yl : Yl} {N off : Nat} {all : List Oper} {KP : KPan} {gt : Nat → Sl → Hp → Prop} {L : Sl} {H : Hp} {K : K2} : je3 P tb inl yl N off all KP gt .nil L H K := True.intro
theorem getD_toNat (xs : List Int) (k : Nat) (x : Int) (h : xs[k]? = some x) : xs.getD (k : Int).toNat 0 = x := by
 simp [jiJ, h]
theorem getx {xs : List Int} {k : Nat} (h : (k : Int) < xs.length) : ∃ x, xs[k]? = some x ∧ xs.getD (k : Int).toNat 0 = x := by
 have h2 : k < xs.length := by omega
 exact ⟨xs[k], jiM h2, by simp [jiJ, h2]⟩
def slApp : Sl → Sl → Sl
 | [], M => M
 | x :: L, M => x :: slApp L M
def hpApp : Hp → Hp → Hp
 | [], M => M
 | x :: L, M => x :: hpApp L M
def wkSl (L L2 : Sl) : Sl → Prop
 | [] => True
 | (t, _) :: R => (match look L2 t with | .any => True | d => look L t = d) ∧ wkSl L L2 R
def wkHp (H H2 : Hp) : Hp → Prop
 | [] => True
 | (i, _) :: R => (match lookH H2 i with | none => True | some c => lookH H i = some c) ∧ wkHp H H2 R
theorem look_none {L : Sl} {t : Nat} (h : ∀ p ∈ L, p.1 ≠ t) : look L t = .any := by
 induction L with
 | nil => rfl
 | cons x L ih =>
  obtain ⟨s, d⟩ := x
  rw [jaI, if_neg (h (s, d) (by simp))]
  exact ih fun p hp => h p (by simp [hp])
theorem lookH_none {H : Hp} {t : Nat} (h : ∀ p ∈ H, p.1 ≠ t) : lookH H t = none := by
 induction H with
 | nil => rfl
 | cons x L ih =>
  obtain ⟨s, d⟩ := x
  rw [jag, if_neg (h (s, d) (by simp))]
  exact ih fun p hp => h p (by simp [hp])
theorem wkSl_mem {L L2 R : Sl} (h : wkSl L L2 R) {t : Nat} (ht : ∃ p ∈ R, p.1 = t) : look L2 t = .any ∨ look L t = look L2 t := by
 induction R with
 | nil => obtain ⟨p, hp, _⟩ := ht; simp at hp
 | cons x R ih =>
  obtain ⟨s, d⟩ := x
  obtain ⟨p, hp, e⟩ := ht
  by_cases hs : s = t
  ·subst hs
   have h1 := h.1
   cases hl : look L2 s <;> rw [hl] at h1 <;> first | exact .inl rfl | exact .inr h1
  ·rcases jiL.1 hp with e2 | e2
   ·subst e2; exact absurd e hs
   ·exact ih h.2 ⟨p, e2, e⟩
theorem wkHp_mem {H H2 R : Hp} (h : wkHp H H2 R) {i : Nat} {c : Chunk} (hi : ∃ p ∈ R, p.1 = i) (hc : lookH H2 i = some c) : lookH H i = some c := by
 induction R with
 | nil => obtain ⟨p, hp, _⟩ := hi; simp at hp
 | cons x R ih =>
  obtain ⟨s, d⟩ := x
  obtain ⟨p, hp, e⟩ := hi
  by_cases hs : s = i
  ·subst hs
   have h1 := h.1
   rw [hc] at h1; exact h1
  ·rcases jiL.1 hp with e2 | e2
   ·subst e2; exact absurd e hs
   ·exact ih h.2 ⟨p, e2, e⟩
theorem Wk.of2 {off : Nat} {L L' : Sl} {H H' : Hp} (h1 : wkSl L L' L') (h2 : wkHp H H' H') : Wk off L H L' H' := by
  refine ⟨fun cx E h a w _ S => ?_⟩
  have hl : ∀ {i c}, lookH H' i = some c → lookH H i = some c := fun {i c} hc => by
    by_cases hm : ∃ p ∈ H', p.1 = i
    · exact wkHp_mem h2 hm hc
    · rw [lookH_none (fun p hp e => hm ⟨p, hp, e⟩)] at hc; cases hc
  refine ⟨E, h, { knows := fun t => ?_, mem := ?_, agree := S.agree, since := S.since, low := S.low, side := S.side }⟩
  · by_cases hm : ∃ p ∈ L', p.1 = t
    · rcases wkSl_mem h1 hm with e | e
      · rw [e]; simp [Den]
      · rw [← e]; exact S.knows t
    · rw [look_none (fun p hp e => hm ⟨p, hp, e⟩)]; simp [Den]
  · exact { ok := fun i c hc => S.mem.ok i c (hl hc), base := fun i c hc => S.mem.base i c (hl hc), unpub := fun i c hc => S.mem.unpub i c (hl hc),
            inj := fun i j c c' hij hc hc' => S.mem.inj i j c c' hij (hl hc) (hl hc') }
def jdd : Sl → Sl → (Sl → Prop) → Prop
 | [], M, K => K M
 | x :: L, M, K => jdd L M fun N => K (x :: N)
theorem jcw (L M : Sl) (K : Sl → Prop) : jdd L M K = K (slApp L M) := by
 induction L generalizing K with
 | nil => rfl
 | cons x L ih => simp only [jdd, slApp, ih]
def jdx : Hp → Hp → (Hp → Prop) → Prop
 | [], M, K => K M
 | x :: L, M, K => jdx L M fun N => K (x :: N)
theorem jcF (L M : Hp) (K : Hp → Prop) : jdx L M K = K (hpApp L M) := by
 induction L generalizing K with
 | nil => rfl
 | cons x L ih => simp only [jdx, hpApp, ih]
theorem lp_go {off : Nat} {L : Sl} {H : Hp} {body : Sl → Hp → K3 → Prop} {K : K3} (n : Nat) (I : Nat → Prop) (sl : Nat → Sl) (hp : Nat → Hp) (h0 : Wk off L H (slApp (sl 0) L) (hpApp (hp 0) H)) (hI : I 0)
  (step : ∀ k, k ≤ n → I k → jdd (sl k) L fun L1 => jdx (hp k) H fun H1 => body L1 H1 (nrm (fun L' H' => ∃ y, (y ≤ n ∧ I y) ∧ n - y < n - k ∧ Wk off L' H' (slApp (sl y) L) (hpApp (hp y) H)) K)) : Lp off L H body K :=
 lp_inv n I (fun k => slApp (sl k) L) (fun k => hpApp (hp k) H) h0 hI fun k hk hi => by
  have := step k hk hi
  rw [jcw, jcF] at this
  exact this
theorem jac {off : Nat} {L : Sl} {H : Hp} {body : Sl → Hp → K3 → Prop} {K : K3} {α : Type} (x0 : α) (I : α → Prop) (μ : α → Nat) (sl : α → Sl) (hp : α → Hp) (h0 : Wk off L H (slApp (sl x0) L) (hpApp (hp x0) H)) (hI : I x0)
  (step : ∀ k, I k → jdd (sl k) L fun L1 => jdx (hp k) H fun H1 => body L1 H1 (nrm (fun L' H' => ∃ y, I y ∧ μ y < μ k ∧ Wk off L' H' (slApp (sl y) L) (hpApp (hp y) H)) K)) : Lp off L H body K :=
 Lp.of ⟨α, I, fun k => slApp (sl k) L, fun k => hpApp (hp k) H, μ, ⟨x0, hI, h0⟩, fun k hk => by
  have := step k hk
  rw [jcw, jcF] at this
  exact this⟩
def xjn (off i : Nat) {β : Type} (inv : β → Prop) (sl : β → Sl) (hp : β → Hp) (K : K3) : K3 := fun e L' H' => match e with
 | .exit j => match Nat.beq j i with
  | true => ∃ y, inv y ∧ Wk off L' H' (sl y) (hp y)
  | false => K (.exit j) L' H'
 | e => K e L' H'
theorem jhj {off : Nat} {L : Sl} {H : Hp} {body : Sl → Hp → K3 → Prop} {K : K3} {β : Type} (i : Nat) (inv : β → Prop) (sl : β → Sl) (hp : β → Hp)
  (h : Lp off L H body (xjn off i inv (fun y => slApp (sl y) L) (fun y => hpApp (hp y) H) K)) (k : ∀ y, inv y → jdd (sl y) L fun L1 => jdx (hp y) H fun H1 => K (.exit i) L1 H1) : Lp off L H body K := by
 obtain ⟨K2, hK2, hr⟩ := h.out
 refine ⟨K2, fun e L' H' hk => ?_, hr⟩
 obtain ⟨L2, H2, hw, hx⟩ := hK2 e L' H' hk
 cases e with
 | exit j =>
  simp only [xjn] at hx
  cases hb : Nat.beq j i with
  | true =>
   rw [hb] at hx
   have := jae hb; subst this
   obtain ⟨y, hy, hw2⟩ := hx
   have := k y hy
   rw [jcw, jcF] at this
   exact ⟨_, _, hw.trans hw2, this⟩
  | false => rw [hb] at hx; exact ⟨_, _, hw, hx⟩
 | _ => exact ⟨_, _, hw, hx⟩
theorem ja7 {P : Program} {tb : Tb} {inl : Inl} {N off : Nat} {a b : Code} {yl : Yl} {x : Bool} {L : Sl} {H : Hp} {K : K3} (sl : Sl) (hp : Hp)
  (h : CondB x (RunC P tb inl N a yl off L H (jn off (slApp sl L) (hpApp hp H) K)) (RunC P tb inl N b yl off L H (jn off (slApp sl L) (hpApp hp H) K))) (k : jdd sl L fun L1 => jdx hp H fun H1 => K .normal L1 H1) :
  Cnd off x (RunC P tb inl N a yl off L H) (RunC P tb inl N b yl off L H) K := .join _ _ h (by rw [jcw, jcF] at k; exact k)
theorem jab {P : Program} {tb : Tb} {inl : Inl} {N off : Nat} {all : List Oper} {KP : KPan} {p : Plan} {ns : List Nd} {yl : Yl} {L : Sl} {H : Hp} {K : K2} (sl : Sl) (hp : Hp)
  (h : drawK P tb inl yl N off all KP (fun _ _ _ => False) p L H fun L' H' => Wk off L' H' (slApp sl L) (hpApp hp H)) (k : jdd sl L fun L1 => jdx hp H fun H1 => K L1 H1) :
  Drw off (drawD P tb inl yl N off all KP p ns L H) K := .join _ _ (jad h) (by rw [jcw, jcF] at k; exact k)
def ctrK : List (Nat × Sl × Hp) → List Nat → Sl → Hp → (Sl → Hp → Prop) → Prop
 | [], _, L, H, K => K L H
 | (i, sl, hp) :: c, rem, L, H, K => match memB i rem with | true => ctrK c rem L H K | false => jdd sl L fun L1 => jdx hp H fun H1 => ctrK c rem L1 H1 K
def ndsK (P : Program) (tb : Tb) (inl : Inl) (yl : Yl) (N off : Nat) (all : List Oper) (KP : KPan) (gt : Nat → Sl → Hp → Prop) (ctr : List (Nat × Sl × Hp)) (L : Sl) (H : Hp) (K : K2) : List Nd → Prop
 | [] => True
 | nd :: ns => (ctrK ctr nd.rem L H fun Lk Hk => jbf tb all nd.pend Lk Hk (drawK P tb inl yl N off all KP gt nd.plan Lk Hk K)) ∧ ndsK P tb inl yl N off all KP gt ctr L H K ns
theorem jas {A : Prop} {P : Program} {tb : Tb} {inl : Inl} {yl : Yl} {N off : Nat} {all : List Oper} {KP : KPan} {gt : Nat → Sl → Hp → Prop} {bs : Brs} {L : Sl} {H : Hp} {K : K2} (a : A) (b : je3 P tb inl yl N off all KP gt bs L H K) : A ∧ je3 P tb inl yl N off all KP gt bs L H K := ⟨a, b⟩
theorem jay {A : Prop} {P : Program} {tb : Tb} {inl : Inl} {yl : Yl} {N off : Nat} {all : List Oper} {KP : KPan} {gt : Nat → Sl → Hp → Prop} {ctr : List (Nat × Sl × Hp)} {L : Sl} {H : Hp} {K : K2} {ns : List Nd} (a : A) (b : ndsK P tb inl yl N off all KP gt ctr L H K ns) : A ∧ ndsK P tb inl yl N off all KP gt ctr L H K ns := ⟨a, b⟩
theorem jap {A : Prop} {tb : Tb} {all : List Oper} {qs : List Nat} {L : Sl} {H : Hp} {K : Prop} (h : A) (k : jbf tb all qs L H K) : A ∧ jbf tb all qs L H K := ⟨h, k⟩
theorem no_tf {A : Prop} (h : true = false) : A := by cases h
theorem no_ft {A : Prop} (h : false = true) : A := by cases h
theorem no_nt {A : Prop} (h : (!true) = true) : A := by cases h
theorem no_nf {A : Prop} (h : (!false) = false) : A := by cases h
theorem Cnd.y {off : Nat} {A B : K3 → Prop} {K : K3} (h : A K) : Cnd off true A B K := .split ⟨fun _ => h, no_tf⟩
theorem Cnd.n {off : Nat} {A B : K3 → Prop} {K : K3} (h : B K) : Cnd off false A B K := .split ⟨no_ft, fun _ => h⟩
theorem Cnd.ny {off : Nat} {A B : K3 → Prop} {K : K3} (h : A K) : Cnd off (!false) A B K := .split ⟨fun _ => h, no_nf⟩
theorem Cnd.nn {off : Nat} {A B : K3 → Prop} {K : K3} (h : B K) : Cnd off (!true) A B K := .split ⟨no_nt, fun _ => h⟩
theorem Cnd.yes {off : Nat} {x : Bool} {A B : K3 → Prop} {K : K3} (e : x = true) (h : A K) : Cnd off x A B K := .split ⟨fun _ => h, fun h' => (by rw [e] at h'; cases h')⟩
theorem Cnd.no {off : Nat} {x : Bool} {A B : K3 → Prop} {K : K3} (e : x = false) (h : B K) : Cnd off x A B K := .split ⟨fun h' => (by rw [e] at h'; cases h'), fun _ => h⟩
theorem jaa {P : Program} {g : Prop} {f : Nat} {ds : List D} {K : D → Prop} {r : D} (h : Called P f ds r) (k : K r) : ∃ r, (g → Called P f ds r) ∧ K r := ⟨r, fun _ => h, k⟩
def FinL : List D → List D → Prop
 | [], [] => True
 | r :: rs, r' :: rs' => Fin r r' ∧ FinL rs rs'
 | _, _ => False
theorem FinL.den {h : Pub} : ∀ {rs rs' : List D} {vs : List Value}, FinL rs rs' → DenL Env.dummy h rs' vs → DenL Env.dummy h rs vs
 | [], [], _, _, H => H
 | _ :: _, _ :: _, _, F, H => by
  simp only [DenL] at H ⊢
  obtain ⟨v, vs', h1, h2, h3⟩ := H
  exact ⟨v, vs', h1, F.1.out _ _ h2, FinL.den F.2 h3⟩
theorem Fin.tup {rs rs' : List D} (F : FinL rs rs') : Fin (.tup rs) (.tup rs') := ⟨fun h v hv => by
 simp only [Den] at hv ⊢
 obtain ⟨vs, h1, h2⟩ := hv
 exact ⟨vs, h1, FinL.den F h2⟩⟩
theorem Fin.agg {rs rs' : List D} (F : FinL rs rs') : Fin (.agg rs) (.agg rs') := ⟨fun h v hv => by
 simp only [Den] at hv ⊢
 obtain ⟨vs, h1, h2, h3⟩ := hv
 exact ⟨vs, h1, FinL.den F h2, h3⟩⟩
theorem Called.cast {P : Program} {f : Nat} {ds : List D} {r r' : D} (h : Called P f ds r) (e : r = r') : Called P f ds r' := e ▸ h
end Go.V
end
section
namespace Go.V
open Go Go.RowKit
section
variable {cx : Cx} {E : Env} {h : Pub} {a : Act} {w : World} {L : Sl} {H : Hp}
theorem Sat.rechunk (S : Sat cx E h a w L H) {j : Nat} {c c' : Chunk} (hj : lookH H j = some c) (hl : c.live = true) (hc : ChunkOk E h w j c') : Sat cx E h a w L ((j, c') :: H) := by
 have key : ∀ i x, lookH ((j, c') :: H) i = some x → x.live = true → ∃ y, lookH H i = some y ∧ y.live = true := fun i x hx hlx => by
  rw [jag] at hx
  split at hx
  ·rename_i e; subst e; exact ⟨c, hj, hl⟩
  ·exact ⟨x, hx, hlx⟩
 refine { S with mem := { ok := ?_, base := ?_, unpub := ?_, inj := ?_ } }
 ·intro i x hx
  rw [jag] at hx
  split at hx
  ·rename_i e; subst e; cases hx; exact hc
  ·exact S.mem.ok i x hx
 ·intro i x hx hlx
  obtain ⟨y, h1, h2⟩ := key i x hx hlx
  exact S.mem.base i y h1 h2
 ·intro i x hx hlx
  obtain ⟨y, h1, h2⟩ := key i x hx hlx
  exact S.mem.unpub i y h1 h2
 ·intro i k x y hik hx hy lx ly
  obtain ⟨x', h1, h2⟩ := key i x hx lx
  obtain ⟨y', h3, h4⟩ := key k y hy ly
  exact S.mem.inj i k x' y' hik h1 h3 h2 h4
theorem Sat.reslot (S : Sat cx E h a w L H) {t : Nat} {d : D} (hd : Den E h d (a.tmps.getD t Go.undef)) : Sat cx E h a w ((t, d) :: L) H := by
 refine { S with knows := fun s => ?_ }
 rw [jaI]
 split
 ·rename_i e; subst e; exact hd
 ·exact S.knows s
theorem Sat.virt0 (S : Sat cx E h a w L H) {i : Nat} {k : IntKind} (hoff' : cx.off ≤ i) :
  Sat cx (E.virt i) h a w (purge i L) ((i, .arr k []) :: jaE i H) := by
 have hoff := E.off_virt i
 have live : ∀ j c', j ≠ i → lookH ((i, .arr k []) :: jaE i H) j = some c' → c'.live = true → ∃ c0, lookH H j = some c0 ∧ c' = jb5 i c0 ∧ c0.live = true := by
  intro j c' hj hc' hl
  rw [jag, if_neg (Ne.symm hj)] at hc'
  obtain ⟨c0, h1, h2⟩ := ja9 hc'
  exact ⟨c0, h1, h2, by rw [h2, ja8] at hl; exact hl⟩
 have hne : ∀ j, (E.virt i).real j = true → j ≠ i := fun j hr e => by subst e; rw [E.virt_real] at hr; cases hr
 have hre : ∀ j, j ≠ i → (E.virt i).real j = E.real j := fun j hj => (hoff j hj).2.2.2.1
 refine { knows := ?_, mem := ?_, agree := S.agree, since := S.since, low := fun j hj => jeM S.low hoff hoff' j hj, side := S.side }
 ·exact fun t => jbF hoff (S.knows t)
 ·refine { ok := ?_, base := ?_, unpub := ?_, inj := ?_ }
  ·intro j c' hc'
   by_cases hj : j = i
   ·subst hj; rw [jag, if_pos rfl] at hc'; cases hc'; exact .inl ⟨E.virt_real _, rfl⟩
   ·cases hl : c'.live with
    | false => cases c' <;> first | trivial | (simp [Chunk.live] at hl)
    | true =>
     obtain ⟨c0, h1, rfl, hl'⟩ := live j c' hj hc' hl
     exact ChunkOk.env hoff hj (S.mem.ok j _ h1)
  ·intro j c' hc' hl hr
   have hj := hne j hr
   obtain ⟨c0, h1, rfl, hl'⟩ := live j c' hj hc' hl
   rw [hre j hj] at hr
   exact S.mem.base j _ h1 hl' hr
  ·intro j c' hc' hl hr o
   have hj := hne j hr
   obtain ⟨c0, h1, rfl, hl'⟩ := live j c' hj hc' hl
   rw [hre j hj] at hr
   exact S.mem.unpub j _ h1 hl' hr o
  ·intro j k' c1 c2 hjk h1 h2 l1 l2 r1 r2
   have hj := hne j r1
   have hk := hne k' r2
   obtain ⟨c0, g1, rfl, l1'⟩ := live j c1 hj h1 l1
   obtain ⟨c0', g2, rfl, l2'⟩ := live k' c2 hk h2 l2
   rw [hre j hj] at r1
   rw [hre k' hk] at r2
   exact S.mem.inj j k' _ _ hjk g1 g2 l1' l2' r1 r2
end
theorem je5 {E : Env} {h : Pub} {i : Nat} {v : Value} (hr : E.real i = false) (hv : Den E h .nil v) : Den E h (.osl i 0 0) v := by
 simp only [Den] at hv ⊢
 exact .inl ⟨hr, hv, trivial⟩
theorem jgj {E : Env} {h : Pub} {d : D} : ∀ {ds : List D} {vs : List Value} {p : Nat} {x : D}, DenL E h ds vs → ds[p]? = some x → (∀ v, Den E h x v → Den E h d v) → DenL E h (ds.set p d) vs
 | [], _, _, _, _, hp, _ => by simp at hp
 | y :: ds, vs, p, x, H, hp, hd => by
  simp only [DenL] at H
  obtain ⟨v, vs', rfl, h1, h2⟩ := H
  cases p with
  | zero => simp at hp; subst hp; simp only [List.set_cons_zero, DenL]; exact ⟨v, vs', rfl, hd v h1, h2⟩
  | succ p => simp only [List.set_cons_succ, DenL]; exact ⟨v, vs', rfl, h1, jgj h2 (by simpa using hp) hd⟩
theorem Wk.ghostBox {off : Nat} {L : Sl} {H : Hp} (i j p : Nat) (k : IntKind) {ds : List D} (hoff : off ≤ i) (hj : lookH (jaE i H) j = some (.box ds)) (hij : j ≠ i) (hp : ds[p]? = some .nil) :
  Wk off L H (purge i L) ((j, .box (ds.set p (.osl i 0 0))) :: (i, .arr k []) :: jaE i H) := by
 refine ⟨fun cx E h a w e S => ?_⟩
 subst e
 have S1 := S.virt0 (k := k) hoff
 have hj1 : lookH ((i, .arr k []) :: jaE i H) j = some (.box ds) := by rw [jag, if_neg (Ne.symm hij)]; exact hj
 refine ⟨E.virt i, h, S1.rechunk hj1 rfl ?_⟩
 obtain ⟨h1, vs, rest, T, h2, h3, h4⟩ := S1.mem.ok j _ hj1
 exact ⟨h1, vs, rest, T, h2, jgj h3 hp (fun v hv => je5 (E.virt_real i) hv), h4⟩
theorem Wk.ghostSlot {off : Nat} {L : Sl} {H : Hp} (i t : Nat) (k : IntKind) (hoff : off ≤ i) (ht : look (purge i L) t = .nil) :
  Wk off L H ((t, .osl i 0 0) :: purge i L) ((i, .arr k []) :: jaE i H) := by
 refine ⟨fun cx E h a w e S => ?_⟩
 subst e
 have S1 := S.virt0 (k := k) hoff
 have := S1.knows t
 rw [ht] at this
 exact ⟨E.virt i, h, S1.reslot (je5 (E.virt_real i) this)⟩
theorem Lp.pre {off : Nat} {L L1 : Sl} {H H1 : Hp} {body : Sl → Hp → K3 → Prop} {K : K3} (hw : Wk off L H L1 H1) (hl : Lp off L1 H1 body K) : Lp off L H body K := by
 obtain ⟨K2, hK2, α, I, sl, hp, μ, ⟨x, hx, h0⟩, hs⟩ := hl.out
 exact ⟨⟨K2, hK2, α, I, sl, hp, μ, ⟨x, hx, hw.trans h0⟩, hs⟩⟩
theorem Lp.ghostBox {off : Nat} {L : Sl} {H : Hp} {body : Sl → Hp → K3 → Prop} {K : K3} (i j p : Nat) (k : IntKind) (hoff : off ≤ i) (hij : j ≠ i)
    (h : jd2 i L fun L1 => jbW i H fun H1 => jbd H1 j fun c => match c with
      | .box ds => nthK ds p fun d => match d with
        | .nil => jdf ds p [.osl i 0 0] fun ds' => Lp off L1 ((j, .box ds') :: (i, .arr k []) :: H1) body K
        | _ => False
      | _ => False) : Lp off L H body K := by
  rw [jdm, jcL] at h
  obtain ⟨c, hc, h⟩ := jaA h
  split at h
  case h_2 => exact h.elim
  rename_i ds
  obtain ⟨d, hd, h⟩ := jeK h
  split at h
  case h_2 => exact h.elim
  obtain ⟨_, h⟩ := jde h
  have e : V.setAt ds p [.osl i 0 0] = ds.set p (.osl i 0 0) := by
    have hp := (jiT.1 hd).1
    unfold V.setAt
    rw [List.set_eq_take_append_cons_drop, if_pos hp]
    simp
  rw [e] at h
  exact Lp.pre (Wk.ghostBox i j p k hoff hc hij hd) h
theorem Lp.ghostSlot {off : Nat} {L : Sl} {H : Hp} {body : Sl → Hp → K3 → Prop} {K : K3} (i t : Nat) (k : IntKind) (hoff : off ≤ i)
    (h : jd2 i L fun L1 => jbW i H fun H1 => lookK L1 t fun d => match d with
      | .nil => Lp off ((t, .osl i 0 0) :: L1) ((i, .arr k []) :: H1) body K
      | _ => False) : Lp off L H body K := by
  rw [jdm, jcL, jbz] at h
  split at h
  case h_2 => exact h.elim
  rename_i hd
  exact Lp.pre (Wk.ghostSlot i t k hoff hd) h
theorem Lp.pub {off : Nat} {L : Sl} {H : Hp} {body : Sl → Hp → K3 → Prop} {K : K3} (i : Nat)
    (h : jbd H i fun c => match c with
      | .gone => False
      | .lp _ => False
      | c => jfu i c L fun L1 => jdo i c H fun H1 => Lp off L1 ((i, .gone) :: H1) body K) : Lp off L H body K := by
  obtain ⟨c, hc, h⟩ := jaA h
  split at h
  · exact h.elim
  · exact h.elim
  · rename_i hne hne2
    have hl : c.cel = true := by
      cases c with
      | gone => exact absurd rfl hne
      | lp p => exact absurd rfl (hne2 p)
      | _ => rfl
    rw [jeC, jeD] at h
    refine Lp.pre ⟨fun cx E h' a w _ S => ?_⟩ h
    obtain ⟨h1, _, S1, _⟩ := S.publish hc hl
    exact ⟨E, h1, S1⟩
theorem getxn {xs : List Int} {k : Nat} (h : (k : Int) < xs.length) : ∃ x, xs[k]? = some x ∧ xs.getD k 0 = x := by
 have h2 : k < xs.length := by omega
 exact ⟨xs[k], jiM h2, by simp [jiJ, h2]⟩
end Go.V
end
section
namespace Go.V
open Go Go.RowKit
structure Hold (B : Prop) : Prop where
 out : B
theorem sd {A : Prop} (h : A := by
  first
  | exact fun _ h => (by rw [h]; rfl)
  | (intros; (repeat' (first | exact rfl | exact True.intro | exact jii _ | with_reducible refine And.intro ?_ ?_ | assumption)); done)
  | (intros; (try simp only [V.InR, V.lo, V.hi, decide_eq_true_eq, decide_eq_false_iff_not] at *); omega)
  | (intros; (try simp only [V.InR, V.lo, V.hi, decide_eq_true_eq, decide_eq_false_iff_not, true_and, jiY, List.length_nil, jiP, ji6, List.length_replicate, List.length_map, jiQ, ji7, jif, jih] at *); omega)
  | fail) : A := h
theorem rc {A : Prop} (h : A := by
  first
  | ((conv => whnf); (repeat (first
      | ((with_reducible refine And.intro ?_ ?_); (focus (exact sd)); (conv => whnf))
      | ((with_reducible refine Or.inl (And.intro ?_ ?_)); (focus (exact sd)); (conv => whnf))
      | ((with_reducible refine Or.inr (And.intro ?_ ?_)); (focus (exact sd)); (conv => whnf)))); exact ⟨rfl⟩)
  | fail) : A := h
theorem s1 {A B : Prop} (k : B) (h : Hold B → A := by
  first
  | (intro k
     first
     | ((with_reducible first | refine And.intro ?_ jaB | refine Cnd.y ?_ | refine Cnd.n ?_ | refine Cnd.ny ?_ | refine Cnd.nn ?_); (conv => whnf))
     | ((with_reducible refine jap ?_ ?_); (focus (exact rc)); (conv => whnf))
     | ((with_reducible refine And.intro ?_ ?_); (focus (exact sd)); (conv => whnf))
     | ((with_reducible refine GrdK.yes ?_ ?_); (focus (first | with_reducible assumption | rfl)); (conv => whnf))
     | ((with_reducible refine GrdK.no ?_ ?_); (focus (first | with_reducible assumption | rfl)); (conv => whnf))
     | ((with_reducible refine Cnd.no ?_ ?_); (focus decide); (conv => whnf))
     | ((with_reducible refine Cnd.yes ?_ ?_); (focus decide); (conv => whnf))
     | ((with_reducible refine Or.inl (And.intro ?_ ?_)); (focus (exact sd)); (conv => whnf))
     | ((with_reducible refine Or.inr (And.intro ?_ ?_)); (focus (exact sd)); (conv => whnf))
     exact k.out)
  | fail) : A := h ⟨k⟩
theorem st {A B : Prop} (k : B) (h : Hold B → A := by
  first
  | (intro k
     repeat (first
     | ((with_reducible first | refine And.intro ?_ jaB | refine Cnd.y ?_ | refine Cnd.n ?_ | refine Cnd.ny ?_ | refine Cnd.nn ?_); (conv => whnf))
     | ((with_reducible refine jap ?_ ?_); (focus (exact rc)); (conv => whnf))
     | ((with_reducible refine And.intro ?_ ?_); (focus (exact sd)); (conv => whnf))
     | ((with_reducible refine GrdK.yes ?_ ?_); (focus (first | with_reducible assumption | rfl)); (conv => whnf))
     | ((with_reducible refine GrdK.no ?_ ?_); (focus (first | with_reducible assumption | rfl)); (conv => whnf))
     | ((with_reducible refine Cnd.no ?_ ?_); (focus decide); (conv => whnf))
     | ((with_reducible refine Cnd.yes ?_ ?_); (focus decide); (conv => whnf))
     | ((with_reducible refine Or.inl (And.intro ?_ ?_)); (focus (exact sd)); (conv => whnf))
     | ((with_reducible refine Or.inr (And.intro ?_ ?_)); (focus (exact sd)); (conv => whnf)))
     exact k.out)
  | fail) : A := h ⟨k⟩
theorem wk {off : Nat} {L L' : Sl} {H H' : Hp} (h1 : wkSl L L' L' := by first | ((repeat' (first | exact True.intro | exact rfl | (refine And.intro ?_ ?_))); done) | fail)
  (h2 : wkHp H H' H' := by first | ((repeat' (first | exact True.intro | exact rfl | (refine And.intro ?_ ?_))); done) | fail) : Wk off L H L' H' := Wk.of2 h1 h2
end Go.V
end
section
namespace Go.V
open Go Go.RowKit
theorem Wk.pub {off : Nat} {L : Sl} {H : Hp} {L2 : Sl} {H2 : Hp} (i : Nat)
    (h : jbd H i fun c => match c with
      | .gone => False
      | .lp _ => False
      | c => jfu i c L fun L1 => jdo i c H fun H1 => Wk off L1 ((i, .gone) :: H1) L2 H2) : Wk off L H L2 H2 := by
  obtain ⟨c, hc, h⟩ := jaA h
  split at h
  · exact h.elim
  · exact h.elim
  · rename_i hne hne2
    have hl : c.cel = true := by
      cases c with
      | gone => exact absurd rfl hne
      | lp p => exact absurd rfl (hne2 p)
      | _ => rfl
    rw [jeC, jeD] at h
    refine ⟨fun cx E h' a w e S => ?_⟩
    obtain ⟨h1, _, S1, _⟩ := S.publish hc hl
    exact h.out cx E h1 a w e S1
end Go.V
end
section
namespace Go.V
open Go Go.RowKit
abbrev tk (l : List Nat) (p : Plan) : Plan := l.foldr Plan.take p
abbrev e1 (j : Nat) (q : List Nat) (p : Plan) : Plan := .ev (.cons j q p .nil)
theorem pok {P : Program} {all : List Oper} {ns : List Nd} {p : Plan} (a : P.follows .mixedOrders = true := by kernel_rfl) (b : textB all = true := by kernel_rfl)
  (c : planB all (ancs all) ns (List.range all.length) [] p = true := by kernel_rfl) (d : ns.all (fun nd => !nd.plan.isGo && planB all (ancs all) ns nd.rem nd.pend nd.plan) = true := by kernel_rfl) : PlanOk P all ns p := ⟨a, b, c, d⟩
theorem br {P : Program} {tb : Tb} {inl : Inl} {N off : Nat} {a b : Code} {yl : Yl} {x : Bool} {L : Sl} {H : Hp} {K : K3}
  (h1 : x = true → RunC P tb inl N a yl off L H K) (h2 : x = false → RunC P tb inl N b yl off L H K) : Cnd off x (RunC P tb inl N a yl off L H) (RunC P tb inl N b yl off L H) K := Cnd.split (CondB.mk h1 h2)
theorem en {P : Program} {tb : Tb} {f : Nat} {fn : Func} {c : Code} {ds : List D} {r : D} (htb : TbOk P tb) (hf : P.funcs[f]? = some fn) (hh : RunF P tb (inlN P tb 6) (fun _ _ _ _ _ => False) fn c ds 0 [] (outK r))
  (hb : fn.body = some c := by rfl) (hn : (fn.name == "runtime.NumGoroutine") = false := by rfl) (hl : ds.length ≤ fn.ntmps := by exact jia rfl) : Called P f ds r := jgl htb 6 ⟨hf, hb, hn, hl⟩ hh
theorem a2 {A B : Prop} (a : A) (b : B) : A ∧ B := ⟨a, b⟩
theorem a3 {A B C : Prop} (a : A) (b : B) (c : C) : A ∧ B ∧ C := ⟨a, b, c⟩
theorem a4 {A B C D : Prop} (a : A) (b : B) (c : C) (d : D) : A ∧ B ∧ C ∧ D := ⟨a, b, c, d⟩
theorem a5 {A B C D E : Prop} (a : A) (b : B) (c : C) (d : D) (e : E) : A ∧ B ∧ C ∧ D ∧ E := ⟨a, b, c, d, e⟩
theorem a7 {A B C D E F G : Prop} (a : A) (b : B) (c : C) (d : D) (e : E) (f : F) (g : G) : A ∧ B ∧ C ∧ D ∧ E ∧ F ∧ G := ⟨a, b, c, d, e, f, g⟩
theorem a8 {A B C D E F G I : Prop} (a : A) (b : B) (c : C) (d : D) (e : E) (f : F) (g : G) (i : I) : A ∧ B ∧ C ∧ D ∧ E ∧ F ∧ G ∧ I := ⟨a, b, c, d, e, f, g, i⟩
theorem r0 {A B Z : Prop} (z : Z)  (k : B) (h : Hold B → Z → A := by
  first
  | (intro k z
     (conv => whnf)
     (try simp only [z])
     repeat ((first | refine V.s1 ?_); (try simp only [z]))
     exact k.out)
  | fail) : A := h ⟨k⟩ z
theorem d0 {A Z : Prop} (z : Z)  (h : Z → A := by
  first
  | (intro z
     (conv => whnf); (try simp only [z])
     repeat' (first | exact V.wk | exact True.intro | ((with_reducible refine And.intro ?_ jaB); (conv => whnf); (try simp only [z])) | ((with_reducible first | refine jas ?_ ?_ | refine jay ?_ ?_) <;> (conv => whnf); (try simp only [z])) | ((first | refine V.s1 ?_ | ((with_reducible refine jap ?_ ?_); (focus ((conv => whnf); (try simp only [z]); (repeat ((first | refine V.s1 ?_); (try simp only [z]))); exact ⟨rfl⟩)); (conv => whnf))); (try simp only [z])) | (refine And.intro ?_ ?_ <;> (conv => whnf); (try simp only [z]))))
  | fail) : A := h z
theorem r1 {A B Z C1 : Prop} (z : Z) (c1 : C1) (k : B) (h : Hold B → Z → C1 → A := by
  first
  | (intro k z c1
     (conv => whnf)
     (try simp only [z])
     repeat ((first | refine V.s1 ?_ | ((try ((with_reducible refine .ext ?_); (conv => whnf); (try simp only [z]))); (with_reducible refine jaa (r := ?_) ?_ ?_); rotate_left; (focus (first | exact c1 | (apply c1; done))); (conv => whnf))); (try simp only [z]))
     exact k.out)
  | fail) : A := h ⟨k⟩ z c1
theorem d1 {A Z C1 : Prop} (z : Z) (c1 : C1) (h : Z → C1 → A := by
  first
  | (intro z c1
     (conv => whnf); (try simp only [z])
     repeat' (first | exact V.wk | exact True.intro | ((with_reducible refine And.intro ?_ jaB); (conv => whnf); (try simp only [z])) | ((with_reducible first | refine jas ?_ ?_ | refine jay ?_ ?_) <;> (conv => whnf); (try simp only [z])) | ((first | refine V.s1 ?_ | ((with_reducible refine jap ?_ ?_); (focus ((conv => whnf); (try simp only [z]); (repeat ((first | refine V.s1 ?_); (try simp only [z]))); exact ⟨rfl⟩)); (conv => whnf)) | ((try ((with_reducible refine .ext ?_); (conv => whnf); (try simp only [z]))); (with_reducible refine jaa (r := ?_) ?_ ?_); rotate_left; (focus (first | exact c1 | (apply c1; done))); (conv => whnf))); (try simp only [z])) | (refine And.intro ?_ ?_ <;> (conv => whnf); (try simp only [z]))))
  | fail) : A := h z c1
theorem q1 {A B C1 : Prop} (c1 : C1) (k : B) (h : Hold B → C1 → A := by
  first
  | (intro k c1
     repeat ((try ((with_reducible refine .ext ?_); (conv => whnf))); (with_reducible refine jaa (r := ?_) ?_ ?_); rotate_left; (focus (first | exact c1 | (apply c1; done))); (conv => whnf); refine V.st ?_)
     exact k.out)
  | fail) : A := h ⟨k⟩ c1
theorem r2 {A B Z C1 C2 : Prop} (z : Z) (c1 : C1) (c2 : C2) (k : B) (h : Hold B → Z → C1 → C2 → A := by
  first
  | (intro k z c1 c2
     (conv => whnf)
     (try simp only [z])
     repeat ((first | refine V.s1 ?_ | ((try ((with_reducible refine .ext ?_); (conv => whnf); (try simp only [z]))); (with_reducible refine jaa (r := ?_) ?_ ?_); rotate_left; (focus (first | exact c1 | (apply c1; done) | exact c2 | (apply c2; done))); (conv => whnf))); (try simp only [z]))
     exact k.out)
  | fail) : A := h ⟨k⟩ z c1 c2
theorem d2 {A Z C1 C2 : Prop} (z : Z) (c1 : C1) (c2 : C2) (h : Z → C1 → C2 → A := by
  first
  | (intro z c1 c2
     (conv => whnf); (try simp only [z])
     repeat' (first | exact V.wk | exact True.intro | ((with_reducible refine And.intro ?_ jaB); (conv => whnf); (try simp only [z])) | ((with_reducible first | refine jas ?_ ?_ | refine jay ?_ ?_) <;> (conv => whnf); (try simp only [z])) | ((first | refine V.s1 ?_ | ((with_reducible refine jap ?_ ?_); (focus ((conv => whnf); (try simp only [z]); (repeat ((first | refine V.s1 ?_); (try simp only [z]))); exact ⟨rfl⟩)); (conv => whnf)) | ((try ((with_reducible refine .ext ?_); (conv => whnf); (try simp only [z]))); (with_reducible refine jaa (r := ?_) ?_ ?_); rotate_left; (focus (first | exact c1 | (apply c1; done) | exact c2 | (apply c2; done))); (conv => whnf))); (try simp only [z])) | (refine And.intro ?_ ?_ <;> (conv => whnf); (try simp only [z]))))
  | fail) : A := h z c1 c2
theorem q2 {A B C1 C2 : Prop} (c1 : C1) (c2 : C2) (k : B) (h : Hold B → C1 → C2 → A := by
  first
  | (intro k c1 c2
     repeat ((try ((with_reducible refine .ext ?_); (conv => whnf))); (with_reducible refine jaa (r := ?_) ?_ ?_); rotate_left; (focus (first | exact c1 | (apply c1; done) | exact c2 | (apply c2; done))); (conv => whnf); refine V.st ?_)
     exact k.out)
  | fail) : A := h ⟨k⟩ c1 c2
theorem r3 {A B Z C1 C2 C3 : Prop} (z : Z) (c1 : C1) (c2 : C2) (c3 : C3) (k : B) (h : Hold B → Z → C1 → C2 → C3 → A := by
  first
  | (intro k z c1 c2 c3
     (conv => whnf)
     (try simp only [z])
     repeat ((first | refine V.s1 ?_ | ((try ((with_reducible refine .ext ?_); (conv => whnf); (try simp only [z]))); (with_reducible refine jaa (r := ?_) ?_ ?_); rotate_left; (focus (first | exact c1 | (apply c1; done) | exact c2 | (apply c2; done) | exact c3 | (apply c3; done))); (conv => whnf))); (try simp only [z]))
     exact k.out)
  | fail) : A := h ⟨k⟩ z c1 c2 c3
theorem d3 {A Z C1 C2 C3 : Prop} (z : Z) (c1 : C1) (c2 : C2) (c3 : C3) (h : Z → C1 → C2 → C3 → A := by
  first
  | (intro z c1 c2 c3
     (conv => whnf); (try simp only [z])
     repeat' (first | exact V.wk | exact True.intro | ((with_reducible refine And.intro ?_ jaB); (conv => whnf); (try simp only [z])) | ((with_reducible first | refine jas ?_ ?_ | refine jay ?_ ?_) <;> (conv => whnf); (try simp only [z])) | ((first | refine V.s1 ?_ | ((with_reducible refine jap ?_ ?_); (focus ((conv => whnf); (try simp only [z]); (repeat ((first | refine V.s1 ?_); (try simp only [z]))); exact ⟨rfl⟩)); (conv => whnf)) | ((try ((with_reducible refine .ext ?_); (conv => whnf); (try simp only [z]))); (with_reducible refine jaa (r := ?_) ?_ ?_); rotate_left; (focus (first | exact c1 | (apply c1; done) | exact c2 | (apply c2; done) | exact c3 | (apply c3; done))); (conv => whnf))); (try simp only [z])) | (refine And.intro ?_ ?_ <;> (conv => whnf); (try simp only [z]))))
  | fail) : A := h z c1 c2 c3
theorem q3 {A B C1 C2 C3 : Prop} (c1 : C1) (c2 : C2) (c3 : C3) (k : B) (h : Hold B → C1 → C2 → C3 → A := by
  first
  | (intro k c1 c2 c3
     repeat ((try ((with_reducible refine .ext ?_); (conv => whnf))); (with_reducible refine jaa (r := ?_) ?_ ?_); rotate_left; (focus (first | exact c1 | (apply c1; done) | exact c2 | (apply c2; done) | exact c3 | (apply c3; done))); (conv => whnf); refine V.st ?_)
     exact k.out)
  | fail) : A := h ⟨k⟩ c1 c2 c3
theorem r4 {A B Z C1 C2 C3 C4 : Prop} (z : Z) (c1 : C1) (c2 : C2) (c3 : C3) (c4 : C4) (k : B) (h : Hold B → Z → C1 → C2 → C3 → C4 → A := by
  first
  | (intro k z c1 c2 c3 c4
     (conv => whnf)
     (try simp only [z])
     repeat ((first | refine V.s1 ?_ | ((try ((with_reducible refine .ext ?_); (conv => whnf); (try simp only [z]))); (with_reducible refine jaa (r := ?_) ?_ ?_); rotate_left; (focus (first | exact c1 | (apply c1; done) | exact c2 | (apply c2; done) | exact c3 | (apply c3; done) | exact c4 | (apply c4; done))); (conv => whnf))); (try simp only [z]))
     exact k.out)
  | fail) : A := h ⟨k⟩ z c1 c2 c3 c4
theorem d4 {A Z C1 C2 C3 C4 : Prop} (z : Z) (c1 : C1) (c2 : C2) (c3 : C3) (c4 : C4) (h : Z → C1 → C2 → C3 → C4 → A := by
  first
  | (intro z c1 c2 c3 c4
     (conv => whnf); (try simp only [z])
     repeat' (first | exact V.wk | exact True.intro | ((with_reducible refine And.intro ?_ jaB); (conv => whnf); (try simp only [z])) | ((with_reducible first | refine jas ?_ ?_ | refine jay ?_ ?_) <;> (conv => whnf); (try simp only [z])) | ((first | refine V.s1 ?_ | ((with_reducible refine jap ?_ ?_); (focus ((conv => whnf); (try simp only [z]); (repeat ((first | refine V.s1 ?_); (try simp only [z]))); exact ⟨rfl⟩)); (conv => whnf)) | ((try ((with_reducible refine .ext ?_); (conv => whnf); (try simp only [z]))); (with_reducible refine jaa (r := ?_) ?_ ?_); rotate_left; (focus (first | exact c1 | (apply c1; done) | exact c2 | (apply c2; done) | exact c3 | (apply c3; done) | exact c4 | (apply c4; done))); (conv => whnf))); (try simp only [z])) | (refine And.intro ?_ ?_ <;> (conv => whnf); (try simp only [z]))))
  | fail) : A := h z c1 c2 c3 c4
theorem r5 {A B Z C1 C2 C3 C4 C5 : Prop} (z : Z) (c1 : C1) (c2 : C2) (c3 : C3) (c4 : C4) (c5 : C5) (k : B) (h : Hold B → Z → C1 → C2 → C3 → C4 → C5 → A := by
  first
  | (intro k z c1 c2 c3 c4 c5
     (conv => whnf)
     (try simp only [z])
     repeat ((first | refine V.s1 ?_ | ((try ((with_reducible refine .ext ?_); (conv => whnf); (try simp only [z]))); (with_reducible refine jaa (r := ?_) ?_ ?_); rotate_left; (focus (first | exact c1 | (apply c1; done) | exact c2 | (apply c2; done) | exact c3 | (apply c3; done) | exact c4 | (apply c4; done) | exact c5 | (apply c5; done))); (conv => whnf))); (try simp only [z]))
     exact k.out)
  | fail) : A := h ⟨k⟩ z c1 c2 c3 c4 c5
end Go.V
end
section
open Go Go.RowKit
namespace Go.V
def pubOf (w : World) : Pub := fun b o => w.cell? ⟨b, o, none⟩
theorem jfg (w : World) (hg : GlW w) : Agree (pubOf w) w := ⟨fun _ _ _ e => e, fun g vs h i v hv => by
 obtain ⟨_, T, f, h2⟩ := hg.1 g vs h
 unfold pubOf
 rw [cell_of_row w g i _ T f h2]
 simpa using hv, hg, fun g h => by
 obtain ⟨tp, p, T, f, h2⟩ := hg.2 g h
 exact ⟨.iface tp p, by unfold pubOf; rw [cell_of_row w g 0 _ T f h2]; rfl⟩⟩
theorem Called.walk {P : Program} {f : Nat} {ds : List D} (c : Called P f ds (.bool true)) (w : World) {vs : List Value} (hd : DenL Env.dummy (pubOf w) ds vs) (hg : GlW w := by first | exact ⟨fun _ _ h => absurd h List.not_mem_nil, fun _ h => absurd h List.not_mem_nil⟩ | fail) :
  Calls P f vs.toArray w fun e w' => e = .returned (.bool true) ∧ Below w.heap.size w w' := by
 refine (c.call (pubOf w) w vs (jfg w hg) hd).mono fun e w' ⟨v, h', he, hv, _, _, hb, _⟩ => ?_
 simp only [Den] at hv
 subst hv
 exact ⟨he, hb⟩
end Go.V
end
