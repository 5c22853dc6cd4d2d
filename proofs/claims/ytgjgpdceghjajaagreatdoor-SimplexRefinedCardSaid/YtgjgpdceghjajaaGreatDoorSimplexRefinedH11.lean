/- Laws of a small interpreter over plain values, part 11. No condition. -/
import Derived.Test.YtgjgpdceghjajaaGreatDoorSimplexRefinedH10
set_option linter.unusedSimpArgs false
set_option linter.unusedVariables false
set_option maxHeartbeats 8000000
set_option maxRecDepth 100000
section
namespace Go.V
open Go Go.RowKit
section
variable {P : Program} {tb : Tb} {inl : Inl} {yl : Yl} {N n : Nat} {cx : Cx} {r : Option Nat} {Q : Exit → Act → World → Prop} {all : List Oper} {L : Sl} {H : Hp}
def Ahead (P : Program) (all : List Oper) (o : Oper) (L : Sl) (H : Hp) (D : D) : Prop :=
 (∀ c, o.op ≠ .defer c) ∧ (∀ cs b, o.op ≠ .select cs b) ∧
 ∀ E h (a : Act) w, (∀ t ∈ looks all o, Den E h (look L t) (a.tmps.getD t Go.undef)) → (∀ i c, lookH H i = some c → ChunkOk E h w i c) → Agree h w →
  ∃ v, Den E h D v ∧ ((Region.wanted o (yielded all.toArray a.tmps) = true ∧ (execOp a.eval o).run P w = .ok (.value v) w) ∨ (Region.wanted o (yielded all.toArray a.tmps) = false ∧ v = Go.undef))
theorem jcy {g : Prop} {o : Oper} {K : D → Prop} (h : quiet tb g L H K o.op) : ∀ cs b, o.op ≠ .select cs b := by
 intro c b e
 rw [e] at h
 exact h.elim
theorem ahead_el (htb : TbOk P tb) {o : Oper} {K : D → Prop} (hh : aheadK tb all o L H K) : ∃ d, K d ∧ Ahead P all o L H d := by
 unfold aheadK at hh
 rw [restrK_eq] at hh
 have facts : ∀ (E : Env) (h : Pub) (a : Act) (w : World), (∀ t ∈ looks all o, Den E h (look L t) (a.tmps.getD t Go.undef)) → (∀ i c, lookH H i = some c → ChunkOk E h w i c) → Agree h w → Facts E h a w (restr (looks all o) L) H :=
  fun E h a w h1 h2 h3 => ⟨fun t => by
   rw [look_restr]
   split
   ·rename_i ht; exact h1 t ht
   ·simp [Den], h2, h3⟩
 split at hh
 ·rename_i hg
  have hnd := jci hh
  have hns := jcy hh
  obtain ⟨d, hK, hv⟩ := jeg htb hh
  refine ⟨d, hK, hnd, hns, fun E h a w h1 h2 h3 => ?_⟩
  obtain ⟨v, h4, h5⟩ := hv E h a w (facts E h a w h1 h2 h3) trivial
  exact ⟨v, h5, .inl ⟨by simp [Region.wanted, hg], h4⟩⟩
 ·rename_i j want hg
  obtain ⟨oj, hj, hh⟩ := jdN hh
  obtain ⟨s, hs, hh⟩ := jaL hh
  rw [jbz] at hh
  obtain ⟨c, hh, hc⟩ := jhI hh
  have hnd := jci hh
  have hns := jcy hh
  obtain ⟨d, hK, hv⟩ := jeg htb hh
  refine ⟨_, hK, hnd, hns, fun E h a w h1 h2 h3 => ?_⟩
  have F := facts E h a w h1 h2 h3
  have hw := jfl (a := a) hg hj hs
  have hc' := hc E h _ (F.knows s)
  cases hwt : Region.wanted o (yielded all.toArray a.tmps) with
  | true =>
   have hct := hc'.2 (hw.1 hwt)
   obtain ⟨v, h4, h5⟩ := hv E h a w F hct
   exact ⟨v, by simp only [Den]; exact ⟨fun _ => h5, fun e => by rw [hct] at e; cases e⟩, .inl ⟨rfl, h4⟩⟩
  | false =>
   have hct : c = false := by
    cases hcc : c with
    | false => rfl
    | true => exact absurd (hw.2 (hc'.1 hcc)) (by rw [hwt]; decide)
   exact ⟨Go.undef, by simp only [Den]; exact ⟨fun e => absurd (hct.symm.trans e) (by decide), fun _ => by trivial⟩, .inr ⟨rfl, rfl⟩⟩
theorem mem_tmpsOf {t : Nat} {xs : List Operand} : t ∈ jfn xs ↔ .tmp t ∈ xs := by
 induction xs with
 | nil => simp [jfn]
 | cons x xs ih => cases x <;> simp [jfn, ih]
theorem eval_same {a b : Act} {o : Oper} (h : ∀ t ∈ looks all o, b.tmps.getD t Go.undef = a.tmps.getD t Go.undef) (hs : ∀ cs b, o.op ≠ .select cs b) : execOp b.eval o = execOp a.eval o := by
 refine execOp_congr o hs fun x hx => ?_
 cases x with
 | tmp t =>
  have := h t (List.mem_append_left _ (mem_tmpsOf.2 (by simpa using hx)))
  simpa [Act.eval] using this
 | _ => rfl
theorem jgU {a b : Act} {o : Oper} (h : ∀ t ∈ looks all o, b.tmps.getD t Go.undef = a.tmps.getD t Go.undef) : Region.wanted o (yielded all.toArray b.tmps) = Region.wanted o (yielded all.toArray a.tmps) := by
 unfold Region.wanted
 cases hg : o.guard with
 | none => rfl
 | some g =>
  obtain ⟨j, want⟩ := g
  have : yielded all.toArray b.tmps j = yielded all.toArray a.tmps j := by
   simp only [yielded, ji1]
   cases hj : all[j]? with
   | none => rfl
   | some oj =>
    simp only [Option.bind_some]
    cases hd : oj.dst with
    | none => rfl
    | some d =>
     simp only [Option.bind_some]
     have := h d (List.mem_append_right _ (by simp [hg, hj, hd]))
     simp only [Array.getD_eq_getD_getElem?] at this
     cases hb : b.tmps[d]? <;> cases ha : a.tmps[d]? <;> simp only [hb, ha, Option.getD_some, Option.getD_none] at this ⊢
     ·subst this; rfl
     ·subst this; rfl
     ·subst this; rfl
  simp only [this]
structure Inv (P : Program) (all : List Oper) (n : Nat) (cx : Cx) (listed : Array Bool) (rem pend f : List Nat) (E : Env) (h : Pub) (L : Sl) (H : Hp) (a b : Act) (w : World) : Prop where
 size : listed.size = all.length
 part : ∀ i, i < all.length → (listed.getD i true = false ↔ i ∈ rem ∨ i ∈ f)
 disj : ∀ i ∈ f, i ∉ rem
 sub : ∀ i ∈ f, i ∈ pend
 rlt : ∀ i ∈ rem, i < all.length
 flt : ∀ i ∈ f, i < all.length
 closed : ∀ i o, all[i]? = some o → listed.getD i true = true → ∀ d ∈ jaR o, listed.getD d true = true
 fdeps : ∀ i ∈ f, ∀ o, all[i]? = some o → ∀ d ∈ jaR o, d ∉ rem
 ssa : ∀ i ∈ f, ssaB all (ancs all) i = true
 ahead : ∀ i ∈ f, ∃ o d, all[i]? = some o ∧ o.dst = some d ∧ d < n ∧ Ahead P all o L H (look L d)
 sat : Sat cx E h b w L H
 asize : a.tmps.size = n
 bsize : b.tmps.size = n
 defs : b.defers = a.defers
 same : ∀ t, (∀ i ∈ f, ∀ o, all[i]? = some o → o.dst ≠ some t) → b.tmps.getD t Go.undef = a.tmps.getD t Go.undef
theorem Inv.anc_listed {listed : Array Bool} {rem pend f : List Nat} {E : Env} {h : Pub} {a b : Act} {w : World} (I : Inv P all n cx listed rem pend f E h L H a b w) {j i : Nat} (ha : Anc all j i) :
  (∀ o, all[j]? = some o → ∀ d ∈ jaR o, listed.getD d true = true) → listed.getD i true = true := by
 induction ha with
 | one ho hd => exact fun hl => hl _ ho _ hd
 | step ho hd _ ih => exact fun hl => ih fun o' ho' => I.closed _ _ ho' (hl _ ho _ hd)
theorem Inv.anc_rem {listed : Array Bool} {rem pend f : List Nat} {E : Env} {h : Pub} {a b : Act} {w : World} (I : Inv P all n cx listed rem pend f E h L H a b w) (ht : textB all = true) {j i : Nat} (ha : Anc all j i) :
  (∀ o, all[j]? = some o → ∀ d ∈ jaR o, d ∉ rem) → i ∉ rem := by
 have hdlt : ∀ {k : Nat} {o : Oper}, all[k]? = some o → ∀ d ∈ jaR o, d < all.length := by
  intro k o hk d hd
  simp only [textB, jiI] at ht
  have hm : (o, k) ∈ all.zipIdx := by rw [List.mem_zipIdx_iff_getElem?]; exact hk
  have := ht _ hm
  simp only [jiI] at this
  have h1 := jfL (this d hd)
  have h2 := (jiT.1 hk).1
  omega
 induction ha with
 | one ho hd => exact fun hl => hl _ ho _ hd
 | @step i j d o ho hd _ ih =>
  intro hl
  refine ih fun o' ho' d' hd' hr => ?_
  have hdr := hl _ ho _ hd
  have hdl := hdlt ho d hd
  by_cases hlist : listed.getD d true = true
  ·have h1 := I.closed d o' ho' hlist d' hd'
   have h2 := (I.part d' (hdlt ho' d' hd')).2 (.inl hr)
   rw [h1] at h2; cases h2
  ·have hf : d ∈ f := by
    have := (I.part d hdl).1 (by simpa using hlist)
    rcases this with h1 | h1
    ·exact absurd h1 hdr
    ·exact h1
   exact I.fdeps d hf o' ho' d' hd' hr
theorem ssa_spec {i : Nat} (hs : ssaB all (ancs all) i = true) : ∃ o d, all[i]? = some o ∧ o.dst = some d ∧ d ∉ looks all o ∧ ∀ j oj, all[j]? = some oj → j ≠ i → (d ∈ looks all oj ∨ oj.dst = some d) → Anc all j i := by
 unfold ssaB at hs
 split at hs
 ·cases hs
 ·rename_i o ho
  split at hs
  ·cases hs
  ·rename_i d hd
   simp only [jh9, jiI, Bool.not_eq_true'] at hs
   refine ⟨o, d, ho, hd, fun hm => (by rw [jcl.2 hm] at hs; exact absurd hs.1 (by decide)), fun j oj hj hne hn => ?_⟩
   have hm : (oj, j) ∈ all.zipIdx := by rw [List.mem_zipIdx_iff_getElem?]; exact hj
   have := hs.2 _ hm
   simp only [Bool.or_eq_true, Bool.not_eq_true', jir] at this
   rcases this with (h1 | h1) | h1
   ·exact absurd (jae h1) hne
   ·rcases hn with hn | hn
    ·rw [jcl.2 hn] at h1; cases h1.1
    ·rw [hn] at h1; simp at h1
   ·exact ancs_ok h1
end
end Go.V
end
section
namespace Go.V
open Go Go.RowKit
section
variable {P : Program} {tb : Tb} {inl : Inl} {yl : Yl} {N n : Nat} {cx : Cx} {r : Option Nat} {Q : Exit → Act → World → Prop} {all : List Oper} {L : Sl} {H : Hp}
  {listed : Array Bool} {rem pend f : List Nat} {E : Env} {h : Pub} {a b : Act} {w : World}
theorem jdy (listed : Array Bool) (i j : Nat) (d : Bool) : (listed.setIfInBounds i true).getD j d = if i = j ∧ i < listed.size then true else listed.getD j d := by
 simp only [Array.getD_eq_getD_getElem?, Array.getElem?_setIfInBounds]
 by_cases h : i = j
 ·subst h
  by_cases h2 : i < listed.size <;> simp [h2]
 ·simp [h]
theorem Ahead.congr {o : Oper} {L' : Sl} {D : D} (hA : Ahead P all o L H D) (hl : ∀ t ∈ looks all o, look L' t = look L t) : Ahead P all o L' H D :=
 ⟨hA.1, hA.2.1, fun E h a w h1 h2 h3 => hA.2.2 E h a w (fun t ht => by rw [← hl t ht]; exact h1 t ht) h2 h3⟩
theorem Inv.looks_same (I : Inv P all n cx listed rem pend f E h L H a b w) {j : Nat} {o : Oper} (ho : all[j]? = some o) (hready : ∀ d ∈ jaR o, listed.getD d true = true) :
  ∀ t ∈ looks all o, b.tmps.getD t Go.undef = a.tmps.getD t Go.undef := by
 intro t ht
 refine I.same t fun i hi oi hoi hdi => ?_
 obtain ⟨o', d', ho', hd', hnl, hs⟩ := ssa_spec (I.ssa i hi)
 rw [hoi] at ho'; cases ho'
 rw [hdi] at hd'; cases hd'
 by_cases e : j = i
 ·subst e; rw [ho] at hoi; cases hoi; exact hnl ht
 ·have hl := I.anc_listed (hs j o ho e (.inl ht)) (fun o' ho' => by rw [ho] at ho'; cases ho'; exact hready)
  have := (I.part i (I.flt i hi)).2 (.inr hi)
  rw [hl] at this; cases this
theorem Inv.stepA (I : Inv P all n cx listed rem pend f E h L H a b w) {j : Nat} (hj : j ∈ f) (hready : ∀ o, all[j]? = some o → ∀ d ∈ jaR o, listed.getD d true = true)
    {Kf : Act → World → Prop} (hK : ∀ a' b', Inv P all n cx (listed.setIfInBounds j true) rem pend (f.filter fun i => !Nat.beq i j) E h L H a' b' w → Kf a' w) : wpOpIn (FR r) 0 P all.toArray Q j Kf a w := by
  obtain ⟨o, d, ho, hd, hdn, hA⟩ := I.ahead j hj
  have hls := I.looks_same ho (hready o ho)
  obtain ⟨v, hden, hv⟩ := hA.2.2 E h a w (fun t ht => by rw [← hls t ht]; exact I.sat.knows t) I.sat.facts.chunk I.sat.agree
  have hjlt := I.flt j hj
  have fin : Kf (a.put o.dst v) w := by
    rw [hd]
    refine hK _ (b.put (some d) v) ?_
    refine { size := by simp [I.size], part := fun i hi => ?_, disj := fun i hi => I.disj i (ji4.1 hi).1, sub := fun i hi => I.sub i (ji4.1 hi).1, rlt := I.rlt, flt := fun i hi => I.flt i (ji4.1 hi).1,
             closed := fun i oi hoi hl dd hdd => ?_, fdeps := fun i hi => I.fdeps i (ji4.1 hi).1, ssa := fun i hi => I.ssa i (ji4.1 hi).1, ahead := fun i hi => I.ahead i (ji4.1 hi).1,
             sat := ?_, asize := by rw [jaz]; exact I.asize, bsize := by rw [jaz]; exact I.bsize, defs := I.defs, same := fun t ht => ?_ }
    · rw [jdy, I.size]
      by_cases e : j = i
      · subst e
        simp only [hjlt, and_self, if_true, ji4, Nat.beq_refl]
        constructor
        · intro h; cases h
        · rintro (h1 | h1)
          · exact absurd h1 (I.disj j hj)
          · simp at h1
      · rw [if_neg (fun x => e x.1), I.part i hi, ji4]
        have : Nat.beq i j = false := by
          cases hb : Nat.beq i j with
          | false => rfl
          | true => exact absurd (jae hb).symm e
        simp [this]
    · rw [jdy] at hl ⊢
      by_cases e : j = i
      · subst e
        have := hready oi hoi dd hdd
        rw [this]; simp
      · rw [if_neg (fun x => e x.1)] at hl
        have := I.closed i oi hoi hl dd hdd
        rw [this]; simp
    · have S' := I.sat.put (d := d) (r := look L d) (v := v) (by rw [I.bsize]; exact hdn) hden
      refine ⟨fun t => ?_, S'.mem, S'.agree, S'.since, S'.low, S'.side⟩
      have := S'.knows t
      rw [jaI] at this
      by_cases e : d = t
      · subst e; rw [if_pos rfl] at this; exact this
      · rw [if_neg e] at this; exact this
    · rw [jcR, jcR, I.asize, I.bsize]
      by_cases e : d = t ∧ d < n
      · rw [if_pos e, if_pos e]
      · rw [if_neg e, if_neg e]
        refine I.same t fun i hi oi hoi hdi => ?_
        by_cases ej : i = j
        · subst ej; rw [ho] at hoi; cases hoi; rw [hd] at hdi; cases hdi; exact e ⟨rfl, hdn⟩
        · refine ht i (ji4.2 ⟨hi, ?_⟩) oi hoi hdi
          have : Nat.beq i j = false := by
            cases hb : Nat.beq i j with
            | false => rfl
            | true => exact absurd (jae hb) ej
          simp [this]
  unfold wpOpIn
  simp only [ji1, ho]
  rcases hv with ⟨hw, hrun⟩ | ⟨hw, rfl⟩
  · rw [if_pos hw]
    refine jbk r hA.1 ?_
    unfold Oper.wp
    rw [hrun]
    simp only [Oper.upon]
    exact fin
  · rw [if_neg (by rw [hw]; decide)]
    exact ⟨fun _ _ => trivial, fin⟩
theorem Inv.take (I : Inv P all n cx listed rem pend f E h L H a b w) (ht : textB all = true) {i : Nat} (hi : i ∈ rem) (hs : ssaB all (ancs all) i = true) {o : Oper} {d : Nat} (ho : all[i]? = some o) (hd : o.dst = some d) (hdn : d < n)
  (hdeps : ∀ x ∈ jaR o, x ∉ rem) {D : D} (hA : Ahead P all o L H D) :
  ∃ b', Inv P all n cx listed (rem.filter fun j => !Nat.beq j i) (i :: pend) (i :: f) E h ((d, D) :: L) H a b' w := by
 obtain ⟨v, hden, _⟩ := hA.2.2 E h b w (fun t _ => I.sat.knows t) I.sat.facts.chunk I.sat.agree
 obtain ⟨o', d', ho', hd', hnl, hss⟩ := ssa_spec hs
 rw [ho] at ho'; cases ho'
 rw [hd] at hd'; cases hd'
 have nb : ∀ j, j ≠ i → Nat.beq j i = false := fun j e => by
  cases hb : Nat.beq j i with
  | false => rfl
  | true => exact absurd (jae hb) e
 have hif : i ∉ f := fun hf => I.disj i hf hi
 refine ⟨b.put (some d) v, { size := I.size, part := fun k hk => ?_, disj := fun k hk hr => ?_, sub := fun k hk => ?_, rlt := fun k hk => I.rlt k (ji4.1 hk).1, flt := fun k hk => ?_, closed := I.closed, fdeps := fun k hk ok hok x hx hr => ?_, ssa := fun k hk => ?_, ahead := fun k hk => ?_, sat := I.sat.put (by rw [I.bsize]; exact hdn) hden, asize := I.asize, bsize := by rw [jaz]; exact I.bsize, defs := I.defs, same := fun t hnt => ?_ }⟩
 ·rw [I.part k hk, ji4, jiL]
  by_cases e : k = i
  ·subst e; simp [hi]
  ·simp [nb k e, e]
 ·rcases jiL.1 hk with rfl | hk
  ·have := (ji4.1 hr).2; rw [Nat.beq_refl] at this; cases this
  ·exact I.disj k hk (ji4.1 hr).1
 ·rcases jiL.1 hk with rfl | hk
  ·simp
  ·exact List.mem_cons_of_mem _ (I.sub k hk)
 ·rcases jiL.1 hk with rfl | hk
  ·exact I.rlt _ hi
  ·exact I.flt k hk
 ·rcases jiL.1 hk with rfl | hk
  ·rw [ho] at hok; cases hok; exact hdeps x hx (ji4.1 hr).1
  ·exact I.fdeps k hk ok hok x hx (ji4.1 hr).1
 ·rcases jiL.1 hk with rfl | hk
  ·exact hs
  ·exact I.ssa k hk
 ·rcases jiL.1 hk with rfl | hk
  ·refine ⟨o, d, ho, hd, hdn, ?_⟩
   rw [jaI, if_pos rfl]
   exact hA.congr fun t htt => by rw [jaI, if_neg (fun e => hnl (by rw [e]; exact htt))]
  ·obtain ⟨oq, dq, hoq, hdq, hdqn, hAq⟩ := I.ahead k hk
   have hki : k ≠ i := fun e => hif (e ▸ hk)
   have far : ¬ (d ∈ looks all oq ∨ oq.dst = some d) := fun hn => by
    exact I.anc_rem ht (hss k oq hoq hki hn) (fun o' ho' x hx => by exact I.fdeps k hk o' ho' x hx) hi
   refine ⟨oq, dq, hoq, hdq, hdqn, ?_⟩
   rw [jaI, if_neg (fun e => far (.inr (by rw [e]; exact hdq)))]
   exact hAq.congr fun t htt => by rw [jaI, if_neg (fun e => far (.inl (by rw [e]; exact htt)))]
 ·have hdt : d ≠ t := fun e => hnt i (by simp) o ho (by rw [hd, e])
  rw [jcR, if_neg (fun x => hdt x.1)]
  exact I.same t fun k hk => hnt k (List.mem_cons_of_mem _ hk)
end
end Go.V
end
section
namespace Go.V
open Go Go.RowKit
theorem upon_move {F : Fence} {n : Nat} {P : Program} {o : Oper} {a b : Act} {next1 next2 : Act → World → Prop} {Q1 Q2 : Exit → Act → World → Prop} {res : Result Next} (h : o.uponIn F n P b next1 Q1 res)
  (h1 : ∀ v w, next1 (b.put o.dst v) w → next2 (a.put o.dst v) w) (h2 : ∀ d v w, next1 ({ b with defers := d :: b.defers }.put o.dst v) w → next2 ({ a with defers := d :: a.defers }.put o.dst v) w) (hq : ∀ e b w, Q1 e b w → e = .normal ∨ ∃ c, e = .panic c) (hp : ∀ c w, Q1 (.panic c) b w → Q2 (.panic c) a w) : o.uponIn F n P a next2 Q2 res := by
 have ho : LetsOut Q1 → False := fun ⟨a, w, hx⟩ => by rcases hq _ _ _ hx with e | ⟨c, e⟩ <;> cases e
 cases res with
 | ok y w' =>
  cases y <;> simp only [Oper.uponIn] at h ⊢
  case value v => exact h1 _ _ h
  case skip => exact h1 _ _ h
  case defer d => exact h2 _ _ _ h
  case enter f args =>
   exact ⟨h.1, CallsIn.mono h.2 fun e w'' he => by cases e <;> first | exact h1 _ _ he | exact hp _ _ he | exact (ho he).elim⟩
  case row row args => exact ⟨h.1, RowsIn.mono h.2 fun v w'' he => h1 _ _ he⟩
  case round l f tmps assign body =>
   exact ⟨h.1, RoundIn.mono h.2 fun e w'' he => by cases e <;> first | exact h1 _ _ he | exact hp _ _ he | exact (ho he).elim⟩
 | halt y w' =>
  cases y <;> simp only [Oper.uponIn] at h ⊢
  all_goals first | exact hp _ _ h | exact h
section
variable {P : Program} {tb : Tb} {inl : Inl} {yl : Yl} {N n : Nat} {cx : Cx} {r : Option Nat} {Q : Exit → Act → World → Prop} {all : List Oper} {L : Sl} {H : Hp}
  {listed : Array Bool} {rem pend f : List Nat} {E : Env} {h : Pub} {a b : Act} {w : World}
theorem opK_select {off : Nat} {o : Oper} {K : K2} (h : opK P tb N off o L H K) : ∀ cs b, o.op ≠ .select cs b := by
 intro c b e
 unfold opK at h
 rw [e] at h
 obtain ⟨d, _, h⟩ := jaL h
 exact h.elim
theorem ops2_plain {off : Nat} {o : Oper} {KP : KPan} {K : K2} (hh : ops2K P tb inl yl N off all KP [o] L H K) : (∀ c, o.op ≠ .defer c) ∧ (∀ cs b, o.op ≠ .select cs b) := by
 simp only [ops2K] at hh
 have ofCall : ∀ {c : Call}, o.op = .call c → (∀ c, o.op ≠ .defer c) ∧ (∀ cs b, o.op ≠ .select cs b) := fun hc => ⟨fun c e => (by rw [hc] at e; cases e), fun cs b e => (by rw [hc] at e; cases e)⟩
 split at hh
 ·unfold op2K at hh
  split at hh
  ·rename_i c ho; exact ofCall ho
  ·rename_i x ho; exact ⟨fun c e => (by rw [ho] at e; cases e), fun cs b e => (by rw [ho] at e; cases e)⟩
  ·exact ⟨jgC hh, opK_select hh⟩
 ·obtain ⟨oj, hj, hh⟩ := jdN hh
  obtain ⟨s, hs, hh⟩ := jaL hh
  rw [jbz] at hh
  obtain ⟨c, hh, hc⟩ := jhI hh
  split at hh
  ·rename_i hv; exact jhs hv
  split at hh
  ·rename_i c ho; exact ofCall ho
  ·obtain ⟨d, _, hh⟩ := jaL hh
   exact ⟨jci hh, jcy hh⟩
theorem jdJ (htb : TbOk P tb) {K : Prop} : ∀ {qs : List Nat}, jbf tb all qs L H K → K ∧ ∀ q ∈ qs, ∃ o d, all[q]? = some o ∧ o.dst = some d ∧ Ahead P all o L H (look L d)
 | [], hh => ⟨hh, fun q hq => by cases hq⟩
 | q :: qs, hh => by
  obtain ⟨h1, h2⟩ := hh
  obtain ⟨hK, hr⟩ := jdJ htb h2
  refine ⟨hK, fun q' hq' => ?_⟩
  rcases jiL.1 hq' with rfl | hq'
  ·obtain ⟨o, ho, h1⟩ := jdN h1
   obtain ⟨d, hd, h1⟩ := jaL h1
   rw [jbz] at h1
   obtain ⟨D, hs, hA⟩ := ahead_el htb h1
   have := hs.eq; subst this
   exact ⟨o, d, ho, hd, hA⟩
  ·exact hr q' hq'
theorem Inv.stepB (htb : TbOk P tb) (hin : InlOk P inl) (hyl : YlOk P cx yl) (hN : N ≤ n) (I : Inv P all n cx listed rem pend f E h L H a b w) {j : Nat} (hj : j ∈ rem) {o : Oper} (ho : all[j]? = some o) (hready : ∀ d ∈ jaR o, listed.getD d true = true)
  {pend' : List Nat} (hpend : ∀ q ∈ pend, q ∈ pend' ∨ Anc all j q) {K : Sl → Hp → Prop} {KP : KPan} (hP : ∀ c L' H' E' h' a' w', KP c L' H' → a'.tmps.size = n → Sat cx E' h' a' w' L' H' → Q (.panic c) a' w') (hh : ops2K P tb inl yl N cx.off all (fun c _ H => KP c [] H) [o] L H fun L' H' => jbf tb all pend' L' H' (K L' H')) {Kf : Act → World → Prop}
  (hK : ∀ a' b' w' E' h' L' H', K L' H' → Inv P all n cx (listed.setIfInBounds j true) (rem.filter fun i => !Nat.beq i j) pend' f E' h' L' H' a' b' w' → Kf a' w') : wpOpIn (FR r) 0 P all.toArray Q j Kf a w := by
 have hls := I.looks_same ho hready
 obtain ⟨hnd, hns⟩ := ops2_plain hh
 have hjf : j ∉ f := fun hf => I.disj j hf hj
 have hjlt := I.rlt j hj
 have hunl : ∀ q ∈ f, listed.getD q true = false := fun q hq => (I.part q (I.flt q hq)).2 (.inr hq)
 have hrdy : ∀ o', all[j]? = some o' → ∀ d ∈ jaR o', listed.getD d true = true := fun o' ho' => by rw [ho] at ho'; cases ho'; exact hready
 have nb : ∀ i, i ≠ j → Nat.beq i j = false := fun i e => by
  cases hb : Nat.beq i j with
  | false => rfl
  | true => exact absurd (jae hb) e
 let Q1 : Exit → Act → World → Prop := fun e b' w' => (e = .normal ∧ ∃ L' H' E' h', jbf tb all pend' L' H' (K L' H') ∧ b'.tmps.size = n ∧ Sat cx E' h' b' w' L' H') ∨ ∃ c, e = .panic c ∧ ∃ L' H' E' h', KP c [] H' ∧ Sat cx E' h' b' w' L' H'
 have hw := jaO (Q := Q1) (r := r) htb hin hyl hh hN (fun c L' H' E' h' b' w' hK hs S => .inr ⟨c, rfl, L', H', E', h', hK, S⟩) (fun L' H' E' h' b' w' hK hs S => .inl ⟨rfl, L', H', E', h', hK, hs, S⟩) E h b w I.bsize I.sat
 have fin : ∀ (a0 b0 : Act) v w', a0.tmps = a.tmps → b0.tmps = b.tmps → b0.defers = a0.defers → Q1 .normal (b0.put o.dst v) w' → Kf (a0.put o.dst v) w' := by
  rintro a0 b0 v w' e1 e2 e3 (⟨_, L', H', E', h', hre, hbs, S⟩ | ⟨c, e, _⟩)
  case inr => cases e
  obtain ⟨hKK, hre⟩ := jdJ htb hre
  have hfp : ∀ q ∈ f, q ∈ pend' := fun q hq => by
   rcases hpend q (I.sub q hq) with h1 | h1
   ·exact h1
   ·have := I.anc_listed h1 hrdy
    rw [hunl q hq] at this; cases this
  refine hK _ (b0.put o.dst v) w' E' h' L' H' hKK
   { size := by simp [I.size], part := fun i hi => ?_, disj := fun i hi hr => I.disj i hi (ji4.1 hr).1, sub := hfp, rlt := fun i hi => I.rlt i (ji4.1 hi).1, flt := I.flt, closed := fun i oi hoi hl dd hdd => ?_, fdeps := fun i hi oi hoi x hx hr => I.fdeps i hi oi hoi x hx (ji4.1 hr).1, ssa := I.ssa, ahead := fun i hi => ?_, sat := S, asize := by rw [jaz, e1]; exact I.asize, bsize := hbs, defs := ?_, same := fun t ht => ?_ }
  ·rw [jdy, I.size, ji4]
   by_cases e : j = i
   ·subst e
    simp only [hjlt, and_self, if_true, Nat.beq_refl, Bool.not_true]
    constructor
    ·intro h; cases h
    ·rintro (h1 | h1)
     ·cases h1.2
     ·exact absurd h1 hjf
   ·rw [if_neg (fun x => e x.1), I.part i hi]
    simp [nb i (fun x => e x.symm)]
  ·rw [jdy] at hl ⊢
   by_cases e : j = i
   ·subst e
    rw [ho] at hoi; cases hoi
    rw [hready dd hdd]; simp
   ·rw [if_neg (fun x => e x.1)] at hl
    rw [I.closed i oi hoi hl dd hdd]; simp
  ·obtain ⟨oq, dq, h1, h2, h3, _⟩ := I.ahead i hi
   obtain ⟨o2, d2, g1, g2, g3⟩ := hre i (hfp i hi)
   rw [h1] at g1; cases g1
   rw [h2] at g2; cases g2
   exact ⟨_, _, h1, h2, h3, g3⟩
  ·cases o.dst <;> exact e3
  ·cases hd : o.dst with
   | none =>
    show b0.tmps.getD t Go.undef = a0.tmps.getD t Go.undef
    rw [e1, e2]; exact I.same t ht
   | some d =>
    rw [jcR, jcR, e1, e2, I.asize, I.bsize]
    by_cases e : d = t ∧ d < n
    ·rw [if_pos e, if_pos e]
    ·rw [if_neg e, if_neg e]; exact I.same t ht
 unfold wpOpIn
 simp only [ji1, ho]
 unfold wpListIn at hw
 rw [jgU hls] at hw
 split
 ·rename_i hwt
  rw [if_pos hwt] at hw
  refine ⟨fun _ _ => trivial, ?_⟩
  have hw2 := hw.2
  have hsem : ∀ ρ : Operand → Value, o.semAt (FR r).round ρ = execOp ρ o := fun ρ => by
   cases r with
   | none => exact Oper.semAt_none ..
   | some l => exact Oper.semAt_some _ _ _ hnd
  rw [hsem, eval_same hls hns] at hw2
  rw [hsem]
  generalize hres : (execOp a.eval o).run P w = res at hw2
  exact upon_move hw2 (fun v w' hx => fin a b v w' rfl rfl I.defs hx) (fun d v w' hx => fin { a with defers := d :: a.defers } { b with defers := d :: b.defers } v w' rfl rfl (by rw [I.defs]) hx) (fun e b w hx => hx.imp And.left fun ⟨c, e, _⟩ => ⟨c, e⟩) (fun c w' hx => by
   rcases hx with ⟨e, _⟩ | ⟨c', e, L', H', E', h', hk, S⟩
   ·cases e
   ·cases e
    exact hP _ [] H' E' h' a w' hk I.asize ⟨fun t => by simp [look, Den], S.mem, S.agree, S.since, S.low, by rw [← I.defs]; exact S.side⟩)
 ·rename_i hwt
  rw [if_neg hwt] at hw
  exact ⟨fun _ _ => trivial, fin a b _ _ rfl rfl I.defs hw.2⟩
end
end Go.V
end
section
namespace Go.V
open Go Go.RowKit
section
variable {P : Program} {tb : Tb} {inl : Inl} {yl : Yl} {N n : Nat} {cx : Cx} {r : Option Nat} {Q : Exit → Act → World → Prop} {all : List Oper} {L : Sl} {H : Hp}
  {listed : Array Bool} {rem pend f : List Nat} {E : Env} {h : Pub} {a b : Act} {w : World}
theorem mem_deps {o : Oper} {d : Nat} : d ∈ jaR o ↔ ∃ e ∈ o.after, Region.binds .any e = true ∧ e.on = d := by
 simp only [jaR, List.mem_filterMap, Array.mem_toList_iff]
 constructor
 ·rintro ⟨e, he, hx⟩
  cases hb : Region.binds .any e with
  | true => rw [hb] at hx; exact ⟨e, he, hb, by simpa using hx⟩
  | false => rw [hb] at hx; simp at hx
 ·rintro ⟨e, he, hb, rfl⟩
  exact ⟨e, he, by rw [hb]⟩
theorem jgi (ht : textB all = true) {k : Nat} {o : Oper} (hk : all[k]? = some o) {d : Nat} (hd : d ∈ jaR o) : d < k := by
 simp only [textB, jiI] at ht
 have hm : (o, k) ∈ all.zipIdx := by rw [List.mem_zipIdx_iff_getElem?]; exact hk
 have := ht _ hm
 simp only [jiI] at this
 exact jfL (this d hd)
theorem jgK {listed : Array Bool} {d : Nat} (hd : d < listed.size) (x y : Bool) : listed.getD d x = listed.getD d y := by
 simp [Array.getD_eq_getD_getElem?, Array.getElem?_eq_getElem hd]
theorem jb4 (ht : textB all = true) (hs : listed.size = all.length) {j : Nat} : j ∈ Region.ready .any all.toArray listed ↔ j < all.length ∧ listed.getD j true = false ∧ ∀ o, all[j]? = some o → ∀ d ∈ jaR o, listed.getD d true = true := by
 rw [mem_ready]
 constructor
 ·rintro ⟨h1, o, ho, h2⟩
  rw [ji1] at ho
  have hj := (jiT.1 ho).1
  refine ⟨hj, h1, fun o' ho' d hd => ?_⟩
  rw [ho] at ho'; cases ho'
  have hlt := jgi ht ho hd
  obtain ⟨e, he, hb, rfl⟩ := mem_deps.1 hd
  rw [jgK (by rw [hs]; omega) true false]
  exact h2 e he hb
 ·rintro ⟨hj, h1, h2⟩
  refine ⟨h1, all[j], by rw [ji1, jiM hj], fun e he hb => ?_⟩
  have hd : e.on ∈ jaR all[j] := mem_deps.2 ⟨e, he, hb, rfl⟩
  have hlt := jgi ht (jiM hj) hd
  rw [jgK (by rw [hs]; omega) false true]
  exact h2 _ (jiM hj) _ hd
theorem jd1 (ht : textB all = true) (hs : listed.size = all.length) : ∀ (i : Nat), i < all.length → listed.getD i true = false → Region.ready .any all.toArray listed ≠ [] := by
 intro i
 induction i using Nat.strongRecOn with
 | _ i ih =>
  intro hi hl
  by_cases hd : ∀ o, all[i]? = some o → ∀ d ∈ jaR o, listed.getD d true = true
  ·have := (jb4 ht hs).2 ⟨hi, hl, hd⟩
   exact fun e => by rw [e] at this; cases this
  ·simp only [Classical.not_forall] at hd
   obtain ⟨o, ho, d, hd, hx⟩ := hd
   have hlt := jgi ht ho hd
   exact ih d hlt (by omega) (by simpa using hx)
theorem brs_el {as : List Nat} {ns : List Nd} {KP : KPan} {gt : Nat → Sl → Hp → Prop} {K : K2} {off : Nat} {i : Nat} : ∀ {bs : Brs}, brsB all as ns rem pend bs = true → je3 P tb inl yl N off all KP gt bs L H K → jfK i bs = true →
  ∃ pend' p, (∀ q ∈ pend, q ∈ pend' ∨ (as.getD i 0).testBit q = true) ∧ planB all as ns (rem.filter fun k => !Nat.beq k i) pend' p = true ∧
   nthO all i fun o => ops2K P tb inl yl N off all (fun c _ H => KP c [] H) [o] L H fun L' H' => jbf tb all pend' L' H' (drawK P tb inl yl N off all KP gt p L' H' K)
 | .nil, _, _, hb => by simp [jfK] at hb
 | .cons j pend' p bs, h1, h2, hb => by
  simp only [brsB, jh9, jiI, Bool.or_eq_true] at h1
  simp only [je3] at h2
  simp only [jfK, Bool.or_eq_true] at hb
  by_cases e : i = j
  ·subst e
   exact ⟨pend', p, fun q hq => (h1.1.1.2 q hq).imp (fun x => jcl.1 x) id, h1.1.2, h2.1⟩
  ·exact brs_el h1.2 h2.2 (hb.resolve_left fun x => e (jae x))
theorem jeY {l : List Nat} {i : Nat} (hi : i ∈ l) : (l.filter fun k => !Nat.beq k i).length < l.length := by
 rw [List.length_filter_lt_length_iff_exists]
 exact ⟨i, hi, by simp [Nat.beq_refl]⟩
theorem Inv.done (I : Inv P all n cx listed [] pend [] E h L H a b w) : Sat cx E h a w L H := by
 have S := I.sat
 refine ⟨fun t => ?_, S.mem, S.agree, S.since, S.low, by rw [← I.defs]; exact S.side⟩
 rw [← I.same t (fun i hi => by cases hi)]
 exact S.knows t
structure GtOk (P : Program) (tb : Tb) (inl : Inl) (yl : Yl) (N : Nat) (cx : Cx) (all : List Oper) (KP : KPan) (gt : Nat → Sl → Hp → Prop) (ns : List Nd) (K : K2) : Prop where
 out : ∀ k L H, gt k L H → ∃ nd Lk Hk, ns[k]? = some nd ∧ (∀ E h a w, Sat cx E h a w L H → ∃ E' h', Sat cx E' h' a w Lk Hk) ∧
  jbf tb all nd.pend Lk Hk (drawK P tb inl yl N cx.off all KP gt nd.plan Lk Hk K)
theorem Inv.move (I : Inv P all n cx listed rem pend f E h L H a b w) {E' : Env} {h' : Pub} {L' : Sl} {H' : Hp} {pend' : List Nat} (S : Sat cx E' h' b w L' H') (hp : ∀ q ∈ pend, q ∈ pend')
    (hre : ∀ q ∈ pend', ∃ o d, all[q]? = some o ∧ o.dst = some d ∧ Ahead P all o L' H' (look L' d)) : Inv P all n cx listed rem pend' f E' h' L' H' a b w :=
  { size := I.size, part := I.part, disj := I.disj, sub := fun i hi => hp i (I.sub i hi), rlt := I.rlt, flt := I.flt, closed := I.closed, fdeps := I.fdeps, ssa := I.ssa,
    ahead := fun i hi => by
      obtain ⟨oq, dq, h1, h2, h3, _⟩ := I.ahead i hi
      obtain ⟨o2, d2, g1, g2, g3⟩ := hre i (hp i (I.sub i hi))
      rw [h1] at g1; cases g1
      rw [h2] at g2; cases g2
      exact ⟨_, _, h1, h2, h3, g3⟩
    sat := S, asize := I.asize, bsize := I.bsize, defs := I.defs, same := I.same }
theorem draw_all (htb : TbOk P tb) (hin : InlOk P inl) (hyl : YlOk P cx yl) (hN : N ≤ n) (ht : textB all = true) {KP : KPan} {gt : Nat → Sl → Hp → Prop} {ns : List Nd} (hns : ns.all (fun nd => !nd.plan.isGo && planB all (ancs all) ns nd.rem nd.pend nd.plan) = true)
  (hP : ∀ c L' H' E' h' a' w', KP c L' H' → a'.tmps.size = n → Sat cx E' h' a' w' L' H' → Q (.panic c) a' w') {K : K2} (hgt : GtOk P tb inl yl N cx all KP gt ns K) (hQ : ∀ L' H' E' h' a' w', K L' H' → a'.tmps.size = n → Sat cx E' h' a' w' L' H' → Q .normal a' w') :
  ∀ (fuel m : Nat) (plan : Plan) (rem pend f : List Nat) (L : Sl) (H : Hp) (listed : Array Bool) (a b : Act) (w : World) (E : Env) (h : Pub), rem.length = m → planB all (ancs all) ns rem pend plan = true →
   drawK P tb inl yl N cx.off all KP gt plan L H K → Inv P all n cx listed rem pend f E h L H a b w → rem.length + f.length ≤ fuel → wpAnyIn (FR r) 0 P .any all.toArray Q fuel listed a w := by
 -- a place
 have place : ∀ (k : Nat) (rem pend f : List Nat) (L : Sl) (H : Hp) (listed : Array Bool) (a b : Act) (w : World) (E : Env) (h : Pub), planB all (ancs all) ns rem pend (.goto k) = true → drawK P tb inl yl N cx.off all KP gt (.goto k) L H K →
   Inv P all n cx listed rem pend f E h L H a b w → ∃ plan pend' L' H' E' h', plan.isGo = false ∧ planB all (ancs all) ns rem pend' plan = true ∧ drawK P tb inl yl N cx.off all KP gt plan L' H' K ∧ Inv P all n cx listed rem pend' f E' h' L' H' a b w := by
  intro k rem pend f L H listed a b w E h hp hd I
  simp only [drawK] at hd
  obtain ⟨nd, Lk, Hk, hnd, hsat, hre⟩ := hgt.out k L H hd
  obtain ⟨E', h', S⟩ := hsat E h b w I.sat
  obtain ⟨hK, hre⟩ := jdJ htb hre
  simp only [planB, hnd, jh9, jiI] at hp
  have hrem := eqNs_eq hp.1
  have hmem : nd ∈ ns := jiO hnd
  have := jiI.1 hns nd hmem
  simp only [jh9, Bool.not_eq_true'] at this
  exact ⟨nd.plan, nd.pend, Lk, Hk, E', h', this.1, by rw [hrem]; exact this.2, hK, I.move S (fun q hq => jcl.1 (hp.2 q hq)) hre⟩
 -- the end
 have fin : ∀ (plan : Plan) (rem pend f : List Nat) (L : Sl) (H : Hp) (listed : Array Bool) (a b : Act) (w : World) (E : Env) (h : Pub), planB all (ancs all) ns rem pend plan = true → drawK P tb inl yl N cx.off all KP gt plan L H K →
   Inv P all n cx listed rem pend f E h L H a b w → Region.ready .any all.toArray listed = [] → Q .normal a w := by
  intro plan rem pend f L H listed a b w E h hp hd I hr
  have hrem : rem = [] := by
   cases rem with
   | nil => rfl
   | cons i rem => exact absurd hr (jd1 ht I.size i (I.rlt i (by simp)) ((I.part i (I.rlt i (by simp))).2 (.inl (by simp))))
  have hf : f = [] := by
   cases f with
   | nil => rfl
   | cons i f => exact absurd hr (jd1 ht I.size i (I.flt i (by simp)) ((I.part i (I.flt i (by simp))).2 (.inr (by simp))))
  subst hrem; subst hf
  have core : ∀ (plan : Plan) (pend : List Nat) (L : Sl) (H : Hp) (E : Env) (h : Pub), plan.isGo = false → planB all (ancs all) ns [] pend plan = true → drawK P tb inl yl N cx.off all KP gt plan L H K →
    Inv P all n cx listed [] pend [] E h L H a b w → Q .normal a w := by
   intro plan pend L H E h hg hp hd I
   cases plan with
   | done => exact hQ _ _ _ _ _ _ hd I.asize I.done
   | take i p => simp [planB, memB] at hp
   | ev bs => simp [planB] at hp
   | goto k => cases hg
  cases hg : plan.isGo with
  | false => exact core plan _ _ _ _ _ hg hp hd I
  | true =>
   cases plan with
   | goto k =>
    obtain ⟨p', pend', L', H', E', h', h1, h2, h3, h4⟩ := place k _ _ _ _ _ _ _ _ _ _ _ hp hd I
    exact core p' _ _ _ _ _ h1 h2 h3 h4
   | _ => cases hg
 intro fuel
 induction fuel with
 | zero =>
  intro m plan rem pend f L H listed a b w E h hm hp hd I hfuel
  have hr : Region.ready .any all.toArray listed = [] := by
   cases hx : Region.ready .any all.toArray listed with
   | nil => rfl
   | cons i l =>
    have hi : i ∈ Region.ready .any all.toArray listed := by rw [hx]; simp
    obtain ⟨h1, h2, _⟩ := (jb4 ht I.size).1 hi
    rcases (I.part i h1).1 h2 with h3 | h3
    ·have := List.length_pos_of_mem h3; omega
    ·have := List.length_pos_of_mem h3; omega
  exact ⟨hr, fin _ _ _ _ _ _ _ _ _ _ _ _ hp hd I hr⟩
 | succ fuel ih =>
  intro m
  induction m using Nat.strongRecOn with
  | _ m ihm =>
   have core : ∀ (plan : Plan) (rem pend f : List Nat) (L : Sl) (H : Hp) (listed : Array Bool) (a b : Act) (w : World) (E : Env) (h : Pub), plan.isGo = false → rem.length = m → planB all (ancs all) ns rem pend plan = true →
     drawK P tb inl yl N cx.off all KP gt plan L H K → Inv P all n cx listed rem pend f E h L H a b w → rem.length + f.length ≤ fuel + 1 → wpAnyIn (FR r) 0 P .any all.toArray Q (fuel + 1) listed a w := by
    intro plan rem pend f L H listed a b w E h hg hm hp hd I hfuel
    have stepF : ∀ i ∈ Region.ready .any all.toArray listed, i ∈ f → wpOpIn (FR r) 0 P all.toArray Q i (wpAnyIn (FR r) 0 P .any all.toArray Q fuel (listed.setIfInBounds i true)) a w := fun i hi hf => by
     obtain ⟨h1, h2, h3⟩ := (jb4 ht I.size).1 hi
     have hlt := jeY hf
     exact I.stepA hf h3 fun a' b' I' => ih rem.length plan rem pend _ L H _ a' b' w E h rfl hp hd I' (by omega)
    cases plan with
    | goto k => cases hg
    | done =>
     refine ⟨fin _ _ _ _ _ _ _ _ _ _ _ _ hp hd I, fun i hi => ?_⟩
     obtain ⟨h1, h2, h3⟩ := (jb4 ht I.size).1 hi
     rcases (I.part i h1).1 h2 with h4 | h4
     ·simp only [planB, List.isEmpty_iff] at hp
      rw [hp] at h4; cases h4
     ·exact stepF i hi h4
    | take i p =>
     simp only [planB, jh9] at hp
     obtain ⟨⟨⟨hp1, hp2⟩, hp3⟩, hp4⟩ := hp
     have hir := jcl.1 hp1
     simp only [drawK] at hd
     obtain ⟨o, ho, hd⟩ := jdN hd
     obtain ⟨d, hdst, hd⟩ := jaL hd
     obtain ⟨D, hd, hA⟩ := ahead_el htb hd
     obtain ⟨hlt, hd⟩ := jcX hd
     rw [ho] at hp3
     simp only [jiI, Bool.not_eq_true'] at hp3
     obtain ⟨b', I'⟩ := I.take ht hir hp2 ho hdst (by omega) (fun x hx hr => by have := hp3 x hx; rw [jcl.2 hr] at this; cases this) hA
     have hl := jeY hir
     exact ihm _ (by rw [← hm]; exact hl) p _ _ _ _ _ _ a b' w E h rfl hp4 hd I' (by simp only [jiY]; omega)
    | ev bs =>
     refine ⟨fin _ _ _ _ _ _ _ _ _ _ _ _ hp hd I, fun i hi => ?_⟩
     obtain ⟨h1, h2, h3⟩ := (jb4 ht I.size).1 hi
     rcases (I.part i h1).1 h2 with h4 | h4
     ·have hp' := hp
      simp only [planB, jh9, jiI] at hp'
      obtain ⟨⟨_, hp2⟩, hp3⟩ := hp'
      have ho := jiM h1
      have hb : jfK i bs = true := by
       have := hp2 i h4
       rw [Bool.or_eq_true] at this
       refine this.resolve_right fun hx => ?_
       rw [ho] at hx
       simp only [List.any_eq_true] at hx
       obtain ⟨d, hd1, hd2⟩ := hx
       have hdl := jgi ht ho hd1
       have e1 := h3 _ ho d hd1
       have e2 := (I.part d (by omega)).2 (.inl (jcl.1 hd2))
       rw [e1] at e2; cases e2
      simp only [drawK] at hd
      obtain ⟨pend', p, q1, q2, q3⟩ := brs_el hp3 hd hb
      obtain ⟨o, ho', q3⟩ := jdN q3
      have hl := jeY h4
      exact I.stepB htb hin hyl hN h4 ho' (h3 o ho') (fun q hq => (q1 q hq).imp id fun x => ancs_ok x) hP q3 fun a' b' w' E' h' L' H' hK I' =>
       ih _ p _ _ _ L' H' _ a' b' w' E' h' rfl q2 hK I' (by omega)
     ·exact stepF i hi h4
   intro plan rem pend f L H listed a b w E h hm hp hd I hfuel
   cases hg : plan.isGo with
   | false => exact core plan _ _ _ _ _ _ _ _ _ _ _ hg hm hp hd I hfuel
   | true =>
    cases plan with
    | goto k =>
     obtain ⟨p', pend', L', H', E', h', h1, h2, h3, h4⟩ := place k _ _ _ _ _ _ _ _ _ _ _ hp hd I
     exact core p' _ _ _ _ _ _ _ _ _ _ _ h1 hm h2 h3 h4 hfuel
    | _ => cases hg
theorem je2 (htb : TbOk P tb) (hin : InlOk P inl) (hyl : YlOk P cx yl) (hN : N ≤ n) {id : Nat} {ops : Array Oper} {plan : Plan} {ns : List Nd} (hp : PlanOk P ops.toList ns plan) {KP : KPan} {gt : Nat → Sl → Hp → Prop} {K : K2} (hd : drawK P tb inl yl N cx.off ops.toList KP gt plan L H K) (hgt : GtOk P tb inl yl N cx ops.toList KP gt ns K)
    (hP : ∀ c L' H' E' h' a' w', KP c L' H' → a'.tmps.size = n → Sat cx E' h' a' w' L' H' → Q (.panic c) a' w') (hQ : ∀ L' H' E' h' a' w', K L' H' → a'.tmps.size = n → Sat cx E' h' a' w' L' H' → Q .normal a' w') (hn : a.tmps.size = n) (S : Sat cx E h a w L H) : (Code.region id ops true).wpIn (FR r) 0 P Q a w := by
  refine wpIn_region_any hp.mixed ?_
  have S' : Sat cx E h a { w with drawn := w.drawn + 1 } L H := S.world ⟨rfl, rfl, rfl, jii _, fun _ _ => rfl⟩
  have key := draw_all (r := r) (Q := Q) htb hin hyl hN hp.text hp.nds hP hgt hQ ops.size ops.size plan (List.range ops.toList.length) [] [] L H (Array.replicate ops.size false) a a { w with drawn := w.drawn + 1 } E h (by simp) hp.plan hd
    { size := by simp, part := fun i hi => (by simp at hi; simp [Array.getD_eq_getD_getElem?, hi]), disj := fun i hi => (by cases hi), sub := fun i hi => (by cases hi), rlt := fun i hi => (by simpa using hi), flt := fun i hi => (by cases hi),
      closed := fun i o ho hl => by
        have hi := (jiT.1 ho).1
        simp at hi
        simp [Array.getD_eq_getD_getElem?, hi] at hl
      fdeps := fun i hi => (by cases hi)
      ssa := fun i hi => (by cases hi)
      ahead := fun i hi => (by cases hi)
      sat := S', asize := hn, bsize := hn, defs := rfl, same := fun _ _ => rfl } (by simp)
  simpa using key
end
end Go.V
end
