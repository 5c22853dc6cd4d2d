/- Laws of a small interpreter over plain values, part 10. No condition. -/
import Derived.Test.YtgjgpdceghjajaaGreatDoorSimplexRefinedH9
import Derived.OrdersIn
set_option linter.unusedSimpArgs false
set_option linter.unusedVariables false
set_option maxHeartbeats 8000000
set_option maxRecDepth 100000
section
namespace Go.V
open Go Go.RowKit
abbrev FR (r : Option Nat) : Fence := { Fence.wide with round := r }
theorem jbk {P : Program} {o : Oper} {a : Act} {w : World} {next : Act → World → Prop} {Q : Exit → Act → World → Prop} (r : Option Nat) (hd : ∀ c, o.op ≠ .defer c) (h : o.wp P a w next Q) :
  o.wpIn (FR r) 0 P a w next Q := by
 refine ⟨fun f _ => trivial, ?_⟩
 have hs : o.semAt (FR r).round a.eval = execOp a.eval o := by
  cases r with
  | none => exact Oper.semAt_none ..
  | some l => exact Oper.semAt_some _ _ _ hd
 rw [hs]
 unfold Oper.wp at h
 generalize (execOp a.eval o).run P w = x at h
 have nd : (FR r).depth.isSome = true → 1 ≤ 0 := fun e => absurd (show (none : Option Nat).isSome = true from e) (by decide)
 cases x with
 | ok y w' =>
  cases y
  case enter f args =>
   simp only [Oper.upon] at h
   simp only [Oper.uponIn]
   exact ⟨nd, callsIn_wide (n := 0).2 h⟩
  case row row args =>
   simp only [Oper.upon] at h
   simp only [Oper.uponIn]
   refine ⟨nd, fun c cs _ => ?_⟩
   obtain ⟨v, w'', h1, h2⟩ := h c cs
   exact ⟨v, w'', h1, stepsIn_wide.2 h2⟩
  all_goals simp only [Oper.upon, Oper.uponIn] at h ⊢
  all_goals exact h
 | halt y w' => cases y <;> simp only [Oper.upon, Oper.uponIn] at h ⊢ <;> exact h
section
variable {F : Fence} {n : Nat} {P : Program} {Q : Exit → Act → World → Prop} {a : Act} {w : World}
theorem jbl {b : Frame} {a : Act} {c : Code} {k : List Item} {cs : List Frame} {w : World} : step P (lone (b.atR a (.code (.scope c) :: k)) cs w) = .next (lone (b.atR a (.code c :: .inScope c :: k)) cs w) := step_lone_go (by simp [stepG, stepG.exec, Frame.atR])
theorem jfV {b : Frame} {a : Act} {c : Code} {k : List Item} {cs : List Frame} {w : World} : step P (lone (b.atR a (.inScope c :: k)) cs w) = .next (lone (b.atR a k) cs w) := step_lone_go (by simp [stepG, stepG.exec, Frame.atR])
theorem wpIn_scope {c : Code} (h : c.wpIn F n P (Exit.noGoto Q) a w) : (Code.scope c).wpIn F n P Q a w := by
 intro b k cs hro hb hr
 have h0 : (lone (b.atR a (.code (.scope c) :: k)) cs w).fenced P F := fenced_calm hb hr rfl
 obtain ⟨e, a₁, w₁, hq, harr⟩ := h b (.inScope c :: k) cs hro hb hr
 cases e with
 | normal => exact ⟨.normal, a₁, w₁, hq, .head h0 jbl (StepsIn.trans harr (.one (fenced_calm hb hr rfl) jfV))⟩
 | exit id =>
  have hx : exitTo id (.inScope c :: k) = exitTo id k := by simp [exitTo]
  exact ⟨.exit id, a₁, w₁, hq, fun k' hk => .head h0 jbl (harr.1 k' (by rw [hx]; exact hk)),
    fun hr' hk => let ⟨k₁, h1, h2⟩ := harr.2 hr' (by rw [hx]; exact hk); ⟨k₁, h1, .head h0 jbl h2⟩⟩
 | goto l => exact hq.elim
 | ret => exact ⟨_, a₁, w₁, hq, .of_steps (.one h0 jbl) harr⟩
 | panic ch => exact ⟨_, a₁, w₁, hq, .of_steps (.one h0 jbl) harr⟩
 | outgrown => exact ⟨_, a₁, w₁, hq, .of_steps (.one h0 jbl) harr⟩
theorem jgT {c : Code} {α : Type} (I : α → Act → World → Prop) (μ : α → Nat)
  (round : ∀ x a w, I x a w → c.wpIn F n P (Exit.then (fun a' w' => ∃ y, I y a' w' ∧ μ y < μ x) Q) a w) {a : Act} {w : World} (x0 : α) (h0 : I x0 a w) : (Code.loop c).wpIn F n P Q a w := by
 intro b k cs hro hb hr
 have key : ∀ j x a w, μ x = j → I x a w →
   ∃ e a' w', Q e a' w' ∧ ArrivesIn (Machine.fenced P F) P (lone (b.atR a (.code c :: .inLoop c :: k)) cs w) b k cs e a' w' := by
  intro j
  induction j using Nat.strongRecOn with
  | _ j ih =>
   intro x a w hn hI
   obtain ⟨e, a₁, w₁, hq, harr⟩ := round x a w hI b (.inLoop c :: k) cs hro hb hr
   cases e with
   | normal =>
    obtain ⟨y, hI₁, hlt⟩ := hq
    obtain ⟨e₂, a₂, w₂, hq₂, harr₂⟩ := ih (μ y) (hn ▸ hlt) y a₁ w₁ rfl hI₁
    exact ⟨e₂, a₂, w₂, hq₂, .of_steps (StepsIn.trans harr (.one (fenced_calm hb hr rfl) stepR_inLoop)) harr₂⟩
   | exit id => exact ⟨_, a₁, w₁, hq, .pass (x := .inLoop c) rfl (fun _ _ => .inl (by simp)) harr⟩
   | goto l => exact ⟨_, a₁, w₁, hq, .pass (x := .inLoop c) rfl (fun _ _ => .inl (by simp)) harr⟩
   | ret => exact ⟨_, a₁, w₁, hq, .pass (x := .inLoop c) rfl (fun _ _ => .inl (by simp)) harr⟩
   | panic ch => exact ⟨_, a₁, w₁, hq, .pass (x := .inLoop c) rfl (fun _ _ => .inl (by simp)) harr⟩
   | outgrown => exact ⟨_, a₁, w₁, hq, .pass (x := .inLoop c) rfl (fun _ _ => .inl (by simp)) harr⟩
 obtain ⟨e, a', w', hq, harr⟩ := key _ x0 a w rfl h0
 exact ⟨e, a', w', hq, .of_steps (.one (fenced_calm hb hr rfl) stepR_loop) harr⟩
end
end Go.V
end
section
namespace Go.V
open Go Go.RowKit
abbrev Env.same (E E' : Env) (j : Nat) : Prop := E'.blk j = E.blk j ∧ E'.siz j = E.siz j ∧ E'.kn j = E.kn j ∧ E'.real j = E.real j ∧ E'.lpr j = E.lpr j
theorem Env.same.trans {E E' E'' : Env} {j : Nat} (h : E.same E' j) (k : E'.same E'' j) : E.same E'' j :=
 ⟨k.1.trans h.1, k.2.1.trans h.2.1, k.2.2.1.trans h.2.2.1, k.2.2.2.1.trans h.2.2.2.1, k.2.2.2.2.trans h.2.2.2.2⟩
theorem Env.same.refl (E : Env) (j : Nat) : E.same E j := ⟨rfl, rfl, rfl, rfl, rfl⟩
mutual
def D.lt (n : Nat) : D → Bool
 | .agg ds | .tup ds | .ref ds => D.ltL n ds
 | .fn _ es ds => match D.ltL n es with | true => D.ltL n ds | false => false
 | .box j _ => Nat.blt j n
 | .yld j => Nat.blt j n
 | .osl j _ _ => Nat.blt j n
 | .bsl j _ _ _ => Nat.blt j n
 | .gd _ d => D.lt n d
 | _ => true
def D.ltL (n : Nat) : List D → Bool
 | [] => true
 | d :: ds => match D.lt n d with | true => D.ltL n ds | false => false
end
theorem jfL {j n : Nat} (h : Nat.blt j n = true) : j < n := jia h
mutual
theorem Den.lt {E E' : Env} {h : Pub} {n : Nat} (he : ∀ j, j < n → E.same E' j) : ∀ {d : D} {v : Value}, d.lt n = true → Den E h d v → Den E' h d v
 | .any, _, _, _ => by simp [Den]
 | .undef, _, _, H => by simpa [Den] using H
 | .bool _, _, _, H => by simpa [Den] using H
 | .int _ _, _, _, H => by simpa [Den] using H
 | .str _, _, _, H => by simpa [Den] using H
 | .nil, _, _, H => by simpa [Den] using H
 | .ints k xs, v, _, H => by simpa [Den] using H
 | .slf _ _ _, _, _, H => by simpa [Den] using H
 | .iarr _ _, _, _, H => by simpa [Den] using H
 | .agg ds, v, F, H => by
  simp only [Den] at H ⊢
  simp only [D.lt] at F
  obtain ⟨vs, h1, h2, h3⟩ := H
  exact ⟨vs, h1, DenL.lt he F h2, h3⟩
 | .tup ds, v, F, H => by
  simp only [Den] at H ⊢
  simp only [D.lt] at F
  obtain ⟨vs, h1, h2⟩ := H
  exact ⟨vs, h1, DenL.lt he F h2⟩
 | .fn f first caps, v, F, H => by
  simp only [Den] at H ⊢
  simp only [D.lt] at F
  obtain ⟨us, vs, h1, h2, h3⟩ := H
  cases hd : D.ltL n first with
  | false => rw [hd] at F; simp at F
  | true => rw [hd] at F; exact ⟨us, vs, h1, DenL.lt he hd h2, DenL.lt he F h3⟩
 | .ref ds, v, F, H => by
  simp only [Den] at H ⊢
  simp only [D.lt] at F
  obtain ⟨b, o, h1, vs, h2, h3, h4⟩ := H
  exact ⟨b, o, h1, vs, DenL.lt he F h2, h3, h4⟩
 | .box j _, _, F, H => by
  simp only [Den] at H ⊢
  simp only [D.lt] at F
  obtain ⟨e1, e2, e3, e4, e5⟩ := he j (jfL F)
  rw [e1, e4]; exact H
 | .osl j _ _, _, F, H => by
  simp only [Den] at H ⊢
  simp only [D.lt] at F
  obtain ⟨e1, e2, e3, e4, e5⟩ := he j (jfL F)
  rw [e1, e2, e3, e4]; exact H
 | .bsl j _ _ _, _, F, H => by
  simp only [Den] at H ⊢
  simp only [D.lt] at F
  obtain ⟨e1, e2, e3, e4, e5⟩ := he j (jfL F)
  rw [e1, e2, e4]; exact H
 | .yld j, _, F, H => by
  simp only [Den] at H ⊢
  simp only [D.lt] at F
  obtain ⟨e1, e2, e3, e4, e5⟩ := he j (jfL F)
  rw [e1]; exact H
 | .gd c d, v, F, H => by
  simp only [Den] at H ⊢
  simp only [D.lt] at F
  exact ⟨fun hc => Den.lt he F (H.1 hc), H.2⟩
 | .gp _, _, _, H => by simpa [Den] using H
 | .val _, _, _, H => by simpa [Den] using H
 | .anyb _, _, _, H => by simpa [Den] using H
theorem DenL.lt {E E' : Env} {h : Pub} {n : Nat} (he : ∀ j, j < n → E.same E' j) : ∀ {ds : List D} {vs : List Value}, D.ltL n ds = true → DenL E h ds vs → DenL E' h ds vs
 | [], _, _, H => by simpa [DenL] using H
 | d :: ds, vs, F, H => by
  simp only [DenL] at H ⊢
  simp only [D.ltL] at F
  obtain ⟨v, vs', h1, h2, h3⟩ := H
  cases hd : D.lt n d with
  | false => rw [hd] at F; simp at F
  | true => rw [hd] at F; exact ⟨v, vs', h1, Den.lt he hd h2, DenL.lt he F h3⟩
end
def cut (n : Nat) : Sl → Sl
 | [] => []
 | (t, d) :: L => (t, match D.lt n d with | true => d | false => .any) :: cut n L
def cutK (n : Nat) : Sl → (Sl → Prop) → Prop
 | [], K => K []
 | (t, d) :: L, K => match D.lt n d with
  | true => cutK n L fun L' => K ((t, d) :: L')
  | false => cutK n L fun L' => K ((t, .any) :: L')
theorem jhH (n : Nat) (L : Sl) (K : Sl → Prop) : cutK n L K = K (cut n L) := by
 induction L generalizing K with
 | nil => rfl
 | cons x L ih =>
  obtain ⟨t, d⟩ := x
  simp only [cutK, cut]
  cases D.lt n d <;> simp [ih]
theorem look_cut {n : Nat} {L : Sl} {t : Nat} {E E' : Env} {h h' : Pub} {v : Value} (he : ∀ j, j < n → E.same E' j) (hh : h.Le h') (H : Den E h (look L t) v) : Den E' h' (look (cut n L) t) v := by
 induction L with
 | nil => simp [cut, look, Den]
 | cons x L ih =>
  obtain ⟨s, d⟩ := x
  simp only [cut]
  rw [jaI] at H ⊢
  split
  ·rename_i hs
   rw [if_pos hs] at H
   cases hf : D.lt n d with
   | true => exact Den.mono hh (Den.lt he hf H)
   | false => simp [Den]
  ·rename_i hs
   rw [if_neg hs] at H
   exact ih H
structure MS (cx : Cx) (E : Env) (h : Pub) (w : World) (H : Hp) : Prop where
 mem : MemOk cx.w0.heap.size E h w H
 agree : Agree h w
 since : Since cx.w0 cx.h0 w h
 low : ∀ j, j < cx.off → cx.E0.same E j
 objs : ∀ b o, cx.objs b = some o → cx.w0.heap.size ≤ b ∧ held o ∧ w.heap[b]? = some o
section
variable {cx cx' : Cx} {E E' : Env} {h h' : Pub} {a : Act} {w w' : World} {L : Sl} {H H' : Hp}
theorem Sat.ms (S : Sat cx E h a w L H) : MS cx E h w H := ⟨S.mem, S.agree, S.since, S.low, S.side.objs⟩
theorem MS.sat (M : MS cx E h w H) (hk : ∀ t, Den E h (look L t) (a.tmps.getD t Go.undef))
  (hm : ∃ ms : List Nat, ms.Nodup ∧ a.defers = ms.map (fun b => ({ target := .collected b, args := #[] } : Deferred)) ++ cx.ds ∧ ∀ b ∈ ms, cx.w0.heap.size ≤ b ∧ cx.objs b = none ∧ w.heap[b]? = some (.deferred (some []))) :
  Sat cx E h a w L H := ⟨hk, M.mem, M.agree, M.since, M.low, ⟨hm, M.objs⟩⟩
structure Later (cx cx' : Cx) : Prop where
 w0 : cx'.w0 = cx.w0
 le : cx.h0.Le cx'.h0
 old : ∀ b, b < cx.w0.heap.size → ∀ o, cx'.h0 b o = cx.h0 b o
 off : cx.off ≤ cx'.off
 env : ∀ j, j < cx.off → cx.E0.same cx'.E0 j
 objs : ∀ b o, cx.objs b = some o → cx'.objs b = some o
theorem Later.refl (cx : Cx) : Later cx cx := ⟨rfl, Pub.Le.refl _, fun _ _ _ => rfl, jii _, fun _ _ => .refl _ _, fun _ _ h => h⟩
theorem Later.trans {a b c : Cx} (h : Later a b) (k : Later b c) : Later a c :=
 ⟨k.w0.trans h.w0, h.le.trans k.le, fun x hx o => (k.old x (by rw [h.w0]; exact hx) o).trans (h.old x hx o), jiq h.off k.off, fun j hj => (h.env j hj).trans (k.env j (jio hj h.off)), fun b o e => k.objs b o (h.objs b o e)⟩
def Cx.now (cx : Cx) (E : Env) (h : Pub) (n : Nat) (objs : Nat → Option Obj) : Cx := { w0 := cx.w0, h0 := h, off := n, E0 := E, ds := [], objs := objs }
theorem MS.now (M : MS cx E h w H) {n : Nat} {objs : Nat → Option Obj} (ho : ∀ b o, objs b = some o → cx.w0.heap.size ≤ b ∧ held o ∧ w.heap[b]? = some o) : MS (cx.now E h n objs) E h w H :=
 ⟨M.mem, M.agree, ⟨M.since.below, Pub.Le.refl _, fun _ _ _ => rfl⟩, fun j _ => .refl _ _, ho⟩
theorem MS.later (M : MS cx E h w H) {n : Nat} {objs : Nat → Option Obj} (hn : cx.off ≤ n) (ho : ∀ b o, cx.objs b = some o → objs b = some o) : Later cx (cx.now E h n objs) :=
 ⟨rfl, M.since.le, fun b hb o => M.since.old b hb o, hn, fun j hj => M.low j hj, ho⟩
theorem Sat.back (S : Sat cx E h a w L H) {n : Nat} {objs : Nat → Option Obj} (hn : cx.off ≤ n) (M : MS (cx.now E h n objs) E' h' w' H')
  (ho : ∀ b o, cx.objs b = some o → objs b = some o) (hm : ∀ b, cx.w0.heap.size ≤ b → cx.objs b = none → w.heap[b]? = some (.deferred (some [])) → b < w.heap.size → w'.heap[b]? = some (.deferred (some []))) : Sat cx E' h' a w' (cut n L) H' := by
 refine { knows := fun t => look_cut M.low M.since.le (S.knows t), mem := M.mem, agree := M.agree, since := ?_, low := fun j hj => Env.same.trans (S.low j hj) (M.low j (jio hj hn)), side := ?_ }
 ·exact ⟨M.since.below, S.since.le.trans M.since.le, fun b hb o => (M.since.old b hb o).trans (S.since.old b hb o)⟩
 ·obtain ⟨ms, h0, h1, h2⟩ := S.side.marks
  exact ⟨⟨ms, h0, h1, fun b hb => ⟨(h2 b hb).1, (h2 b hb).2.1, hm b (h2 b hb).1 (h2 b hb).2.1 (h2 b hb).2.2 (Array.getElem?_eq_some_iff.1 (h2 b hb).2.2).1⟩⟩, fun b o e => M.objs b o (ho b o e)⟩
theorem MS.putObj (M : MS cx E h w H) {l : Nat} {o o' : Obj} (hl : w.heap[l]? = some o) (hc : o.isCells = false) (hB : cx.w0.heap.size ≤ l) {objs : Nat → Option Obj}
  (ho : ∀ b q, objs b = some q → (b ≠ l ∧ cx.objs b = some q) ∨ (b = l ∧ q = o' ∧ held o'))
  (hlp : ∀ j p, lookH H j = some (.lp p) → E.real j = true → E.blk j ≠ l) : MS { cx with objs := objs } E h (w.putObj l o') H := by
 have hlt := (Array.getElem?_eq_some_iff.1 hl).1
 have keep : ∀ b, b ≠ l → (w.putObj l o').heap[b]? = w.heap[b]? := fun b hb => World.putObj_heap_other hb
 have nl : ∀ i c, lookH H i = some c → c.live = true → E.real i = true → E.blk i ≠ l := fun i c hi hlv hr e => by
  cases hcl : c.cel with
  | true =>
   obtain ⟨cs, T, f, hcell⟩ := (M.mem.ok i c hi).cells hcl hr
   rw [e, hl] at hcell; cases hcell; cases hc
  | false =>
   cases c with
   | lp p => exact hlp i p hi hr e
   | gone => simp [Chunk.live] at hlv
   | _ => simp [Chunk.cel] at hcl
 refine ⟨⟨fun i c hi => (M.mem.ok i c hi).keep fun hlv hr => keep _ (nl i c hi hlv hr), M.mem.base, M.mem.unpub, M.mem.inj⟩, ?_, ?_, M.low, fun b q hq => ?_⟩
 ·refine M.agree.of_blocks fun b ⟨x, v, hv⟩ => keep b fun e => ?_
  subst e
  have := M.agree b x v hv
  unfold World.cell? at this
  rw [show (⟨b, x, none⟩ : Addr).block = b from rfl, hl] at this
  cases o <;> first | (cases hc; done) | simp at this
 ·exact ⟨⟨M.since.below.os, M.since.below.tape, M.since.below.output, by rw [World.putObj_size]; exact M.since.below.size, fun k hk => by rw [keep k (Nat.ne_of_lt (jio hk hB))]; exact M.since.below.block k hk⟩, M.since.le, M.since.old⟩
 ·rcases ho b q hq with ⟨hb, hq'⟩ | ⟨rfl, rfl, hc'⟩
  ·obtain ⟨h1, h2, h3⟩ := M.objs b q hq'
   exact ⟨h1, h2, by rw [keep b hb]; exact h3⟩
  ·exact ⟨hB, hc', World.putObj_heap_same hlt⟩
theorem MS.below (M : MS cx E h w H) (hb : Below w.heap.size w w') : MS cx E h w' H :=
  ⟨⟨fun i c hi => (M.mem.ok i c hi).keep fun hl hr => hb.block _ ((M.mem.ok i c hi).lt hl hr), M.mem.base, M.mem.unpub, M.mem.inj⟩,
   M.agree.of_blocks fun b ⟨_, _, hv⟩ => hb.block b (M.agree.lt hv), ⟨M.since.below.trans (hb.mono M.since.below.size), M.since.le, M.since.old⟩, M.low,
   fun b o ho => ⟨(M.objs b o ho).1, (M.objs b o ho).2.1, by rw [hb.block b (Array.getElem?_eq_some_iff.1 (M.objs b o ho).2.2).1]; exact (M.objs b o ho).2.2⟩⟩
theorem MS.noPub (M : MS cx E h w H) {l : Nat} {r : Loop} (hl : w.heap[l]? = some (.loop r)) (o : Nat) : h l o = none := by
 cases hv : h l o with
 | none => rfl
 | some v =>
  have := M.agree l o v hv
  unfold World.cell? at this
  rw [show (⟨l, o, none⟩ : Addr).block = l from rfl, hl] at this
  simp at this
theorem MS.gone (M : MS cx E h w H) (i : Nat) : MS cx E h w ((i, .gone) :: H) := by
 have live : ∀ j c, lookH ((i, .gone) :: H) j = some c → c.live = true → j ≠ i ∧ lookH H j = some c := by
  intro j c hc hl
  rw [jag] at hc
  split at hc
  ·cases hc; simp [Chunk.live] at hl
  ·rename_i e; exact ⟨Ne.symm e, hc⟩
 refine ⟨⟨?_, ?_, ?_, ?_⟩, M.agree, M.since, M.low, M.objs⟩
 ·intro j c hc
  rw [jag] at hc
  split at hc
  ·cases hc; trivial
  ·exact M.mem.ok j c hc
 ·exact fun j c hc hl => M.mem.base j c (live j c hc hl).2 hl
 ·exact fun j c hc hl => M.mem.unpub j c (live j c hc hl).2 hl
 ·exact fun j k c1 c2 hjk h1 h2 l1 l2 => M.mem.inj j k c1 c2 hjk (live j c1 h1 l1).2 (live k c2 h2 l2).2 l1 l2
theorem MS.mark (M : MS cx E h w H) {i : Nat} {r : Loop} {p : Option Code} (hr : E.real i = true) (hi : E.lpr i = some r) (hl : w.heap[E.blk i]? = some (.loop (lpRec r p))) (hB : cx.w0.heap.size ≤ E.blk i)
  (hd : ∀ j c, j ≠ i → lookH H j = some c → c.live = true → E.real j = true → E.blk j ≠ E.blk i) : MS cx E h w ((i, .lp p) :: H) := by
 refine ⟨⟨?_, ?_, ?_, ?_⟩, M.agree, M.since, M.low, M.objs⟩
 ·intro j c hc
  rw [jag] at hc
  split at hc
  ·rename_i e; subst e; cases hc; exact ⟨hr, r, hi, hl⟩
  ·exact M.mem.ok j c hc
 ·intro j c hc hlv hrj
  rw [jag] at hc
  split at hc
  ·rename_i e; subst e; exact hB
  ·exact M.mem.base j c hc hlv hrj
 ·intro j c hc hlv hrj o
  rw [jag] at hc
  split at hc
  ·rename_i e; subst e; exact M.noPub hl o
  ·exact M.mem.unpub j c hc hlv hrj o
 ·intro j k c1 c2 hjk h1 h2 l1 l2 r1 r2
  rw [jag] at h1 h2
  split at h1
  ·rename_i e; subst e
   rw [if_neg hjk] at h2
   exact Ne.symm (hd k c2 (Ne.symm hjk) h2 l2 r2)
  ·split at h2
   ·rename_i e; subst e
    exact hd j c1 hjk h1 l1 r1
   ·exact M.mem.inj j k c1 c2 hjk h1 h2 l1 l2 r1 r2
def Env.setL (E : Env) (i l : Nat) (r : Loop) : Env := ⟨fun j => if j = i then l else E.blk j, fun j => if j = i then 0 else E.siz j, fun j => if j = i then 0 else E.kn j, fun j => if j = i then true else E.real j, fun j => if j = i then some r else E.lpr j⟩
theorem Env.off_setL (E : Env) (i l : Nat) (r : Loop) : E.off (E.setL i l r) i := fun j hj => by simp [Env.setL, hj]
theorem Env.setL_blk (E : Env) (i l : Nat) (r : Loop) : (E.setL i l r).blk i = l := by simp [Env.setL]
theorem Env.setL_real (E : Env) (i l : Nat) (r : Loop) : (E.setL i l r).real i = true := by simp [Env.setL]
theorem Env.setL_lpr (E : Env) (i l : Nat) (r : Loop) : (E.setL i l r).lpr i = some r := by simp [Env.setL]
theorem MS.name (M : MS cx E h w H) {E' : Env} {i : Nat} (hoff : E.off E' i) (hi : cx.off ≤ i) : MS cx E' h w ((i, .gone) :: jaE i H) := by
 have live : ∀ j c', lookH ((i, .gone) :: jaE i H) j = some c' → c'.live = true → j ≠ i ∧ ∃ c0, lookH H j = some c0 ∧ c' = jb5 i c0 ∧ c0.live = true := by
  intro j c' hc' hl
  rw [jag] at hc'
  split at hc'
  ·cases hc'; simp [Chunk.live] at hl
  ·rename_i e
   obtain ⟨c0, h1, h2⟩ := ja9 hc'
   exact ⟨Ne.symm e, c0, h1, h2, by rw [h2, ja8] at hl; exact hl⟩
 refine ⟨⟨?_, ?_, ?_, ?_⟩, M.agree, M.since, fun j hj => Env.same.trans (M.low j hj) (hoff j (by omega)), M.objs⟩
 ·intro j c' hc'
  cases hl : c'.live with
  | false => cases c' <;> first | trivial | (simp [Chunk.live] at hl)
  | true =>
   obtain ⟨hj, c0, h1, rfl, hl'⟩ := live j c' hc' hl
   exact ChunkOk.env hoff hj (M.mem.ok j _ h1)
 ·intro j c' hc' hl hr
  obtain ⟨hj, c0, h1, rfl, hl'⟩ := live j c' hc' hl
  rw [(hoff j hj).2.2.2.1] at hr
  rw [(hoff j hj).1]; exact M.mem.base j _ h1 hl' hr
 ·intro j c' hc' hl hr o
  obtain ⟨hj, c0, h1, rfl, hl'⟩ := live j c' hc' hl
  rw [(hoff j hj).2.2.2.1] at hr
  rw [(hoff j hj).1]; exact M.mem.unpub j _ h1 hl' hr o
 ·intro j k c1 c2 hjk h1 h2 l1 l2 r1 r2
  obtain ⟨hj, c0, g1, rfl, l1'⟩ := live j c1 h1 l1
  obtain ⟨hk, c0', g2, rfl, l2'⟩ := live k c2 h2 l2
  rw [(hoff j hj).2.2.2.1] at r1
  rw [(hoff k hk).2.2.2.1] at r2
  rw [(hoff j hj).1, (hoff k hk).1]
  exact M.mem.inj j k _ _ hjk g1 g2 l1' l2' r1 r2
end
abbrev Yl := Nat → List D → Nat → Hp → (D → Hp → Prop) → Prop
abbrev Inl := Yl → Nat → List D → Nat → Hp → (D → Hp → Prop) → Prop
def YlOk (P : Program) (cx : Cx) (yl : Yl) : Prop :=
 ∀ cx', Later cx cx' → ∀ i ds top H K, yl i ds top H K → cx'.off ≤ top → ∀ E h w vs, MS cx' E h w H → DenL E h ds vs →
  ∃ fn tmps assign body, (Instr.yield (E.blk i) vs.toArray).run P w = .ok (.round (E.blk i) fn tmps assign body) w ∧
   RoundIn (FR none) 0 P (E.blk i) fn tmps assign body w fun e w' => ∃ v r E' h' H', e = .returned v ∧ K r H' ∧ Den E' h' r v ∧ MS (cx'.now E h top cx'.objs) E' h' w' H'
theorem YlOk.later {P : Program} {cx cx' : Cx} {yl : Yl} (h : YlOk P cx yl) (hl : Later cx cx') : YlOk P cx' yl := fun cx'' h'' => h cx'' (hl.trans h'')
theorem ylOk_none (P : Program) (cx : Cx) : YlOk P cx (fun _ _ _ _ _ => False) := fun _ _ _ _ _ _ _ h => h.elim
def InlOk (P : Program) (inl : Inl) : Prop :=
 ∀ yl g ds off H K, inl yl g ds off H K → ∀ cx E h w vs, cx.off = off → cx.ds = [] → YlOk P cx yl → MS cx E h w H → DenL E h ds vs →
  Enters P g ∧ CallsIn (FR none) 0 P g vs.toArray w fun e w' => ∃ v r E' h' H', e = .returned v ∧ K r H' ∧ Den E' h' r v ∧ MS cx E' h' w' H'
end Go.V
end
section
namespace Go.V
open Go Go.RowKit
inductive Alt (A B C D : Prop) : Prop where
  | ext (a : A) : Alt A B C D
  | inl (b : B) : Alt A B C D
  | pan (c : C) : Alt A B C D
  | len (d : D) : Alt A B C D
def inlK (inl : Inl) (yl : Yl) (N off : Nat) (dst : Option Nat) (x : Operand) (args : List Operand) (L : Sl) (H : Hp) (K : K2) : Prop :=
 rdg True L x fun df => match df with
  | .fn f first caps => rdsK True L args fun ds => ∃ k : Nat, inl yl f (appD first (appD ds caps)) (off + N + 1 + k) H fun r H' =>
    cutK (off + N + 1 + k) L fun L' => dstK N dst r L' fun L'' => K L'' H'
  | _ => False
def call2K (P : Program) (inl : Inl) (yl : Yl) (N off : Nat) (dst : Option Nat) (x : Operand) (args : List Operand) (L : Sl) (H : Hp) (KP : KPan) (K : K2) : Prop :=
 rdg True L x fun df => match df with
  | .yld i => rdsK True L args fun ds => yl i ds (off + N + 1) H fun r H' => cutK (off + N + 1) L fun L' => dstK N dst r L' fun L'' => K L'' H'
  | _ => Alt (callK P N True (fun r => r) dst x args L H K) (inlK inl yl N off dst x args L H K) (panK P x args L H KP) (lendK P N dst x args L H K)
def op2K (P : Program) (tb : Tb) (inl : Inl) (yl : Yl) (N off : Nat) (o : Oper) (L : Sl) (H : Hp) (KP : KPan) (K : K2) : Prop := match o.op with
 | .call c => match c.callee with
  | .value x => call2K P inl yl N off o.dst x c.args.toList L H KP K
  | _ => opK P tb N off o L H K
 | .panic x => raiseK x L H KP
 | _ => opK P tb N off o L H K
def Hv (P : Program) (N : Nat) (cx : Cx) (r : Option Nat) (Q : Exit → Act → World → Prop) (o : Oper) (K : K2) (L : Sl) (H : Hp) : Prop :=
 ∀ E h a w, N ≤ a.tmps.size → Sat cx E h a w L H → ∀ next : Act → World → Prop,
  (∀ L' H' E' h' a' w', K L' H' → a'.tmps.size = a.tmps.size → Sat cx E' h' a' w' L' H' → next a' w') → o.wpIn (FR r) 0 P a w next Q
def HvP (P : Program) (N : Nat) (cx : Cx) (r : Option Nat) (Q : Exit → Act → World → Prop) (o : Oper) (KP : KPan) (K : K2) (L : Sl) (H : Hp) : Prop :=
 ∀ E h a w, N ≤ a.tmps.size → Sat cx E h a w L H → (∀ c L' H' E' h' a' w', KP c L' H' → a'.tmps.size = a.tmps.size → Sat cx E' h' a' w' L' H' → Q (.panic c) a' w') → ∀ next : Act → World → Prop,
  (∀ L' H' E' h' a' w', K L' H' → a'.tmps.size = a.tmps.size → Sat cx E' h' a' w' L' H' → next a' w') → o.wpIn (FR r) 0 P a w next Q
section
variable {P : Program} {tb : Tb} {inl : Inl} {yl : Yl} {N : Nat} {cx : Cx} {r : Option Nat} {Q : Exit → Act → World → Prop} {o : Oper} {L : Sl} {H : Hp} {K : K2}
theorem jgC {off : Nat} (h : opK P tb N off o L H K) : ∀ c, o.op ≠ .defer c := by
 intro c e
 unfold opK at h
 rw [e] at h
 obtain ⟨d, _, h⟩ := jaL h
 exact h.elim
theorem hv_of (hd : ∀ c, o.op ≠ .defer c) (h : Heavy P N cx Q o K L H) : Hv P N cx r Q o K L H :=
 fun E hp a w hN S next hnext => jbk r hd (h E hp a w hN S next hnext)
def ja5 (cx : Cx) (w : World) : Nat → Option Obj := fun b => match cx.objs b with
 | some o => some o
 | none => if cx.w0.heap.size ≤ b then (match w.heap[b]? with | some (.deferred ds) => some (.deferred ds) | _ => none) else none
theorem jch (cx : Cx) (w : World) : ∀ b o, cx.objs b = some o → ja5 cx w b = some o := fun b o h => by simp [ja5, h]
theorem jcg {E : Env} {h : Pub} {w : World} {H : Hp} (M : MS cx E h w H) : ∀ b o, ja5 cx w b = some o → cx.w0.heap.size ≤ b ∧ held o ∧ w.heap[b]? = some o := fun b o hb => by
 unfold ja5 at hb
 split at hb
 ·rename_i q hq; cases hb; exact M.objs b _ hq
 ·split at hb
  ·rename_i hle
   split at hb
   ·rename_i ds hds; cases hb; exact ⟨hle, ⟨rfl, fun r e => by cases e⟩, hds⟩
   ·cases hb
  ·cases hb
theorem jfW {w : World} {b : Nat} (hb : cx.w0.heap.size ≤ b) (ho : cx.objs b = none) (hw : w.heap[b]? = some (.deferred (some []))) : ja5 cx w b = some (.deferred (some [])) := by
 simp [ja5, ho, hb, hw]
theorem Sat.back' {E E' : Env} {h h' : Pub} {a : Act} {w w' : World} {H' : Hp} (S : Sat cx E h a w L H) {n : Nat} (hn : cx.off ≤ n) (M : MS (cx.now E h n (ja5 cx w)) E' h' w' H') : Sat cx E' h' a w' (cut n L) H' :=
 S.back hn M (jch cx w) fun b hb ho hw _ => (M.objs b _ (jfW hb ho hw)).2.2
theorem jg2 {f : Nat} {us vs : List Value} {a : Act} {x : Operand} {args : Array Operand} {ts : Array TypeId} {t : TypeId} {w : World} (hfv : a.eval x = .func (.func f) us.toArray vs.toArray) (hent : Enters P f) :
  ∃ d, (resolve a.eval { callee := .value x, args := args, argTypes := ts } t).run P w = .ok d w ∧ (invoke d.target d.args).run P w = .ok (.enter f (us ++ (args.toList.map a.eval ++ vs)).toArray) w := by
 refine ⟨{ target := .fn (.func f) vs.toArray, args := us.toArray ++ Array.map a.eval args }, ?_, ?_⟩
 ·simp only [resolve, hfv, Deferred.ofValue, Sem.run_pure]
 ·simp only [invoke]
  rw [show us.toArray ++ Array.map a.eval args ++ vs.toArray = (us ++ (args.toList.map a.eval ++ vs)).toArray by apply Array.toList_inj.1; simp]
  exact hent _ w
theorem inl_el (hin : InlOk P inl) (hyl : YlOk P cx yl) {x : Operand} {args : Array Operand} {ts : Array TypeId} (ho : o.op = .call { callee := .value x, args := args, argTypes := ts })
  (hh : inlK inl yl N cx.off o.dst x args.toList L H K) : Hv P N cx r Q o K L H := by
 have hz := jar hh; clear hh; obtain ⟨df, hh, hdf⟩ := hz
 split at hh
 case h_2 => exact hh.elim
 rename_i f first caps
 have hz := jcW hh; clear hh; obtain ⟨ds, hh, hlen, hds⟩ := hz
 obtain ⟨k, hh⟩ := hh
 intro E h a w hN S next hnext
 have hf := hdf E h a trivial (S.facts.rd x)
 simp only [Den] at hf
 obtain ⟨us, vs, hfv, hu, hv⟩ := hf
 have hargs := hds E h a S.facts.rd trivial
 have hall : DenL E h (appD first (appD ds caps)) (us ++ (args.toList.map a.eval ++ vs)) := by
  rw [jcK, jcK]; exact hu.append (hargs.append hv)
 have hoff : cx.off ≤ cx.off + N + 1 + k := by omega
 obtain ⟨hent, hcall⟩ := hin _ _ _ _ _ _ hh (cx.now E h (cx.off + N + 1 + k) (ja5 cx w)) E h w _ rfl rfl (hyl.later (S.ms.later hoff (jch cx w))) (S.ms.now (jcg S.ms)) hall
 have hrun : (execOp a.eval o).run P w = .ok (.enter f (us ++ (args.toList.map a.eval ++ vs)).toArray) w := by
  simp only [execOp, ho, resolve, hfv, Deferred.ofValue, Sem.run_bind, Sem.run_pure, Result.andThen_ok, invoke]
  rw [show us.toArray ++ Array.map a.eval args ++ vs.toArray = (us ++ (args.toList.map a.eval ++ vs)).toArray by apply Array.toList_inj.1; simp]
  exact hent _ w
 refine jbk r (fun c e => by rw [ho] at e; cases e) ?_
 unfold Oper.wp
 rw [hrun]
 simp only [Oper.upon]
 refine (callsIn_wide.1 hcall).mono ?_
 rintro e w' ⟨v, r', E', h', H', rfl, hK, hden, M⟩
 simp only
 rw [jhH] at hK
 obtain ⟨L'', hK', hput⟩ := je0 (cx := cx) hK
 exact hnext _ _ _ _ _ _ hK' (jaz _ _ _) (hput E' h' a w' H' v hN (S.back' hoff M) hden)
theorem yld_el (hyl : YlOk P cx yl) {i : Nat} {x : Operand} {args : Array Operand} {ts : Array TypeId} (ho : o.op = .call { callee := .value x, args := args, argTypes := ts }) (hdf : ∀ E h a w, Sat cx E h a w L H → Den E h (.yld i) (a.eval x))
  (hh : rdsK True L args.toList fun ds => yl i ds (cx.off + N + 1) H fun r H' => cutK (cx.off + N + 1) L fun L' => dstK N o.dst r L' fun L'' => K L'' H') : Hv P N cx r Q o K L H := by
 have hz := jcW hh; clear hh; obtain ⟨ds, hh, hlen, hds⟩ := hz
 intro E h a w hN S next hnext
 have hf := hdf E h a w S
 simp only [Den] at hf
 have hargs := hds E h a S.facts.rd trivial
 have hoff : cx.off ≤ cx.off + N + 1 := by omega
 let cx' : Cx := { cx with objs := ja5 cx w }
 have hl : Later cx cx' := ⟨rfl, Pub.Le.refl _, fun _ _ _ => rfl, jii _, fun _ _ => .refl _ _, jch cx w⟩
 obtain ⟨fn, tmps, assign, body, hy, hr⟩ := hyl cx' hl i ds _ H _ hh hoff E h w _ ⟨S.mem, S.agree, S.since, S.low, jcg S.ms⟩ hargs
 have hrun : (execOp a.eval o).run P w = .ok (.round (E.blk i) fn tmps assign body) w := by
  simp only [execOp, ho, resolve, hf, Deferred.ofValue, Sem.run_bind, Sem.run_pure, Result.andThen_ok, invoke]
  rw [show #[] ++ Array.map a.eval args = (args.toList.map a.eval).toArray by apply Array.toList_inj.1; simp]
  exact hy
 have hs : o.semAt (FR r).round a.eval = execOp a.eval o := by
  cases r with
  | none => exact Oper.semAt_none ..
  | some l => exact Oper.semAt_some _ _ _ (fun c e => by rw [ho] at e; cases e)
 refine ⟨fun f _ => trivial, ?_⟩
 rw [hs, hrun]
 simp only [Oper.uponIn]
 refine ⟨fun e => absurd (show (none : Option Nat).isSome = true from e) (by decide), ?_⟩
 refine RoundIn.mono (F := FR r) (show RoundIn (FR r) 0 P _ _ _ _ _ _ _ from hr) ?_
 rintro e w' ⟨v, r', E', h', H', rfl, hK, hden, M⟩
 simp only
 rw [jhH] at hK
 obtain ⟨L'', hK', hput⟩ := je0 (cx := cx) hK
 exact hnext _ _ _ _ _ _ hK' (jaz _ _ _) (hput E' h' a w' H' v hN (S.back' hoff M) hden)
theorem Hv.p {KP : KPan} (h : Hv P N cx r Q o K L H) : HvP P N cx r Q o KP K L H := fun E hp a w hN S _ next hnext => h E hp a w hN S next hnext
theorem op2_el {KP : KPan} (htb : TbOk P tb) (hin : InlOk P inl) (hyl : YlOk P cx yl) (hh : op2K P tb inl yl N cx.off o L H KP K) : HvP P N cx r Q o KP K L H := by
 have old : opK P tb N cx.off o L H K → HvP P N cx r Q o KP K L H := fun hh => (hv_of (jgC hh) (op_el htb hh)).p
 unfold op2K at hh
 split at hh
 case h_3 => exact old hh
 case h_2 x ho => exact fun E hp a w hN S hP next hnext => jbk r (fun c e => by rw [ho] at e; cases e) (raise_el ho hh E hp a w S (fun c L' H' h' w' hK S' => hP c L' H' E h' a w' hK rfl S') next)
 rename_i c ho
 obtain ⟨callee, args, ts⟩ := c
 cases callee with
 | value x =>
  dsimp only at hh
  have hz := jar hh; clear hh; obtain ⟨df, hh, hdf⟩ := hz
  split at hh
  ·rename_i i
   exact (yld_el hyl ho (fun E h a w S => hdf E h a trivial (S.facts.rd x)) hh).p
  ·cases hh with
   | ext hh =>
    refine (hv_of (fun c e => by rw [ho] at e; cases e) ?_).p
    obtain ⟨L'', H', hK, hc⟩ := jhK (P := P) (Q := Q) (cx := cx) ho (fun _ _ _ _ _ h => h) (fun _ _ _ h => absurd trivial h) hh
    intro E h a w hN S next hnext
    exact (hc E h a w hN S).1 trivial next fun h' a' w' hs hS => hnext _ _ _ _ _ _ hK hs hS
   | inl hh => exact (inl_el hin hyl ho hh).p
   | len hh =>
    refine (hv_of (fun c e => by rw [ho] at e; cases e) ?_).p
    obtain ⟨L'', H', hK, hc⟩ := lend_el (P := P) (Q := Q) (cx := cx) ho hh
    intro E h a w hN S next hnext
    exact hc E h a w hN S next fun h' a' w' hs hS => hnext _ _ _ _ _ _ hK hs hS
   | pan hh => exact fun E hp a w hN S hP next hnext => jbk r (fun c e => by rw [ho] at e; cases e) (pan_el ho hh E hp a w S (fun c L' H' h' w' hK S' => hP c L' H' E h' a w' hK rfl S') next)
 | invoke r m => exact old hh
 | builtin b => exact old hh
def heavyOp : Op → Bool
 | .alloc _ => true
 | .box _ _ => true
 | .store _ _ _ => true
 | .buildSlice _ _ _ => true
 | .makeSlice _ _ _ => true
 | .call c => match c.callee with
  | .builtin .append => true
  | .builtin .copy => true
  | _ => false
 | _ => false
inductive GrdK (c : Bool) (A B : Prop) : Prop where
  | yes (h : c = true) (a : A)
  | no (h : c = false) (b : B)
def skipK (N : Nat) (dst : Option Nat) (L : Sl) (K : Sl → Prop) : Prop := match dst with
 | none => K L
 | some d => ltK d N (K ((d, .any) :: L))
def ops2K (P : Program) (tb : Tb) (inl : Inl) (yl : Yl) (N off : Nat) (all : List Oper) (KP : KPan) : List Oper → Sl → Hp → K2 → Prop
 | [], L, H, K => K L H
 | o :: rest, L, H, K => match o.guard with
  | none => op2K P tb inl yl N off o L H KP fun L H => ops2K P tb inl yl N off all KP rest L H K
  | some (j, want) => nthO all j fun oj => someK oj.dst fun s => lookK L s fun ds => condK want ds fun c => match heavyOp o.op with
   | true => GrdK c (op2K P tb inl yl N off o L H KP fun L H => ops2K P tb inl yl N off all KP rest L H K) (skipK N o.dst L fun L => ops2K P tb inl yl N off all KP rest L H K)
   | false => match o.op with
    | .call cl => match cl.callee with
     | .value x => callK P N (c = true) (.gd c) o.dst x cl.args.toList L H fun L H => ops2K P tb inl yl N off all KP rest L H K
     | _ => someK o.dst fun d => quiet tb (c = true) L H (fun r => ltK d N (ops2K P tb inl yl N off all KP rest ((d, .gd c r) :: L) H K)) o.op
    | _ => someK o.dst fun d => quiet tb (c = true) L H (fun r => ltK d N (ops2K P tb inl yl N off all KP rest ((d, .gd c r) :: L) H K)) o.op
theorem jhs {op : Op} (h : heavyOp op = true) : (∀ c, op ≠ .defer c) ∧ (∀ cs b, op ≠ .select cs b) := by
 refine ⟨fun c e => ?_, fun cs b e => ?_⟩ <;> (subst e; cases h)
theorem jci {g : Prop} {K : D → Prop} (h : quiet tb g L H K o.op) : ∀ c, o.op ≠ .defer c := by
 intro c e
 rw [e] at h
 exact h.elim
theorem jaO {KP : KPan} (htb : TbOk P tb) (hin : InlOk P inl) (hyl : YlOk P cx yl) {all : List Oper} : ∀ {rest : List Oper} {L : Sl} {H : Hp} {K : K2}, ops2K P tb inl yl N cx.off all KP rest L H K →
  ∀ {n : Nat}, N ≤ n → (∀ c L' H' E' h' a' w', KP c L' H' → a'.tmps.size = n → Sat cx E' h' a' w' L' H' → Q (.panic c) a' w') → (∀ L' H' E' h' a' w', K L' H' → a'.tmps.size = n → Sat cx E' h' a' w' L' H' → Q .normal a' w') →
  ∀ E h a w, a.tmps.size = n → Sat cx E h a w L H → wpListIn (FR r) 0 P all.toArray Q rest a w
 | [], L, H, K, hh, n, hN, hP, hQ, E, h, a, w, hn, S => by
  simp only [ops2K] at hh
  exact hQ L H E h a w hh hn S
 | o :: rest, L, H, K, hh, n, hN, hP, hQ, E, h, a, w, hn, S => by
  simp only [ops2K] at hh
  split at hh
  ·rename_i hg
   unfold wpListIn
   rw [if_pos (by simp [Region.wanted, hg])]
   refine op2_el htb hin hyl hh E h a w (by omega) S (fun c L' H' E' h' a' w' hK hs S' => hP c L' H' E' h' a' w' hK (by omega) S') _ fun L' H' E' h' a' w' hK hs S' => ?_
   exact jaO htb hin hyl hK hN hP hQ E' h' a' w' (by omega) S'
  ·rename_i j want hg
   obtain ⟨oj, hj, hh⟩ := jdN hh
   obtain ⟨s, hs, hh⟩ := jaL hh
   rw [jbz] at hh
   obtain ⟨c, hh, hc⟩ := jhI hh
   have hw := jfl (a := a) hg hj hs
   have hc' := hc E h _ (S.knows s)
   have quietCase : (someK o.dst fun d => quiet tb (c = true) L H (fun r => ltK d N (ops2K P tb inl yl N cx.off all KP rest ((d, .gd c r) :: L) H K)) o.op) → wpListIn (FR r) 0 P all.toArray Q (o :: rest) a w := fun hh => by
    obtain ⟨d, hd, hh⟩ := jaL hh
    have hnd := jci hh
    obtain ⟨r', hr, hv⟩ := jeg htb hh
    obtain ⟨hlt, hK⟩ := jcX hr
    unfold wpListIn
    by_cases hwt : Region.wanted o (yielded all.toArray a.tmps) = true
    ·rw [if_pos hwt]
     have hct := hc'.2 (hw.1 hwt)
     obtain ⟨v, h1, h2⟩ := hv E h a w S.facts hct
     refine jbk r hnd ?_
     unfold Oper.wp
     rw [h1]
     simp only [Oper.upon, hd]
     exact jaO htb hin hyl hK hN hP hQ E h _ w (by rw [jaz]; exact hn) (S.put (by omega) (by simp only [Den]; exact ⟨fun _ => h2, fun e => by rw [hct] at e; cases e⟩))
    ·rw [if_neg hwt]
     have hct : c = false := by
      cases hcc : c with
      | false => rfl
      | true => exact absurd (hw.2 (hc'.1 hcc)) hwt
     rw [hd]
     exact ⟨fun _ _ => trivial, jaO htb hin hyl hK hN hP hQ E h _ w (by rw [jaz]; exact hn) (S.put (by omega) (by simp only [Den]; exact ⟨fun e => absurd (hct.symm.trans e) (by decide), fun _ => by trivial⟩))⟩
   split at hh
   ·unfold wpListIn
    cases hh with
    | yes hct hh =>
     rw [if_pos (hw.2 (hc'.1 hct))]
     refine op2_el htb hin hyl hh E h a w (by omega) S (fun c L' H' E' h' a' w' hK hs S' => hP c L' H' E' h' a' w' hK (by omega) S') _ fun L' H' E' h' a' w' hK hs S' => ?_
     exact jaO htb hin hyl hK hN hP hQ E' h' a' w' (by omega) S'
    | no hct hh =>
     have hwt : ¬ Region.wanted o (yielded all.toArray a.tmps) = true := fun hwt => by
      have := hc'.2 (hw.1 hwt)
      rw [hct] at this; cases this
     rw [if_neg hwt]
     refine ⟨fun _ _ => trivial, ?_⟩
     unfold skipK at hh
     cases hd : o.dst with
     | none =>
      rw [hd] at hh
      exact jaO htb hin hyl hh hN hP hQ E h _ w (by rw [jaz]; exact hn) S
     | some d =>
      rw [hd] at hh
      obtain ⟨hlt, hK⟩ := jcX hh
      exact jaO htb hin hyl hK hN hP hQ E h _ w (by rw [jaz]; exact hn) (S.put (by omega) (by simp only [Den]))
   split at hh
   ·rename_i cl ho
    obtain ⟨callee, args, ts⟩ := cl
    dsimp only at hh
    split at hh
    ·obtain ⟨L'', H', hK, hcl⟩ := jhK (P := P) (Q := Q) (cx := cx) ho (fun _ _ _ _ hg hd => by simp only [Den]; exact ⟨fun _ => hd, fun e => by rw [hg] at e; cases e⟩)
      (fun _ _ _ hg => by simp only [Den]; exact ⟨fun e => absurd e hg, fun _ => by trivial⟩) hh
     obtain ⟨hcl1, hcl2⟩ := hcl E h a w (by omega) S
     unfold wpListIn
     by_cases hwt : Region.wanted o (yielded all.toArray a.tmps) = true
     ·rw [if_pos hwt]
      have hct := hc'.2 (hw.1 hwt)
      exact jbk r (fun c e => by rw [ho] at e; cases e) (hcl1 hct _ fun h' a' w' hs' S' => jaO htb hin hyl hK hN hP hQ E h' a' w' (by omega) S')
     ·rw [if_neg hwt]
      have hct : ¬ c = true := fun hcc => hwt (hw.2 (hc'.1 hcc))
      obtain ⟨h', S'⟩ := hcl2 hct
      exact ⟨fun _ _ => trivial, jaO htb hin hyl hK hN hP hQ E h' _ w (by rw [jaz]; exact hn) S'⟩
    ·exact quietCase hh
   ·exact quietCase hh
end
end Go.V
end
section
namespace Go.V
open Go Go.RowKit
def jaR (o : Oper) : List Nat := o.after.toList.filterMap fun e => match Region.binds .any e with | true => some e.on | false => none
mutual
inductive Plan where
  | done
  | take (i : Nat) (p : Plan)
  | ev (bs : Brs)
  | goto (k : Nat)
inductive Brs where
  | nil
  | cons (j : Nat) (pend : List Nat) (p : Plan) (bs : Brs)
end
structure Nd where
 rem : List Nat
 pend : List Nat
 plan : Plan
def Plan.isGo : Plan → Bool
 | .goto _ => true
 | _ => false
def eqNs : List Nat → List Nat → Bool
 | [], [] => true
 | a :: as, b :: bs => Nat.beq a b && eqNs as bs
 | _, _ => false
theorem eqNs_eq : ∀ {as bs : List Nat}, eqNs as bs = true → as = bs
 | [], [], _ => rfl
 | a :: as, b :: bs, h => by
  simp only [eqNs, jh9] at h
  rw [Nat.eq_of_beq_eq_true h.1, eqNs_eq h.2]
 | [], _ :: _, h => by simp [eqNs] at h
 | _ :: _, [], h => by simp [eqNs] at h
def jfn : List Operand → List Nat
 | [] => []
 | .tmp t :: xs => t :: jfn xs
 | _ :: xs => jfn xs
def looks (all : List Oper) (o : Oper) : List Nat := jfn o.op.operands.toList ++ (match o.guard with
  | some (g, _) => (match all[g]? with | some og => (match og.dst with | some d => [d] | none => []) | none => [])
  | none => [])
def ancGo : List Oper → List Nat → List Nat
 | [], acc => acc
 | o :: os, acc => ancGo os (acc ++ [(jaR o).foldl (fun s d => s ||| (1 <<< d) ||| acc.getD d 0) 0])
inductive Anc (all : List Oper) : Nat → Nat → Prop where
  | one {i j : Nat} {o : Oper} (h : all[j]? = some o) (hd : i ∈ jaR o) : Anc all j i
  | step {i j d : Nat} {o : Oper} (h : all[j]? = some o) (hd : d ∈ jaR o) (ha : Anc all d i) : Anc all j i
theorem anc_fold {all : List Oper} {acc : List Nat} (hacc : ∀ (j m : Nat), acc[j]? = some m → ∀ i, m.testBit i = true → Anc all j i) {k : Nat} {o : Oper} (ho : all[k]? = some o) :
  ∀ (ds : List Nat) (s : Nat), (∀ d ∈ ds, d ∈ jaR o) → (∀ i, s.testBit i = true → Anc all k i) → ∀ i, (ds.foldl (fun s d => s ||| (1 <<< d) ||| acc.getD d 0) s).testBit i = true → Anc all k i
 | [], s, _, hs, i, hi => hs i hi
 | d :: ds, s, hds, hs, i, hi => by
  refine anc_fold hacc ho ds _ (fun x hx => hds x (by simp [hx])) (fun x hx => ?_) i hi
  rw [Nat.testBit_or, Nat.testBit_or] at hx
  simp only [Bool.or_eq_true] at hx
  rcases hx with (hx | hx) | hx
  ·exact hs x hx
  ·rw [Nat.testBit_shiftLeft] at hx
   simp only [jh9, decide_eq_true_eq] at hx
   have : x = d := by
    have h2 := hx.2
    rw [Nat.testBit_one_eq_true_iff_self_eq_zero] at h2
    omega
   subst this
   exact .one ho (hds x (by simp))
  ·cases hd : acc[d]? with
   | none => rw [jiJ, hd] at hx; simp at hx
   | some m =>
    rw [jiJ, hd] at hx
    exact .step ho (hds d (by simp)) (hacc d m hd x hx)
theorem ancGo_ok {all : List Oper} : ∀ (os : List Oper) (acc : List Nat) (k : Nat), k = acc.length → all.drop k = os → (∀ (j m : Nat), acc[j]? = some m → ∀ i, m.testBit i = true → Anc all j i) →
  ∀ (j m : Nat), (ancGo os acc)[j]? = some m → ∀ i, m.testBit i = true → Anc all j i
 | [], acc, k, _, _, hacc, j, m, hj, i, hi => hacc j m hj i hi
 | o :: os, acc, k, hk, hdr, hacc, j, m, hj, i, hi => by
  have ho : all[k]? = some o := by
   have := congrArg (fun l => l[0]?) hdr
   simpa using this
  refine ancGo_ok os _ (k + 1) (by simp [hk]) ?_ ?_ j m hj i hi
  ·rw [← List.drop_drop, hdr]; rfl
  ·intro j' m' hj' i' hi'
   by_cases hlt : j' < acc.length
   ·rw [jiS hlt] at hj'
    exact hacc j' m' hj' i' hi'
   ·rw [List.getElem?_append_right (by omega)] at hj'
    have : j' - acc.length = 0 := by
     have := (jiT.1 hj').1
     simp at this; omega
    rw [this] at hj'
    simp at hj'
    subst hj'
    have : j' = k := by omega
    subst this
    exact anc_fold hacc ho (jaR o) 0 (fun _ h => h) (fun i h => by simp at h) i' hi'
def ancs (all : List Oper) : List Nat := ancGo all []
theorem ancs_ok {all : List Oper} {j i : Nat} (h : ((ancs all).getD j 0).testBit i = true) : Anc all j i := by
 cases hd : (ancs all)[j]? with
 | none => rw [jiJ, hd] at h; simp at h
 | some m =>
  rw [jiJ, hd] at h
  exact ancGo_ok all [] 0 rfl (by simp) (by simp) j m hd i h
def memB (i : Nat) (l : List Nat) : Bool := l.any (Nat.beq i)
theorem jcl {i : Nat} {l : List Nat} : memB i l = true ↔ i ∈ l := by
 simp only [memB, List.any_eq_true]
 constructor
 ·rintro ⟨x, hx, h⟩; rw [jae h]; exact hx
 ·intro h; exact ⟨i, h, Nat.beq_refl i⟩
def ssaB (all : List Oper) (as : List Nat) (i : Nat) : Bool := match all[i]? with
 | none => false
 | some o => match o.dst with
  | none => false
  | some d => !memB d (looks all o) && all.zipIdx.all fun (oj, j) => Nat.beq j i || !(memB d (looks all oj) || (match oj.dst with | some d' => Nat.beq d d' | none => false)) || (as.getD j 0).testBit i
mutual
def planB (all : List Oper) (as : List Nat) (ns : List Nd) : List Nat → List Nat → Plan → Bool
  | rem, _, .done => rem.isEmpty
  | rem, pend, .take i p => memB i rem && ssaB all as i && (match all[i]? with
      | none => false
      | some o => (jaR o).all (fun d => !memB d rem)) && planB all as ns (rem.filter fun j => !Nat.beq j i) (i :: pend) p
  | rem, pend, .ev bs => !rem.isEmpty && rem.all (fun i => jfK i bs || (match all[i]? with
      | none => true
      | some o => (jaR o).any (fun d => memB d rem))) && brsB all as ns rem pend bs
  | rem, pend, .goto k => match ns[k]? with
    | none => false
    | some nd => eqNs rem nd.rem && pend.all (fun q => memB q nd.pend)
def jfK (i : Nat) : Brs → Bool
  | .nil => false
  | .cons j _ _ bs => Nat.beq i j || jfK i bs
def brsB (all : List Oper) (as : List Nat) (ns : List Nd) : List Nat → List Nat → Brs → Bool
  | _, _, .nil => true
  | rem, pend, .cons j pend' p bs => memB j rem && pend.all (fun q => memB q pend' || (as.getD j 0).testBit q) && planB all as ns (rem.filter fun i => !Nat.beq i j) pend' p && brsB all as ns rem pend bs
end
def textB (all : List Oper) : Bool := all.zipIdx.all fun (o, i) => (jaR o).all (fun d => Nat.blt d i)
structure PlanOk (P : Program) (all : List Oper) (ns : List Nd) (p : Plan) : Prop where
 mixed : P.follows .mixedOrders = true
 text : textB all = true
 plan : planB all (ancs all) ns (List.range all.length) [] p = true
 nds : ns.all (fun nd => !nd.plan.isGo && planB all (ancs all) ns nd.rem nd.pend nd.plan) = true
structure Same (r d : D) : Prop where
 eq : r = d
def restrK : List Nat → Sl → (Sl → Prop) → Prop
 | [], _, K => K []
 | t :: ts, L, K => lookK L t fun d => restrK ts L fun R => K ((t, d) :: R)
def restr : List Nat → Sl → Sl
 | [], _ => []
 | t :: ts, L => (t, look L t) :: restr ts L
theorem restrK_eq (ts : List Nat) (L : Sl) (K : Sl → Prop) : restrK ts L K = K (restr ts L) := by
 induction ts generalizing K with
 | nil => rfl
 | cons t ts ih => simp only [restrK, restr, jbz, ih]
theorem look_restr {ts : List Nat} {L : Sl} {t : Nat} : look (restr ts L) t = if t ∈ ts then look L t else .any := by
 induction ts with
 | nil => simp [restr, look]
 | cons s ts ih =>
  rw [restr, jaI, ih]
  by_cases h : s = t
  ·subst h; simp
  ·have h' : ¬ t = s := fun e => h e.symm
   simp [h, h']
def aheadK (tb : Tb) (all : List Oper) (o : Oper) (L : Sl) (H : Hp) (K : D → Prop) : Prop := restrK (looks all o) L fun R => match o.guard with
 | none => quiet tb True R H K o.op
 | some (j, want) => nthO all j fun oj => someK oj.dst fun s => lookK R s fun ds => condK want ds fun c => quiet tb (c = true) R H (fun r => K (.gd c r)) o.op
def jbf (tb : Tb) (all : List Oper) : List Nat → Sl → Hp → Prop → Prop
 | [], _, _, K => K
 | q :: qs, L, H, K => (nthO all q fun o => someK o.dst fun d => lookK L d fun D => aheadK tb all o L H fun r => Same r D) ∧ jbf tb all qs L H K
mutual
def drawK (P : Program) (tb : Tb) (inl : Inl) (yl : Yl) (N off : Nat) (all : List Oper) (KP : KPan) (gt : Nat → Sl → Hp → Prop) : Plan → Sl → Hp → K2 → Prop
 | .done, L, H, K => K L H
 | .take i p, L, H, K => nthO all i fun o => someK o.dst fun d => aheadK tb all o L H fun D => ltK d N (drawK P tb inl yl N off all KP gt p ((d, D) :: L) H K)
 | .ev bs, L, H, K => je3 P tb inl yl N off all KP gt bs L H K
 | .goto k, L, H, _ => gt k L H
def je3 (P : Program) (tb : Tb) (inl : Inl) (yl : Yl) (N off : Nat) (all : List Oper) (KP : KPan) (gt : Nat → Sl → Hp → Prop) : Brs → Sl → Hp → K2 → Prop
 | .nil, _, _, _ => True
 | .cons j pend p bs, L, H, K => (nthO all j fun o => ops2K P tb inl yl N off all (fun c _ H => KP c [] H) [o] L H fun L' H' => jbf tb all pend L' H' (drawK P tb inl yl N off all KP gt p L' H' K)) ∧ je3 P tb inl yl N off all KP gt bs L H K
end
end Go.V
end
