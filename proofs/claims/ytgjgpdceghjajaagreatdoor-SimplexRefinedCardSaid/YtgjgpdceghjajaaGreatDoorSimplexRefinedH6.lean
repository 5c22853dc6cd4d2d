/- Laws of a small interpreter over plain values, part 6. No condition. -/
import Derived.Test.YtgjgpdceghjajaaGreatDoorSimplexRefinedH5
set_option linter.unusedSimpArgs false
set_option linter.unusedVariables false
set_option maxHeartbeats 8000000
set_option maxRecDepth 100000
section
namespace Go.V
open Go Go.RowKit
def Env.set (E : Env) (i b s n : Nat) : Env := ⟨fun j => if j = i then b else E.blk j, fun j => if j = i then s else E.siz j, fun j => if j = i then n else E.kn j, fun j => if j = i then true else E.real j, E.lpr⟩
theorem Env.off_set (E : Env) (i b s n : Nat) : E.off (E.set i b s n) i := fun j hj => by simp [Env.set, hj]
theorem Env.set_blk (E : Env) (i b s n : Nat) : (E.set i b s n).blk i = b := by simp [Env.set]
theorem Env.set_siz (E : Env) (i b s n : Nat) : (E.set i b s n).siz i = s := by simp [Env.set]
theorem Env.set_real (E : Env) (i b s n : Nat) : (E.set i b s n).real i = true := by simp [Env.set]
theorem Env.set_real_ne (E : Env) {i j : Nat} (b s n : Nat) (h : j ≠ i) : (E.set i b s n).real j = E.real j := by simp [Env.set, h]
theorem Env.set_kn (E : Env) (i b s n : Nat) : (E.set i b s n).kn i = n := by simp [Env.set]
theorem Env.set_blk_ne (E : Env) {i j : Nat} (b s n : Nat) (h : j ≠ i) : (E.set i b s n).blk j = E.blk j := by simp [Env.set, h]
def purge (i : Nat) : Sl → Sl
 | [] => []
 | (t, d) :: L => (t, match D.free i d with | true => d | false => .any) :: purge i L
def jd2 (i : Nat) : Sl → (Sl → Prop) → Prop
 | [], K => K []
 | (t, d) :: L, K => match D.free i d with
  | true => jd2 i L fun L' => K ((t, d) :: L')
  | false => jd2 i L fun L' => K ((t, .any) :: L')
theorem jdm (i : Nat) (L : Sl) (K : Sl → Prop) : jd2 i L K = K (purge i L) := by
 induction L generalizing K with
 | nil => rfl
 | cons x L ih =>
  obtain ⟨t, d⟩ := x
  simp only [jd2, purge]
  cases D.free i d <;> simp [ih]
def jc2 (i : Nat) : List D → List D
 | [] => []
 | d :: ds => (match D.free i d with | true => d | false => .any) :: jc2 i ds
def jdn (i : Nat) : List D → (List D → Prop) → Prop
 | [], K => K []
 | d :: ds, K => match D.free i d with
  | true => jdn i ds fun ds' => K (d :: ds')
  | false => jdn i ds fun ds' => K (.any :: ds')
theorem jg7 (i : Nat) (ds : List D) (K : List D → Prop) : jdn i ds K = K (jc2 i ds) := by
 induction ds generalizing K with
 | nil => rfl
 | cons d ds ih =>
  simp only [jdn, jc2]
  cases D.free i d <;> simp [ih]
def jb5 (i : Nat) : Chunk → Chunk
 | .box ds => .box (jc2 i ds)
 | .arr k xs => .arr k xs
 | .gone => .gone
 | .lp p => .lp p
theorem ja8 (i : Nat) (c : Chunk) : (jb5 i c).live = c.live := by cases c <;> rfl
def jaE (i : Nat) : Hp → Hp
 | [] => []
 | (j, c) :: H => (j, jb5 i c) :: jaE i H
def jbW (i : Nat) : Hp → (Hp → Prop) → Prop
 | [], K => K []
 | (j, c) :: H, K => match c with
  | .box ds => jdn i ds fun ds' => jbW i H fun H' => K ((j, .box ds') :: H')
  | .arr k xs => jbW i H fun H' => K ((j, .arr k xs) :: H')
  | .gone => jbW i H fun H' => K ((j, .gone) :: H')
  | .lp p => jbW i H fun H' => K ((j, .lp p) :: H')
theorem jcL (i : Nat) (H : Hp) (K : Hp → Prop) : jbW i H K = K (jaE i H) := by
 induction H generalizing K with
 | nil => rfl
 | cons x L ih =>
  obtain ⟨t, d⟩ := x
  cases d <;> simp [jbW, jaE, jb5, jg7, ih]
theorem jbF {i : Nat} {L : Sl} {t : Nat} {E E' : Env} {h : Pub} {v : Value} (he : E.off E' i) (H : Den E h (look L t) v) : Den E' h (look (purge i L) t) v := by
 induction L with
 | nil => simp [purge, look, Den]
 | cons x L ih =>
  obtain ⟨s, d⟩ := x
  simp only [purge]
  rw [jaI] at H ⊢
  split
  ·rename_i hs
   rw [if_pos hs] at H
   cases hf : D.free i d with
   | true => exact Den.env he hf H
   | false => simp [Den]
  ·rename_i hs
   rw [if_neg hs] at H
   exact ih H
theorem ja9 {i : Nat} {H : Hp} {j : Nat} {c : Chunk} (h : lookH (jaE i H) j = some c) : ∃ c0, lookH H j = some c0 ∧ c = jb5 i c0 := by
 induction H with
 | nil => simp [jaE, lookH] at h
 | cons x H ih =>
  obtain ⟨s, d⟩ := x
  simp only [jaE] at h
  rw [jag] at h ⊢
  split
  ·rename_i hs
   rw [if_pos hs] at h
   exact ⟨d, rfl, (Option.some.inj h).symm⟩
  ·rename_i hs
   rw [if_neg hs] at h
   exact ih h
theorem jfH {E E' : Env} {h : Pub} {i : Nat} (he : E.off E' i) : ∀ {ds : List D} {vs : List Value}, DenL E h ds vs → DenL E' h (jc2 i ds) vs
 | [], _, H => by simpa [DenL, jc2] using H
 | d :: ds, vs, H => by
  simp only [DenL, jc2] at H ⊢
  obtain ⟨v, vs', h1, h2, h3⟩ := H
  refine ⟨v, vs', h1, ?_, jfH he h3⟩
  cases hf : D.free i d with
  | true => exact Den.env he hf h2
  | false => simp [Den]
theorem ChunkOk.env {E E' : Env} {h : Pub} {w : World} {i j : Nat} {c : Chunk} (he : E.off E' i) (hj : j ≠ i) (H : ChunkOk E h w j c) : ChunkOk E' h w j (jb5 i c) := by
 cases c with
 | gone => trivial
 | box ds =>
  obtain ⟨h0, vs, rest, T, h1, h2, h3, h4⟩ := H
  exact ⟨by rw [(he j hj).2.2.2.1]; exact h0, vs, rest, T, by rw [(he j hj).1]; exact h1, jfH he h2, h3, by rw [(he j hj).2.1]; exact h4⟩
 | arr k xs =>
  simp only [ChunkOk, jb5] at H ⊢
  rw [(he j hj).1, (he j hj).2.1, (he j hj).2.2.1, (he j hj).2.2.2.1]; exact H
 | lp p =>
  simp only [ChunkOk, jb5] at H ⊢
  rw [(he j hj).1, (he j hj).2.2.2.1, (he j hj).2.2.2.2]; exact H
theorem ChunkOk.heap {E : Env} {h : Pub} {w w' : World} {j : Nat} {c : Chunk} (hb : w'.heap[E.blk j]? = w.heap[E.blk j]?) (H : ChunkOk E h w j c) : ChunkOk E h w' j c := by
 cases c with
 | gone => trivial
 | box ds =>
  obtain ⟨h0, vs, rest, T, h1, h2, h3⟩ := H
  exact ⟨h0, vs, rest, T, by rw [hb]; exact h1, h2, h3⟩
 | arr k xs =>
  simp only [ChunkOk] at H ⊢
  rw [hb]; exact H
 | lp p =>
  simp only [ChunkOk] at H ⊢
  rw [hb]; exact H
theorem ChunkOk.virt {E : Env} {h : Pub} {w w' : World} {j : Nat} {c : Chunk} (hr : E.real j = false) (H : ChunkOk E h w j c) : ChunkOk E h w' j c := by
 cases c with
 | gone => trivial
 | box ds => exact absurd H.1 (by rw [hr]; decide)
 | arr k xs =>
  rcases H with H | H
  ·exact .inl H
  ·exact absurd H.1 (by rw [hr]; decide)
 | lp p => exact absurd H.1 (by rw [hr]; decide)
theorem ChunkOk.keep {E : Env} {h : Pub} {w w' : World} {j : Nat} {c : Chunk} (hb : c.live = true → E.real j = true → w'.heap[E.blk j]? = w.heap[E.blk j]?) (H : ChunkOk E h w j c) : ChunkOk E h w' j c := by
 cases hl : c.live with
 | false => cases c <;> first | trivial | simp [Chunk.live] at hl
 | true =>
  cases hr : E.real j with
  | false => exact H.virt hr
  | true => exact H.heap (hb hl hr)
theorem ChunkOk.mono {E : Env} {h h' : Pub} {w : World} {j : Nat} {c : Chunk} (hh : h.Le h') (H : ChunkOk E h w j c) : ChunkOk E h' w j c := by
 cases c with
 | gone => trivial
 | box ds =>
  obtain ⟨h0, vs, rest, T, h1, h2, h3⟩ := H
  exact ⟨h0, vs, rest, T, h1, DenL.mono hh h2, h3⟩
 | arr k xs => exact H
 | lp p => exact H
theorem ChunkOk.lt {E : Env} {h : Pub} {w : World} {j : Nat} {c : Chunk} (hl : c.live = true) (hr : E.real j = true) (H : ChunkOk E h w j c) : E.blk j < w.heap.size := by
 cases c with
 | gone => simp [Chunk.live] at hl
 | box ds => obtain ⟨_, vs, rest, T, h1, _⟩ := H; exact (Array.getElem?_eq_some_iff.1 h1).1
 | arr k xs => obtain ⟨r, T, h1, _⟩ := jaZ hr H; exact (Array.getElem?_eq_some_iff.1 h1).1
 | lp p => obtain ⟨_, r, _, h1⟩ := H; exact (Array.getElem?_eq_some_iff.1 h1).1
theorem ChunkOk.cells {E : Env} {h : Pub} {w : World} {j : Nat} {c : Chunk} (hl : c.cel = true) (hr : E.real j = true) (H : ChunkOk E h w j c) : ∃ cs T f, w.heap[E.blk j]? = some (.cells cs T f) := by
 cases c with
 | gone => simp [Chunk.cel] at hl
 | lp p => simp [Chunk.cel] at hl
 | box ds => obtain ⟨_, vs, rest, T, h1, _⟩ := H; exact ⟨_, _, _, h1⟩
 | arr k xs => obtain ⟨r, T, h1, _⟩ := jaZ hr H; exact ⟨_, _, _, h1⟩
theorem Agree.lt {h : Pub} {w : World} (ha : Agree h w) {b o : Nat} {v : Value} (hv : h b o = some v) : b < w.heap.size :=
 World.block_lt_of_cell? (w := w) (a := ⟨b, o, none⟩) (ha b o v hv)
section
variable {cx : Cx} {E : Env} {h : Pub} {a : Act} {w : World} {L : Sl} {H : Hp}
theorem jeM {cx : Cx} {E E' : Env} {i : Nat} (hl : ∀ j, j < cx.off → E.blk j = cx.E0.blk j ∧ E.siz j = cx.E0.siz j ∧ E.kn j = cx.E0.kn j ∧ E.real j = cx.E0.real j ∧ E.lpr j = cx.E0.lpr j) (he : E.off E' i) (ho : cx.off ≤ i) :
  ∀ j, j < cx.off → E'.blk j = cx.E0.blk j ∧ E'.siz j = cx.E0.siz j ∧ E'.kn j = cx.E0.kn j ∧ E'.real j = cx.E0.real j ∧ E'.lpr j = cx.E0.lpr j := fun j hj => by
 obtain ⟨h1, h2, h3, h4, h5⟩ := he j (by omega)
 rw [h1, h2, h3, h4, h5]; exact hl j hj
theorem Sat.facts (S : Sat cx E h a w L H) : Facts E h a w L H := ⟨S.knows, fun i c hc => S.mem.ok i c hc, S.agree⟩
theorem jcR (a : Act) (d t : Nat) (v : Value) : (a.put (some d) v).tmps.getD t Go.undef = if d = t ∧ d < a.tmps.size then v else a.tmps.getD t Go.undef := by
 simp only [Act.put, Array.getD_eq_getD_getElem?, Array.getElem?_setIfInBounds]
 by_cases h : d = t
 ·subst h
  by_cases h2 : d < a.tmps.size
  ·simp [h2]
  ·simp [h2]
 ·simp [h]
theorem jcE {E : Env} {h : Pub} {a : Act} {L : Sl} (hk : ∀ t, Den E h (look L t) (a.tmps.getD t Go.undef)) {d : Nat} {r : D} {v : Value} (hd : d < a.tmps.size) (hv : Den E h r v) :
  ∀ t, Den E h (look ((d, r) :: L) t) ((a.put (some d) v).tmps.getD t Go.undef) := by
 intro t
 rw [jaI, jcR]
 by_cases e : d = t
 ·rw [if_pos e, if_pos ⟨e, hd⟩]; exact hv
 ·rw [if_neg e, if_neg (fun x => e x.1)]; exact hk t
theorem Sat.put (S : Sat cx E h a w L H) {d : Nat} {r : D} {v : Value} (hd : d < a.tmps.size) (hv : Den E h r v) : Sat cx E h (a.put (some d) v) w ((d, r) :: L) H :=
  { knows := jcE S.knows hd hv
    mem := S.mem, agree := S.agree, since := S.since, low := S.low, side := S.side }
theorem Agree.of_blocks {h : Pub} {w w' : World} (ha : Agree h w) (hb : ∀ b, (∃ o v, h b o = some v) → w'.heap[b]? = w.heap[b]?) : Agree h w' := ⟨fun b o v hv => by
 rw [World.cell?_of_block (w := w) (hb b ⟨o, v, hv⟩)]; exact ha b o v hv, ha.glob, ⟨fun g vs hg => by
 obtain ⟨h1, T, f, h2⟩ := ha.blk.1 g vs hg
 obtain ⟨v, hv⟩ : ∃ v, vs[0]? = some v := by cases vs with | nil => exact absurd rfl h1 | cons v r => exact ⟨v, rfl⟩
 exact ⟨h1, T, f, (hb g ⟨0, v, ha.glob g vs hg 0 v hv⟩).trans h2⟩, fun g hg => by
 obtain ⟨tp, p, T, f, h2⟩ := ha.blk.2 g hg
 obtain ⟨v, hv⟩ := ha.errs g hg
 exact ⟨tp, p, T, f, (hb g ⟨0, v, hv⟩).trans h2⟩⟩, ha.errs⟩
theorem Sat.world (S : Sat cx E h a w L H) {w' : World} (hb : Below w.heap.size w w') : Sat cx E h a w' L H :=
  { knows := S.knows
    mem :=
      { ok := fun i c hc => (S.mem.ok i c hc).keep fun hl hr => hb.block _ ((S.mem.ok i c hc).lt hl hr)
        base := S.mem.base, unpub := S.mem.unpub, inj := S.mem.inj }
    agree := S.agree.of_blocks fun b ⟨_, _, hv⟩ => hb.block b (S.agree.lt hv)
    since := ⟨S.since.below.trans (hb.mono S.since.below.size), S.since.le, S.since.old⟩
    low := S.low
    side := S.side.below hb }
theorem Sat.alloc (S : Sat cx E h a w L H) {i : Nat} {r : D} {c : Chunk} {v : Value} {w' : World} {s n : Nat}
  (hb : Below w.heap.size w w')
  (hc : ChunkOk (E.set i w.heap.size s n) h w' i c) {d : Nat} (hi : d < a.tmps.size) (ho : cx.off ≤ i) (hv : Den (E.set i w.heap.size s n) h r v) :
  Sat cx (E.set i w.heap.size s n) h (a.put (some d) v) w' ((d, r) :: purge i L) ((i, c) :: jaE i H) := by
 have hoff := E.off_set i w.heap.size s n
 have hsz : cx.w0.heap.size ≤ w.heap.size := S.since.below.size
 have live : ∀ j c', j ≠ i → lookH ((i, c) :: jaE i H) j = some c' → c'.live = true → ∃ c0, lookH H j = some c0 ∧ c' = jb5 i c0 ∧ c0.live = true := by
  intro j c' hj hc' hl
  rw [jag, if_neg (Ne.symm hj)] at hc'
  obtain ⟨c0, h1, h2⟩ := ja9 hc'
  exact ⟨c0, h1, h2, by rw [h2, ja8] at hl; exact hl⟩
 refine { knows := ?_, mem := ?_, agree := ?_, since := ?_, low := fun j hj => jeM S.low hoff ho j hj, side := S.side.below hb }
 ·exact jcE (fun t => jbF hoff (S.knows t)) hi hv
 ·refine { ok := ?_, base := ?_, unpub := ?_, inj := ?_ }
  ·intro j c' hc'
   by_cases hj : j = i
   ·subst hj; rw [jag, if_pos rfl] at hc'; cases hc'; exact hc
   ·cases hl : c'.live with
    | false => cases c' <;> first | trivial | (simp [Chunk.live] at hl)
    | true =>
     obtain ⟨c0, h1, rfl, hl'⟩ := live j c' hj hc' hl
     have h4 := S.mem.ok j _ h1
     refine ChunkOk.env hoff hj (h4.keep fun hl hr => hb.block _ (h4.lt hl hr))
  ·intro j c' hc' hl hr
   by_cases hj : j = i
   ·subst hj; rw [Env.set_blk]; exact hsz
   ·obtain ⟨c0, h1, rfl, hl'⟩ := live j c' hj hc' hl
    rw [E.set_real_ne _ _ _ hj] at hr
    rw [E.set_blk_ne _ _ _ hj]; exact S.mem.base j _ h1 hl' hr
  ·intro j c' hc' hl hr o
   by_cases hj : j = i
   ·subst hj
    rw [Env.set_blk]
    cases ho : h w.heap.size o with
    | none => rfl
    | some v' => exact absurd (S.agree.lt ho) (Nat.lt_irrefl _)
   ·obtain ⟨c0, h1, rfl, hl'⟩ := live j c' hj hc' hl
    rw [E.set_real_ne _ _ _ hj] at hr
    rw [E.set_blk_ne _ _ _ hj]; exact S.mem.unpub j _ h1 hl' hr o
  ·intro j k c1 c2 hjk h1 h2 l1 l2 r1 r2
   by_cases hj : j = i
   ·subst hj
    obtain ⟨c0, g1, rfl, l2'⟩ := live k c2 (Ne.symm hjk) h2 l2
    rw [E.set_real_ne _ _ _ (Ne.symm hjk)] at r2
    rw [Env.set_blk, E.set_blk_ne _ _ _ (Ne.symm hjk)]
    have := (S.mem.ok k _ g1).lt l2' r2
    omega
   ·obtain ⟨c0, g1, rfl, l1'⟩ := live j c1 hj h1 l1
    by_cases hk : k = i
    ·subst hk
     rw [E.set_real_ne _ _ _ hj] at r1
     rw [Env.set_blk, E.set_blk_ne _ _ _ hj]
     have := (S.mem.ok j _ g1).lt l1' r1
     omega
    ·obtain ⟨c0', g2, rfl, l2'⟩ := live k c2 hk h2 l2
     rw [E.set_real_ne _ _ _ hj] at r1
     rw [E.set_real_ne _ _ _ hk] at r2
     rw [E.set_blk_ne _ _ _ hj, E.set_blk_ne _ _ _ hk]
     exact S.mem.inj j k _ _ hjk g1 g2 l1' l2' r1 r2
 ·exact S.agree.of_blocks fun b ⟨_, _, hv⟩ => hb.block b (S.agree.lt hv)
 ·exact ⟨S.since.below.trans (hb.mono S.since.below.size), S.since.le, S.since.old⟩
theorem Sat.write (S : Sat cx E h a w L H) {i : Nat} {c c' : Chunk} {w' : World} (hc : lookH H i = some c) (hl : c.live = true) (hr : E.real i = true)
  (ho : w'.os = w.os) (ht : w'.tape = w.tape) (hout : w'.output = w.output) (hsz : w'.heap.size = w.heap.size) (hb : ∀ b, b ≠ E.blk i → w'.heap[b]? = w.heap[b]?)
  (hc' : ChunkOk E h w' i c') (hcel : c.cel = true := by rfl) : Sat cx E h a w' L ((i, c') :: H) := by
 have hbase := S.mem.base i c hc hl hr
 refine { knows := S.knows, mem := ?_, agree := ?_, since := ?_, low := S.low, side := S.side.keep fun b o hbo hno => ?_ }
 ·refine { ok := ?_, base := ?_, unpub := ?_, inj := ?_ }
  ·intro j d hd
   rw [jag] at hd
   split at hd
   ·rename_i e; subst e; cases hd; exact hc'
   ·rename_i e
    exact (S.mem.ok j d hd).keep fun hld hrd => hb _ (S.mem.inj j i d c (Ne.symm e) hd hc hld hl hrd hr)
  ·intro j d hd hld hrd
   rw [jag] at hd
   split at hd
   ·rename_i e; subst e; exact hbase
   ·exact S.mem.base j d hd hld hrd
  ·intro j d hd hld hrd o
   rw [jag] at hd
   split at hd
   ·rename_i e; subst e; exact S.mem.unpub i c hc hl hr o
   ·exact S.mem.unpub j d hd hld hrd o
  ·intro j k c1 c2 hjk h1 h2 l1 l2 r1 r2
   rw [jag] at h1 h2
   split at h1
   ·rename_i e; subst e
    rw [if_neg hjk] at h2
    exact S.mem.inj i k c c2 hjk hc h2 hl l2 r1 r2
   ·split at h2
    ·rename_i e; subst e
     exact S.mem.inj j i c1 c hjk h1 hc l1 hl r1 r2
    ·exact S.mem.inj j k c1 c2 hjk h1 h2 l1 l2 r1 r2
 ·refine S.agree.of_blocks fun b ⟨o, v, hv⟩ => hb b (fun e => ?_)
  subst e
  rw [S.mem.unpub i c hc hl hr o] at hv; cases hv
 ·refine ⟨S.since.below.trans ⟨ho, ht, hout, by omega, fun k hk => hb k (by omega)⟩, S.since.le, S.since.old⟩
 ·rw [hb b (fun e => ?_)]
  ·exact hbo
  ·subst e
   obtain ⟨cs, T, f, hcell⟩ := (S.mem.ok i c hc).cells hcel hr
   rw [hcell] at hbo; cases hbo; cases hno
end
end Go.V
end
section
namespace Go.V
open Go Go.RowKit
abbrev K2 := Sl → Hp → Prop
def ltK (d N : Nat) (K : Prop) : Prop := match Nat.blt d N with | true => K | false => False
theorem jcX {d N : Nat} {K : Prop} (h : ltK d N K) : d < N ∧ K := by
 unfold ltK at h
 cases hb : Nat.blt d N with
 | true => rw [hb] at h; exact ⟨by have := jia hb; omega, h⟩
 | false => rw [hb] at h; exact h.elim
def newK (off d : Nat) (r : D) (c : Chunk) (L : Sl) (H : Hp) (K : K2) : Prop :=
 jd2 (off + d) L fun L' => jbW (off + d) H fun H' => K ((d, r) :: L') ((off + d, c) :: H')
theorem jf7 (off d : Nat) (r : D) (c : Chunk) (L : Sl) (H : Hp) (K : K2) : newK off d r c L H K = K ((d, r) :: purge (off + d) L) ((off + d, c) :: jaE (off + d) H) := by
 unfold newK; rw [jdm, jcL]
def jc4 (k : IntKind) : List D → (List Int → Prop) → Prop
 | [], K => K []
 | .int k' n :: ds, K => match kE k k' with | true => jc4 k ds fun xs => K (n :: xs) | false => False
 | _ :: _, _ => False
theorem jdw {k : IntKind} {ds : List D} {K : List Int → Prop} (hh : jc4 k ds K) :
  ∃ xs, K xs ∧ ds = xs.map (D.int k) := by
 induction ds generalizing K with
 | nil => exact ⟨[], hh, rfl⟩
 | cons d ds ih =>
  cases d <;> simp only [jc4] at hh
  case int k' n =>
   cases hk : kE k k' with
   | false => rw [hk] at hh; exact hh.elim
   | true =>
    rw [hk] at hh
    have := kE_eq hk; subst this
    obtain ⟨xs, h1, h2⟩ := ih hh
    exact ⟨n :: xs, h1, by simp [h2]⟩
  all_goals exact hh.elim
theorem jdB {E : Env} {h : Pub} {k : IntKind} {xs : List Int} {vs : List Value} (H : DenL E h (xs.map (D.int k)) vs) : vs = xs.map (Value.int k) ∧ ∀ n ∈ xs, InR k n := by
 induction xs generalizing vs with
 | nil => simp only [List.map_nil, DenL] at H; simp [H]
 | cons x xs ih =>
  simp only [List.map_cons, DenL, Den] at H
  obtain ⟨v, vs', rfl, ⟨rfl, h1⟩, h2⟩ := H
  obtain ⟨rfl, h3⟩ := ih h2
  refine ⟨rfl, fun n hn => ?_⟩
  rcases jiL.1 hn with rfl | hn
  ·exact h1
  ·exact h3 n hn
theorem jbc {k : IntKind} {xs : List Int} : ∀ v ∈ xs.map (Value.int k), v.oneCell' = true := by
 intro v hv
 obtain ⟨n, _, rfl⟩ := List.mem_map.1 hv
 rfl
def chunkK (tb : Tb) (y : Ty) (d : D) (K : Chunk → Prop) : Prop := match d with
 | .iarr k xs => K (.arr k xs)
 | d => match y.kind with
  | .arr _ e => tyK tb e fun ye => match ye.kind with
   | .int k => jd9 d fun ds => jc4 k ds fun xs => K (.arr k xs)
   | _ => jd9 d fun ds => K (.box ds)
  | _ => jd9 d fun ds => K (.box ds)
theorem chunk_el {tb : Tb} {y : Ty} {d : D} {K : Chunk → Prop} (hh : chunkK tb y d K) :
  ∃ c, K c ∧ c.live = true ∧ ∀ E h v, Den E h d v → ∀ (w : World) (i T : Nat), w.heap[E.blk i]? = some (.cells v.cells T (0, 0)) → E.siz i = v.cells.size → E.real i = true → (∀ k xs, c = .arr k xs → E.kn i = xs.length) → ChunkOk E h w i c := by
 have box : ∀ {K : Chunk → Prop}, jd9 d (fun ds => K (.box ds)) → ∃ c, K c ∧ c.live = true ∧ ∀ E h v, Den E h d v → ∀ (w : World) (i T : Nat), w.heap[E.blk i]? = some (.cells v.cells T (0, 0)) → E.siz i = v.cells.size → E.real i = true → (∀ k xs, c = .arr k xs → E.kn i = xs.length) → ChunkOk E h w i c := by
  intro K hh
  obtain ⟨ds, h1, h2⟩ := jeq hh
  exact ⟨_, h1, rfl, fun E h v hv w i T hw hs hr _ => ⟨hr, v.cells.toList, [], T, by simpa using hw, (h2 E h v hv).1, (h2 E h v hv).2, by simpa using hs⟩⟩
 unfold chunkK at hh
 split at hh
 ·rename_i k xs
  refine ⟨_, hh, rfl, fun E h v hv w i T hw hs hreal hkn => ?_⟩
  simp only [Den] at hv
  obtain ⟨rfl, hr⟩ := hv
  exact .inr ⟨hreal, [], T, by simpa [Value.cells] using hw, by simpa [Value.cells] using hs, hr, hkn _ _ rfl⟩
 ·split at hh
  ·have hx := jak hh; clear hh; obtain ⟨ye, hye, hh⟩ := hx
   split at hh
   ·rename_i k _
    obtain ⟨ds, h1, h2⟩ := jeq hh
    obtain ⟨xs, h3, rfl⟩ := jdw h1
    refine ⟨_, h3, rfl, fun E h v hv w i T hw hs hreal hkn => ?_⟩
    obtain ⟨h4, h5⟩ := jdB (h2 E h v hv).1
    refine .inr ⟨hreal, [], T, ?_, ?_, h5, hkn _ _ rfl⟩
    ·rw [hw]; congr 2; apply Array.toList_inj.1; simp [h4]
    ·rw [hs, ← Array.length_toList, h4]; simp
   ·exact box hh
  ·exact box hh
theorem jfq {P : Program} (t : TypeId) (v : Value) (w : World) : (newVar t v).run P w = .ok ⟨w.heap.size, 0, none⟩ (w.alloc (.cells v.cells t)) := by
 simp [newVar, newRow]
theorem jbR (w : World) (c : Array Value) (t : TypeId) : (w.alloc (.cells c t)).heap[w.heap.size]? = some (.cells c t (0, 0)) := heap_alloc_new w _
def Heavy (P : Program) (N : Nat) (cx : Cx) (Q : Exit → Act → World → Prop) (o : Oper) (K : K2) (L : Sl) (H : Hp) : Prop :=
 ∀ E h a w, N ≤ a.tmps.size → Sat cx E h a w L H → ∀ next : Act → World → Prop,
  (∀ L' H' E' h' a' w', K L' H' → a'.tmps.size = a.tmps.size → Sat cx E' h' a' w' L' H' → next a' w') → o.wp P a w next Q
theorem jaz (a : Act) (d : Option Nat) (v : Value) : (a.put d v).tmps.size = a.tmps.size := by
 cases d <;> simp [Act.put]
section
variable {P : Program} {tb : Tb} {N : Nat} {cx : Cx} {Q : Exit → Act → World → Prop} {o : Oper} {L : Sl} {H : Hp} {K : K2}
theorem jbu {d : Nat} {r : D} {c : Chunk} (hd : o.dst = some d) (hK : ltK d N (newK cx.off d r c L H K))
    (hrun : ∀ E h a w, Sat cx E h a w L H → ∃ v w' s n, (execOp a.eval o).run P w = .ok (.value v) w' ∧ Below w.heap.size w w' ∧
      ChunkOk (E.set (cx.off + d) w.heap.size s n) h w' (cx.off + d) c ∧ Den (E.set (cx.off + d) w.heap.size s n) h r v) : Heavy P N cx Q o K L H := by
  intro E h a w hN S next hnext
  obtain ⟨hlt, hK⟩ := jcX hK
  rw [jf7] at hK
  obtain ⟨v, w', s, n, h1, h2, h3, h4⟩ := hrun E h a w S
  unfold Oper.wp
  rw [h1]
  simp only [Oper.upon, hd]
  exact hnext _ _ _ _ _ _ hK (jaz _ _ _) (S.alloc h2 h3 (by omega) (Nat.le_add_right _ _) h4)
def Chunk.kn : Chunk → Nat
 | .arr _ xs => xs.length
 | _ => 0
def jfj (tb : Tb) (y : Ty) (K : Chunk → Prop) : Prop := match y.kind with
 | .arr _ e => tyK tb e fun ye => match ye.kind with
  | .int k => jc4 k y.zero fun xs => K (.arr k xs)
  | _ => K (.box y.zero)
 | _ => K (.box y.zero)
def allocK (tb : Tb) (N off : Nat) (d t : Nat) (L : Sl) (H : Hp) (K : K2) : Prop := tyK tb t fun y => jfj tb y fun c => ltK d N (newK off d (.box (off + d) 0) c L H K)
theorem alloc_el (htb : TbOk P tb) {d t : Nat} (hd : o.dst = some d) (ho : o.op = .alloc t) (hh : allocK tb N cx.off d t L H K) : Heavy P N cx Q o K L H := by
 have hx := jak hh; clear hh; obtain ⟨y, hy, hh⟩ := hx
 have hty := htb _ _ hy
 obtain ⟨iy, z, i1, i2, i3, i4, i5, i6, i7, i8, i9⟩ := hty.info
 have hrun : ∀ (a : Act) (w : World), (execOp a.eval o).run P w = .ok (.value (.pointer (some ⟨w.heap.size, 0, none⟩))) (w.alloc (.cells z.cells t)) := fun a w => by
  simp [execOp, ho, Instr.alloc, zeroValue, typeInfo, i1, i4, jfq]
 have fin : ∀ c, (∀ (E : Env) (h : Pub) (w : World), ChunkOk (E.set (cx.off + d) w.heap.size z.cells.size c.kn) h (w.alloc (.cells z.cells t)) (cx.off + d) c) → ltK d N (newK cx.off d (.box (cx.off + d) 0) c L H K) → Heavy P N cx Q o K L H := fun c hc hK =>
  jbu hd hK fun E h a w S => ⟨_, _, z.cells.size, c.kn, hrun a w, (Below.refl _ w).alloc (jii _) _, hc E h w, by simp only [Den]; rw [Env.set_blk, Env.set_real]; exact ⟨rfl, rfl⟩⟩
 have box : ∀ (E : Env) (h : Pub) (w : World), ChunkOk (E.set (cx.off + d) w.heap.size z.cells.size (Chunk.kn (.box y.zero))) h (w.alloc (.cells z.cells t)) (cx.off + d) (.box y.zero) := fun E h w =>
  ⟨E.set_real _ _ _ _, z.cells.toList, [], t, by rw [Env.set_blk, jbR]; simp, i5 _ h, i6, by rw [Env.set_siz]; simp⟩
 unfold jfj at hh
 split at hh
 ·have hx := jak hh; clear hh; obtain ⟨ye, hye, hh⟩ := hx
  split at hh
  ·obtain ⟨xs, h1, h2⟩ := jdw hh
   refine fin _ (fun E h w => ?_) h1
   obtain ⟨h4, h5⟩ := jdB (E := E) (h := h) (by rw [← h2]; exact i5 E h)
   refine .inr ⟨E.set_real _ _ _ _, [], t, ?_, ?_, h5, E.set_kn _ _ _ _⟩
   ·rw [Env.set_blk, jbR]; congr 2; apply Array.toList_inj.1; simp [h4]
   ·rw [Env.set_siz, ← Array.length_toList, h4]; simp
  ·exact fin (.box y.zero) box hh
 ·exact fin (.box y.zero) box hh
def boxK (tb : Tb) (N off : Nat) (d t : Nat) (x : Operand) (L : Sl) (H : Hp) (K : K2) : Prop := tyK tb t fun y => rdg True L x fun r => match D.free (off + d) r with
 | true => chunkK tb y r fun c => ltK d N (newK off d (.box (off + d) 0) c L H K)
 | false => False
theorem box_el {d t : Nat} {x : Operand} (hd : o.dst = some d) (ho : o.op = .box t x) (hh : boxK tb N cx.off d t x L H K) : Heavy P N cx Q o K L H := by
 have hx := jak hh; clear hh; obtain ⟨y, hy, hh⟩ := hx
 obtain ⟨r, hh, hr⟩ := jar hh
 cases hf : D.free (cx.off + d) r with
 | false => rw [hf] at hh; exact hh.elim
 | true =>
  rw [hf] at hh
  obtain ⟨c, hh, hl, hc⟩ := chunk_el hh
  refine jbu hd hh fun E h a w S => ?_
  have hv := hr E h a trivial (S.facts.rd x)
  refine ⟨.pointer (some ⟨w.heap.size, 0, none⟩), w.alloc (.cells (a.eval x).cells t), (a.eval x).cells.size, c.kn, by simp [execOp, ho, Instr.box, jfq], (Below.refl _ w).alloc (jii _) _, ?_, by simp only [Den]; rw [Env.set_blk, Env.set_real]; exact ⟨rfl, rfl⟩⟩
  exact hc _ h _ (Den.env (E.off_set (cx.off + d) _ _ _) hf hv) _ (cx.off + d) t (by rw [Env.set_blk, jbR]) (by rw [Env.set_siz]) (E.set_real _ _ _ _) (fun k xs e => by rw [Env.set_kn, e]; rfl)
theorem jc5 {i : Nat} {c c' : Chunk} (hd : o.dst = none) (hK : K L ((i, c') :: H)) (hc : lookH H i = some c) (hl : c.cel = true)
  (hrun : ∀ E h a w, Sat cx E h a w L H → E.real i = true ∧ ∃ cs, (execOp a.eval o).run P w = .ok .skip (w.setRow (E.blk i) cs) ∧ ChunkOk E h (w.setRow (E.blk i) cs) i c') : Heavy P N cx Q o K L H := by
 intro E h a w hN S next hnext
 obtain ⟨hreal, cs, h1, h2⟩ := hrun E h a w S
 unfold Oper.wp
 rw [h1]
 simp only [Oper.upon, hd]
 exact hnext L ((i, c') :: H) E h a _ hK rfl (S.write (w' := w.setRow (E.blk i) cs) hc (Chunk.live_of_cel hl) hreal rfl rfl rfl (size_setRow _ _ _) (fun b hb => setRow_other w _ _ _ hb) h2 hl)
def storeK (tb : Tb) (t : Nat) (ax x : Operand) (L : Sl) (H : Hp) (K : K2) : Prop := tyK tb t fun y => rdg True L ax fun da => rdg True L x fun dx => match da with
 | .box i off => jbd H i fun c => match c with
  | .box ds => jd9 dx fun cs => match Nat.beq cs.length y.size with
   | true => jdf ds off cs fun ds' => K L ((i, .box ds') :: H)
   | false => False
  | .arr k xs => match dx with
   | .int k' n => match kE k k', Nat.beq y.size 1 with
    | true, true => (True → off < xs.length) ∧ K L ((i, .arr k (xs.set off n)) :: H)
    | _, _ => False
   | .iarr k' ys => match kE k k' with
    | true => (True → off = 0 ∧ ys.length = xs.length ∧ ys.length = y.size) ∧ K L ((i, .arr k ys) :: H)
    | false => False
   | .agg ds => jc4 k ds fun ys => (True → off = 0 ∧ ys.length = xs.length ∧ ys.length = y.size) ∧ K L ((i, .arr k ys) :: H)
   | _ => False
  | .gone => False
  | .lp _ => False
 | _ => False
theorem jcx {t : Nat} {y : Ty} (hy : TyOk P t y) {w : World} {g off : Nat} {cur : List Value} {T : TypeId} {v : Value} (hg : w.heap[g]? = some (.cells cur.toArray T (0, 0)))
  (hs : v.cells.size = y.size) (hl : off + v.cells.size ≤ cur.length) (h1 : ∀ u ∈ v.cells.toList, u.oneCell' = true) :
  (Instr.storeAt t (.pointer (some ⟨g, off, none⟩)) v).run P w = .ok () (w.setRow g (setAt cur off v.cells.toList).toArray) := by
 have := run_storeCells_at P g off T v.cells.toList 0 cur.toArray w hg (by simp; omega) h1
 simp only [Instr.storeAt, Instr.sureAddr, storeVar, Sem.run_bind, Sem.run_pure, Result.andThen_ok, hy.sizeOf w, Sem.run_ite, hs]
 simp only [ne_eq, not_true_eq_false, if_false]
 rw [this]
 simp [setAt]
theorem store_el (htb : TbOk P tb) {t : Nat} {ax x : Operand} (hd : o.dst = none) (ho : o.op = .store t ax x) (hh : storeK tb t ax x L H K) : Heavy P N cx Q o K L H := by
 have hx := jak hh; clear hh; obtain ⟨y, hy, hh⟩ := hx
 have hty := htb _ _ hy
 have hz := jar hh; clear hh; obtain ⟨da, hh, ha⟩ := hz
 have hz := jar hh; clear hh; obtain ⟨dx, hh, hx⟩ := hz
 split at hh
 case h_2 => exact hh.elim
 rename_i i off
 have hy' := jaA hh; clear hh; obtain ⟨c, hc, hh⟩ := hy'
 have hrun : ∀ (a : Act) (w w' : World), (Instr.storeAt t (a.eval ax) (a.eval x)).run P w = .ok () w' → (execOp a.eval o).run P w = .ok .skip w' := fun a w w' e => by
  simp only [execOp, ho]; rw [Sem.run_bind, e]; rfl
 have har : ∀ k xs ys, lookH H i = some (.arr k xs) → (off = 0 ∧ ys.length = xs.length ∧ ys.length = y.size) → K L ((i, .arr k ys) :: H) →
   (∀ E h v, Den E h dx v → v.cells.toList = ys.map (Value.int k) ∧ ∀ n ∈ ys, InR k n) → Heavy P N cx Q o K L H := by
  intro k xs ys hc hk hK hden
  obtain ⟨rfl, hl1, hl2⟩ := hk
  refine jc5 hd hK hc rfl fun E h a w S => ?_
  have hda := ha E h a trivial (S.facts.rd ax)
  simp only [Den] at hda
  obtain ⟨hda, hreal⟩ := hda
  obtain ⟨rest, T, hb, hsz, hr, hkn⟩ := jaZ hreal (S.mem.ok _ _ hc)
  obtain ⟨h3, h4⟩ := hden E h _ (hx E h a trivial (S.facts.rd x))
  have hsz2 : (a.eval x).cells.size = ys.length := by rw [← Array.length_toList, h3]; simp
  refine ⟨hreal, _, hrun a w _ (by rw [hda]; exact jcx hty hb (by omega) (by simp; omega) (by rw [h3]; exact jbc)), ?_⟩
  refine .inr ⟨hreal, rest, T, ?_, by omega, h4, by omega⟩
  rw [setRow_heap w _ _ _ T (0, 0) hb, h3]
  congr 2
  apply Array.toList_inj.1
  simp [setAt, hl1]
 split at hh
 ·rename_i ds
  obtain ⟨cs, hh, hcs⟩ := jeq hh
  cases hb : Nat.beq cs.length y.size with
  | false => rw [hb] at hh; exact hh.elim
  | true =>
   rw [hb] at hh
   have hs := jae hb
   obtain ⟨hle, hh⟩ := jde hh
   refine jc5 hd hh hc rfl fun E h a w S => ?_
   obtain ⟨hreal, vs, rest, T, hb, h1, h2, hsz⟩ := S.mem.ok _ _ hc
   have hda := ha E h a trivial (S.facts.rd ax)
   simp only [Den] at hda
   obtain ⟨hda, _⟩ := hda
   obtain ⟨h3, h4⟩ := hcs E h _ (hx E h a trivial (S.facts.rd x))
   have hl1 := h3.length
   have hl2 := h1.length
   simp only [Array.length_toList] at hl1
   refine ⟨hreal, _, hrun a w _ (by rw [hda]; exact jcx hty hb (by omega) (by simp; omega) h4), ?_⟩
   have hfit : off + (Value.cells (a.eval x)).toList.length ≤ vs.length := by rw [Array.length_toList]; omega
   exact ⟨hreal, _, rest, T, by rw [setRow_heap w _ _ _ T (0, 0) hb, jgv hfit], h1.setAt h3 off, jcD h2 h4, by rw [jbQ hfit]; exact hsz⟩
 ·rename_i k xs
  split at hh
  ·rename_i k' n
   split at hh
   case h_2 => exact hh.elim
   rename_i hk hb1
   have := kE_eq hk; subst this
   have hs := jae hb1
   have hlt := hh.1 trivial
   refine jc5 hd hh.2 hc rfl fun E h a w S => ?_
   have hda := ha E h a trivial (S.facts.rd ax)
   have hdx := hx E h a trivial (S.facts.rd x)
   simp only [Den] at hda hdx
   obtain ⟨hdx, hrn⟩ := hdx
   obtain ⟨hda, hreal⟩ := hda
   obtain ⟨rest, T, hb, hsz, hr, hkn⟩ := jaZ hreal (S.mem.ok _ _ hc)
   refine ⟨hreal, _, hrun a w _ (by rw [hda, hdx]; exact jcx hty hb (by rw [hs]; rfl) (by simp [Value.cells]; omega) (by simp [Value.cells, Value.oneCell'])), ?_⟩
   refine .inr ⟨hreal, rest, T, ?_, by simp [hsz], ?_, by simp [hkn]⟩
   ·rw [setRow_heap w _ _ _ T (0, 0) hb]
    congr 2
    apply Array.toList_inj.1
    simp only [Value.cells, setAt, List.length_singleton, List.map_set]
    rw [← List.set_append_left _ _ (by simpa using hlt)]
    rw [List.set_eq_take_append_cons_drop, if_pos (by simp; omega)]
    simp
   ·intro m hm
    rcases List.mem_or_eq_of_mem_set hm with hm | rfl
    ·exact hr m hm
    ·exact hrn
  ·rename_i k' ys
   split at hh
   case h_2 => exact hh.elim
   rename_i hk
   have := kE_eq hk; subst this
   refine har _ _ _ hc (hh.1 trivial) hh.2 (fun E h v hv => ?_)
   simp only [Den] at hv
   obtain ⟨rfl, h1⟩ := hv
   exact ⟨by simp [Value.cells], h1⟩
  ·rename_i ds
   obtain ⟨ys, hz, rfl⟩ := jdw hh
   refine har _ _ _ hc (hz.1 trivial) hz.2 (fun E h v hv => ?_)
   simp only [Den] at hv
   obtain ⟨vs, rfl, h1, _⟩ := hv
   obtain ⟨h2, h3⟩ := jdB h1
   exact ⟨by simp [Value.cells, h2], h3⟩
  ·exact hh.elim
 ·exact hh.elim
 ·exact hh.elim
end
end Go.V
end
