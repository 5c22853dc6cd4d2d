/- Laws of a small interpreter over plain values, each proved against the model of the language: part 4. No condition. -/
import Derived.Test.YtpcpgjcdkgcbpaaGreatDoorW3
set_option linter.unusedSimpArgs false
set_option linter.unusedVariables false
set_option maxHeartbeats 8000000
set_option maxRecDepth 100000
section
namespace Go.V
open Go Go.RowKit
def Env.set (E : Env) (i b s n : Nat) : Env := ⟨fun j => if j = i then b else E.blk j, fun j => if j = i then s else E.siz j, fun j => if j = i then n else E.kn j, fun j => if j = i then true else E.real j, E.lpr⟩
theorem Env.off_set (E : Env) (i b s n : Nat) : E.off (E.set i b s n) i := fun j hj => by simp [Env.set, hj]
theorem Env.set_blk (E : Env) (i b s n : Nat) : (E.set i b s n).blk i = b := by simp [Env.set]
theorem Env.set_siz (E : Env) (i b s n : Nat) : (E.set i b s n).siz i = s := by simp [Env.set]
theorem Env.set_real (E : Env) (i b s n : Nat) : (E.set i b s n).real i = true := by simp [Env.set]
theorem Env.set_real_ne (E : Env) {i j : Nat} (b s n : Nat) (h : j ≠ i) : (E.set i b s n).real j = E.real j := by simp [Env.set, h]
theorem Env.set_kn (E : Env) (i b s n : Nat) : (E.set i b s n).kn i = n := by simp [Env.set]
theorem Env.set_blk_ne (E : Env) {i j : Nat} (b s n : Nat) (h : j ≠ i) : (E.set i b s n).blk j = E.blk j := by simp [Env.set, h]
theorem Env.set_siz_ne (E : Env) {i j : Nat} (b s n : Nat) (h : j ≠ i) : (E.set i b s n).siz j = E.siz j := by simp [Env.set, h]
def purge (i : Nat) : Sl → Sl
  | [] => []
  | (t, d) :: L => (t, match D.free i d with | true => d | false => .any) :: purge i L
def purgeK (i : Nat) : Sl → (Sl → Prop) → Prop
  | [], K => K []
  | (t, d) :: L, K => match D.free i d with
    | true => purgeK i L fun L' => K ((t, d) :: L')
    | false => purgeK i L fun L' => K ((t, .any) :: L')
theorem purgeK_eq (i : Nat) (L : Sl) (K : Sl → Prop) : purgeK i L K = K (purge i L) := by
  induction L generalizing K with
  | nil => rfl
  | cons x L ih =>
    obtain ⟨t, d⟩ := x
    simp only [purgeK, purge]
    cases D.free i d <;> simp [ih]
def purgeDL (i : Nat) : List D → List D
  | [] => []
  | d :: ds => (match D.free i d with | true => d | false => .any) :: purgeDL i ds
def purgeDLK (i : Nat) : List D → (List D → Prop) → Prop
  | [], K => K []
  | d :: ds, K => match D.free i d with
    | true => purgeDLK i ds fun ds' => K (d :: ds')
    | false => purgeDLK i ds fun ds' => K (.any :: ds')
theorem purgeDLK_eq (i : Nat) (ds : List D) (K : List D → Prop) : purgeDLK i ds K = K (purgeDL i ds) := by
  induction ds generalizing K with
  | nil => rfl
  | cons d ds ih =>
    simp only [purgeDLK, purgeDL]
    cases D.free i d <;> simp [ih]
def purgeC (i : Nat) : Chunk → Chunk
  | .box ds => .box (purgeDL i ds)
  | .arr k xs => .arr k xs
  | .gone => .gone
  | .lp p => .lp p
theorem purgeC_live (i : Nat) (c : Chunk) : (purgeC i c).live = c.live := by cases c <;> rfl
def purgeH (i : Nat) : Hp → Hp
  | [] => []
  | (j, c) :: H => (j, purgeC i c) :: purgeH i H
def purgeHK (i : Nat) : Hp → (Hp → Prop) → Prop
  | [], K => K []
  | (j, c) :: H, K => match c with
    | .box ds => purgeDLK i ds fun ds' => purgeHK i H fun H' => K ((j, .box ds') :: H')
    | .arr k xs => purgeHK i H fun H' => K ((j, .arr k xs) :: H')
    | .gone => purgeHK i H fun H' => K ((j, .gone) :: H')
    | .lp p => purgeHK i H fun H' => K ((j, .lp p) :: H')
theorem purgeHK_eq (i : Nat) (H : Hp) (K : Hp → Prop) : purgeHK i H K = K (purgeH i H) := by
  induction H generalizing K with
  | nil => rfl
  | cons x L ih =>
    obtain ⟨t, d⟩ := x
    cases d <;> simp [purgeHK, purgeH, purgeC, purgeDLK_eq, ih]
theorem look_purge {i : Nat} {L : Sl} {t : Nat} {E E' : Env} {h : Pub} {v : Value} (he : E.off E' i) (H : Den E h (look L t) v) : Den E' h (look (purge i L) t) v := by
  induction L with
  | nil => simp [purge, look, Den]
  | cons x L ih =>
    obtain ⟨s, d⟩ := x
    simp only [purge]
    rw [look_cons] at H ⊢
    split
    · rename_i hs
      rw [if_pos hs] at H
      cases hf : D.free i d with
      | true => exact Den.env he hf H
      | false => simp [Den]
    · rename_i hs
      rw [if_neg hs] at H
      exact ih H
theorem lookH_purge {i : Nat} {H : Hp} {j : Nat} {c : Chunk} (h : lookH (purgeH i H) j = some c) : ∃ c0, lookH H j = some c0 ∧ c = purgeC i c0 := by
  induction H with
  | nil => simp [purgeH, lookH] at h
  | cons x H ih =>
    obtain ⟨s, d⟩ := x
    simp only [purgeH] at h
    rw [lookH_cons] at h ⊢
    split
    · rename_i hs
      rw [if_pos hs] at h
      exact ⟨d, rfl, (Option.some.inj h).symm⟩
    · rename_i hs
      rw [if_neg hs] at h
      exact ih h
theorem denL_purge {E E' : Env} {h : Pub} {i : Nat} (he : E.off E' i) : ∀ {ds : List D} {vs : List Value}, DenL E h ds vs → DenL E' h (purgeDL i ds) vs
  | [], _, H => by simpa [DenL, purgeDL] using H
  | d :: ds, vs, H => by
    simp only [DenL, purgeDL] at H ⊢
    obtain ⟨v, vs', h1, h2, h3⟩ := H
    refine ⟨v, vs', h1, ?_, denL_purge he h3⟩
    cases hf : D.free i d with
    | true => exact Den.env he hf h2
    | false => simp [Den]
theorem ChunkOk.env {E E' : Env} {h : Pub} {w : World} {i j : Nat} {c : Chunk} (he : E.off E' i) (hj : j ≠ i) (H : ChunkOk E h w j c) : ChunkOk E' h w j (purgeC i c) := by
  cases c with
  | gone => trivial
  | box ds =>
    obtain ⟨h0, vs, rest, T, h1, h2, h3, h4⟩ := H
    exact ⟨by rw [(he j hj).2.2.2.1]; exact h0, vs, rest, T, by rw [(he j hj).1]; exact h1, denL_purge he h2, h3, by rw [(he j hj).2.1]; exact h4⟩
  | arr k xs =>
    simp only [ChunkOk, purgeC] at H ⊢
    rw [(he j hj).1, (he j hj).2.1, (he j hj).2.2.1, (he j hj).2.2.2.1]; exact H
  | lp p =>
    simp only [ChunkOk, purgeC] at H ⊢
    rw [(he j hj).1, (he j hj).2.2.2.1, (he j hj).2.2.2.2]; exact H
theorem ChunkOk.heap {E : Env} {h : Pub} {w w' : World} {j : Nat} {c : Chunk} (hb : w'.heap[E.blk j]? = w.heap[E.blk j]?) (H : ChunkOk E h w j c) : ChunkOk E h w' j c := by
  cases c with
  | gone => trivial
  | box ds =>
    obtain ⟨h0, vs, rest, T, h1, h2, h3⟩ := H
    exact ⟨h0, vs, rest, T, by rw [hb]; exact h1, h2, h3⟩
  | arr k xs =>
    simp only [ChunkOk] at H ⊢
    rw [hb]; exact H
  | lp p =>
    simp only [ChunkOk] at H ⊢
    rw [hb]; exact H
theorem ChunkOk.virt {E : Env} {h : Pub} {w w' : World} {j : Nat} {c : Chunk} (hr : E.real j = false) (H : ChunkOk E h w j c) : ChunkOk E h w' j c := by
  cases c with
  | gone => trivial
  | box ds => exact absurd H.1 (by rw [hr]; decide)
  | arr k xs =>
    rcases H with H | H
    · exact .inl H
    · exact absurd H.1 (by rw [hr]; decide)
  | lp p => exact absurd H.1 (by rw [hr]; decide)
theorem ChunkOk.keep {E : Env} {h : Pub} {w w' : World} {j : Nat} {c : Chunk} (hb : c.live = true → E.real j = true → w'.heap[E.blk j]? = w.heap[E.blk j]?) (H : ChunkOk E h w j c) : ChunkOk E h w' j c := by
  cases hl : c.live with
  | false => cases c <;> first | trivial | simp [Chunk.live] at hl
  | true =>
    cases hr : E.real j with
    | false => exact H.virt hr
    | true => exact H.heap (hb hl hr)
theorem ChunkOk.mono {E : Env} {h h' : Pub} {w : World} {j : Nat} {c : Chunk} (hh : h.Le h') (H : ChunkOk E h w j c) : ChunkOk E h' w j c := by
  cases c with
  | gone => trivial
  | box ds =>
    obtain ⟨h0, vs, rest, T, h1, h2, h3⟩ := H
    exact ⟨h0, vs, rest, T, h1, DenL.mono hh h2, h3⟩
  | arr k xs => exact H
  | lp p => exact H
theorem ChunkOk.lt {E : Env} {h : Pub} {w : World} {j : Nat} {c : Chunk} (hl : c.live = true) (hr : E.real j = true) (H : ChunkOk E h w j c) : E.blk j < w.heap.size := by
  cases c with
  | gone => simp [Chunk.live] at hl
  | box ds => obtain ⟨_, vs, rest, T, h1, _⟩ := H; exact (Array.getElem?_eq_some_iff.1 h1).1
  | arr k xs => obtain ⟨r, T, h1, _⟩ := arr_real hr H; exact (Array.getElem?_eq_some_iff.1 h1).1
  | lp p => obtain ⟨_, r, _, h1⟩ := H; exact (Array.getElem?_eq_some_iff.1 h1).1
theorem ChunkOk.cells {E : Env} {h : Pub} {w : World} {j : Nat} {c : Chunk} (hl : c.cel = true) (hr : E.real j = true) (H : ChunkOk E h w j c) : ∃ cs T f, w.heap[E.blk j]? = some (.cells cs T f) := by
  cases c with
  | gone => simp [Chunk.cel] at hl
  | lp p => simp [Chunk.cel] at hl
  | box ds => obtain ⟨_, vs, rest, T, h1, _⟩ := H; exact ⟨_, _, _, h1⟩
  | arr k xs => obtain ⟨r, T, h1, _⟩ := arr_real hr H; exact ⟨_, _, _, h1⟩
theorem Agree.lt {h : Pub} {w : World} (ha : Agree h w) {b o : Nat} {v : Value} (hv : h b o = some v) : b < w.heap.size :=
  World.block_lt_of_cell? (w := w) (a := ⟨b, o, none⟩) (ha b o v hv)
section
variable {cx : Cx} {E : Env} {h : Pub} {a : Act} {w : World} {L : Sl} {H : Hp}
theorem low_off {cx : Cx} {E E' : Env} {i : Nat} (hl : ∀ j, j < cx.off → E.blk j = cx.E0.blk j ∧ E.siz j = cx.E0.siz j ∧ E.kn j = cx.E0.kn j ∧ E.real j = cx.E0.real j ∧ E.lpr j = cx.E0.lpr j) (he : E.off E' i) (ho : cx.off ≤ i) :
    ∀ j, j < cx.off → E'.blk j = cx.E0.blk j ∧ E'.siz j = cx.E0.siz j ∧ E'.kn j = cx.E0.kn j ∧ E'.real j = cx.E0.real j ∧ E'.lpr j = cx.E0.lpr j := fun j hj => by
  obtain ⟨h1, h2, h3, h4, h5⟩ := he j (by omega)
  rw [h1, h2, h3, h4, h5]; exact hl j hj
theorem Sat.facts (S : Sat cx E h a w L H) : Facts E h a w L H := ⟨S.knows, fun i c hc => S.mem.ok i c hc, S.agree⟩
theorem getD_put (a : Act) (d t : Nat) (v : Value) : (a.put (some d) v).tmps.getD t Go.undef = if d = t ∧ d < a.tmps.size then v else a.tmps.getD t Go.undef := by
  simp only [Act.put, Array.getD_eq_getD_getElem?, Array.getElem?_setIfInBounds]
  by_cases h : d = t
  · subst h
    by_cases h2 : d < a.tmps.size
    · simp [h2]
    · simp [h2]
  · simp [h]
theorem knows_put {E : Env} {h : Pub} {a : Act} {L : Sl} (hk : ∀ t, Den E h (look L t) (a.tmps.getD t Go.undef)) {d : Nat} {r : D} {v : Value} (hd : d < a.tmps.size) (hv : Den E h r v) :
    ∀ t, Den E h (look ((d, r) :: L) t) ((a.put (some d) v).tmps.getD t Go.undef) := by
  intro t
  rw [look_cons, getD_put]
  by_cases e : d = t
  · rw [if_pos e, if_pos ⟨e, hd⟩]; exact hv
  · rw [if_neg e, if_neg (fun x => e x.1)]; exact hk t
theorem Sat.put (S : Sat cx E h a w L H) {d : Nat} {r : D} {v : Value} (hd : d < a.tmps.size) (hv : Den E h r v) : Sat cx E h (a.put (some d) v) w ((d, r) :: L) H :=
  { knows := knows_put S.knows hd hv
    mem := S.mem, agree := S.agree, since := S.since, low := S.low, side := S.side }
theorem Agree.of_blocks {h : Pub} {w w' : World} (ha : Agree h w) (hb : ∀ b, (∃ o v, h b o = some v) → w'.heap[b]? = w.heap[b]?) : Agree h w' := ⟨fun b o v hv => by
  rw [World.cell?_of_block (w := w) (hb b ⟨o, v, hv⟩)]; exact ha b o v hv, ha.glob, ⟨fun g vs hg => by
  obtain ⟨h1, T, f, h2⟩ := ha.blk.1 g vs hg
  obtain ⟨v, hv⟩ : ∃ v, vs[0]? = some v := by cases vs with | nil => exact absurd rfl h1 | cons v r => exact ⟨v, rfl⟩
  exact ⟨h1, T, f, (hb g ⟨0, v, ha.glob g vs hg 0 v hv⟩).trans h2⟩, fun g hg => by
  obtain ⟨tp, p, T, f, h2⟩ := ha.blk.2 g hg
  obtain ⟨v, hv⟩ := ha.errs g hg
  exact ⟨tp, p, T, f, (hb g ⟨0, v, hv⟩).trans h2⟩⟩, ha.errs⟩
theorem Sat.world (S : Sat cx E h a w L H) {w' : World} (hb : Below w.heap.size w w') : Sat cx E h a w' L H :=
  { knows := S.knows
    mem :=
      { ok := fun i c hc => (S.mem.ok i c hc).keep fun hl hr => hb.block _ ((S.mem.ok i c hc).lt hl hr)
        base := S.mem.base, unpub := S.mem.unpub, inj := S.mem.inj }
    agree := S.agree.of_blocks fun b ⟨_, _, hv⟩ => hb.block b (S.agree.lt hv)
    since := ⟨S.since.below.trans (hb.mono S.since.below.size), S.since.le, S.since.old⟩
    low := S.low
    side := S.side.below hb }
theorem Sat.alloc (S : Sat cx E h a w L H) {i : Nat} {r : D} {c : Chunk} {v : Value} {w' : World} {s n : Nat}
    (hb : Below w.heap.size w w') 
    (hc : ChunkOk (E.set i w.heap.size s n) h w' i c) {d : Nat} (hi : d < a.tmps.size) (ho : cx.off ≤ i) (hv : Den (E.set i w.heap.size s n) h r v) :
    Sat cx (E.set i w.heap.size s n) h (a.put (some d) v) w' ((d, r) :: purge i L) ((i, c) :: purgeH i H) := by
  have hoff := E.off_set i w.heap.size s n
  have hsz : cx.w0.heap.size ≤ w.heap.size := S.since.below.size
  have live : ∀ j c', j ≠ i → lookH ((i, c) :: purgeH i H) j = some c' → c'.live = true → ∃ c0, lookH H j = some c0 ∧ c' = purgeC i c0 ∧ c0.live = true := by
    intro j c' hj hc' hl
    rw [lookH_cons, if_neg (Ne.symm hj)] at hc'
    obtain ⟨c0, h1, h2⟩ := lookH_purge hc'
    exact ⟨c0, h1, h2, by rw [h2, purgeC_live] at hl; exact hl⟩
  refine { knows := ?_, mem := ?_, agree := ?_, since := ?_, low := fun j hj => low_off S.low hoff ho j hj, side := S.side.below hb }
  · exact knows_put (fun t => look_purge hoff (S.knows t)) hi hv
  · refine { ok := ?_, base := ?_, unpub := ?_, inj := ?_ }
    · intro j c' hc'
      by_cases hj : j = i
      · subst hj; rw [lookH_cons, if_pos rfl] at hc'; cases hc'; exact hc
      · cases hl : c'.live with
        | false => cases c' <;> first | trivial | (simp [Chunk.live] at hl)
        | true =>
          obtain ⟨c0, h1, rfl, hl'⟩ := live j c' hj hc' hl
          have h4 := S.mem.ok j _ h1
          refine ChunkOk.env hoff hj (h4.keep fun hl hr => hb.block _ (h4.lt hl hr))
    · intro j c' hc' hl hr
      by_cases hj : j = i
      · subst hj; rw [Env.set_blk]; exact hsz
      · obtain ⟨c0, h1, rfl, hl'⟩ := live j c' hj hc' hl
        rw [E.set_real_ne _ _ _ hj] at hr
        rw [E.set_blk_ne _ _ _ hj]; exact S.mem.base j _ h1 hl' hr
    · intro j c' hc' hl hr o
      by_cases hj : j = i
      · subst hj
        rw [Env.set_blk]
        cases ho : h w.heap.size o with
        | none => rfl
        | some v' => exact absurd (S.agree.lt ho) (Nat.lt_irrefl _)
      · obtain ⟨c0, h1, rfl, hl'⟩ := live j c' hj hc' hl
        rw [E.set_real_ne _ _ _ hj] at hr
        rw [E.set_blk_ne _ _ _ hj]; exact S.mem.unpub j _ h1 hl' hr o
    · intro j k c1 c2 hjk h1 h2 l1 l2 r1 r2
      by_cases hj : j = i
      · subst hj
        obtain ⟨c0, g1, rfl, l2'⟩ := live k c2 (Ne.symm hjk) h2 l2
        rw [E.set_real_ne _ _ _ (Ne.symm hjk)] at r2
        rw [Env.set_blk, E.set_blk_ne _ _ _ (Ne.symm hjk)]
        have := (S.mem.ok k _ g1).lt l2' r2
        omega
      · obtain ⟨c0, g1, rfl, l1'⟩ := live j c1 hj h1 l1
        by_cases hk : k = i
        · subst hk
          rw [E.set_real_ne _ _ _ hj] at r1
          rw [Env.set_blk, E.set_blk_ne _ _ _ hj]
          have := (S.mem.ok j _ g1).lt l1' r1
          omega
        · obtain ⟨c0', g2, rfl, l2'⟩ := live k c2 hk h2 l2
          rw [E.set_real_ne _ _ _ hj] at r1
          rw [E.set_real_ne _ _ _ hk] at r2
          rw [E.set_blk_ne _ _ _ hj, E.set_blk_ne _ _ _ hk]
          exact S.mem.inj j k _ _ hjk g1 g2 l1' l2' r1 r2
  · exact S.agree.of_blocks fun b ⟨_, _, hv⟩ => hb.block b (S.agree.lt hv)
  · exact ⟨S.since.below.trans (hb.mono S.since.below.size), S.since.le, S.since.old⟩
theorem Sat.write (S : Sat cx E h a w L H) {i : Nat} {c c' : Chunk} {w' : World} (hc : lookH H i = some c) (hl : c.live = true) (hr : E.real i = true)
    (ho : w'.os = w.os) (ht : w'.tape = w.tape) (hout : w'.output = w.output) (hsz : w'.heap.size = w.heap.size) (hb : ∀ b, b ≠ E.blk i → w'.heap[b]? = w.heap[b]?)
    (hc' : ChunkOk E h w' i c') (hcel : c.cel = true := by rfl) : Sat cx E h a w' L ((i, c') :: H) := by
  have hbase := S.mem.base i c hc hl hr
  refine { knows := S.knows, mem := ?_, agree := ?_, since := ?_, low := S.low, side := S.side.keep fun b o hbo hno => ?_ }
  · refine { ok := ?_, base := ?_, unpub := ?_, inj := ?_ }
    · intro j d hd
      rw [lookH_cons] at hd
      split at hd
      · rename_i e; subst e; cases hd; exact hc'
      · rename_i e
        exact (S.mem.ok j d hd).keep fun hld hrd => hb _ (S.mem.inj j i d c (Ne.symm e) hd hc hld hl hrd hr)
    · intro j d hd hld hrd
      rw [lookH_cons] at hd
      split at hd
      · rename_i e; subst e; exact hbase
      · exact S.mem.base j d hd hld hrd
    · intro j d hd hld hrd o
      rw [lookH_cons] at hd
      split at hd
      · rename_i e; subst e; exact S.mem.unpub i c hc hl hr o
      · exact S.mem.unpub j d hd hld hrd o
    · intro j k c1 c2 hjk h1 h2 l1 l2 r1 r2
      rw [lookH_cons] at h1 h2
      split at h1
      · rename_i e; subst e
        rw [if_neg hjk] at h2
        exact S.mem.inj i k c c2 hjk hc h2 hl l2 r1 r2
      · split at h2
        · rename_i e; subst e
          exact S.mem.inj j i c1 c hjk h1 hc l1 hl r1 r2
        · exact S.mem.inj j k c1 c2 hjk h1 h2 l1 l2 r1 r2
  · refine S.agree.of_blocks fun b ⟨o, v, hv⟩ => hb b (fun e => ?_)
    subst e
    rw [S.mem.unpub i c hc hl hr o] at hv; cases hv
  · refine ⟨S.since.below.trans ⟨ho, ht, hout, by omega, fun k hk => hb k (by omega)⟩, S.since.le, S.since.old⟩
  · rw [hb b (fun e => ?_)]
    · exact hbo
    · subst e
      obtain ⟨cs, T, f, hcell⟩ := (S.mem.ok i c hc).cells hcel hr
      rw [hcell] at hbo; cases hbo; cases hno
end
end Go.V
end
section
namespace Go.V
open Go Go.RowKit
abbrev K2 := Sl → Hp → Prop
def ltK (d N : Nat) (K : Prop) : Prop := match Nat.blt d N with | true => K | false => False
theorem ltK_el {d N : Nat} {K : Prop} (h : ltK d N K) : d < N ∧ K := by
  unfold ltK at h
  cases hb : Nat.blt d N with
  | true => rw [hb] at h; exact ⟨by have := Nat.le_of_ble_eq_true hb; omega, h⟩
  | false => rw [hb] at h; exact h.elim
def newK (off d : Nat) (r : D) (c : Chunk) (L : Sl) (H : Hp) (K : K2) : Prop :=
  purgeK (off + d) L fun L' => purgeHK (off + d) H fun H' => K ((d, r) :: L') ((off + d, c) :: H')
theorem newK_eq (off d : Nat) (r : D) (c : Chunk) (L : Sl) (H : Hp) (K : K2) : newK off d r c L H K = K ((d, r) :: purge (off + d) L) ((off + d, c) :: purgeH (off + d) H) := by
  unfold newK; rw [purgeK_eq, purgeHK_eq]
def intsOfK (k : IntKind) : List D → (List Int → Prop) → Prop
  | [], K => K []
  | .int k' n :: ds, K => match kE k k' with | true => intsOfK k ds fun xs => K (n :: xs) | false => False
  | _ :: _, _ => False
theorem intsOf_el {k : IntKind} {ds : List D} {K : List Int → Prop} (hh : intsOfK k ds K) :
    ∃ xs, K xs ∧ ds = xs.map (D.int k) := by
  induction ds generalizing K with
  | nil => exact ⟨[], hh, rfl⟩
  | cons d ds ih =>
    cases d <;> simp only [intsOfK] at hh
    case int k' n =>
      cases hk : kE k k' with
      | false => rw [hk] at hh; exact hh.elim
      | true =>
        rw [hk] at hh
        have := kE_eq hk; subst this
        obtain ⟨xs, h1, h2⟩ := ih hh
        exact ⟨n :: xs, h1, by simp [h2]⟩
    all_goals exact hh.elim
theorem denL_ints {E : Env} {h : Pub} {k : IntKind} {xs : List Int} {vs : List Value} (H : DenL E h (xs.map (D.int k)) vs) : vs = xs.map (Value.int k) ∧ ∀ n ∈ xs, InR k n := by
  induction xs generalizing vs with
  | nil => simp only [List.map_nil, DenL] at H; simp [H]
  | cons x xs ih =>
    simp only [List.map_cons, DenL, Den] at H
    obtain ⟨v, vs', rfl, ⟨rfl, h1⟩, h2⟩ := H
    obtain ⟨rfl, h3⟩ := ih h2
    refine ⟨rfl, fun n hn => ?_⟩
    rcases List.mem_cons.1 hn with rfl | hn
    · exact h1
    · exact h3 n hn
theorem oneCell_ints {k : IntKind} {xs : List Int} : ∀ v ∈ xs.map (Value.int k), v.oneCell' = true := by
  intro v hv
  obtain ⟨n, _, rfl⟩ := List.mem_map.1 hv
  rfl
def chunkK (tb : Tb) (y : Ty) (d : D) (K : Chunk → Prop) : Prop := match d with
  | .iarr k xs => K (.arr k xs)
  | d => match y.kind with
    | .arr _ e => tyK tb e fun ye => match ye.kind with
      | .int k => cellsK d fun ds => intsOfK k ds fun xs => K (.arr k xs)
      | _ => cellsK d fun ds => K (.box ds)
    | _ => cellsK d fun ds => K (.box ds)
theorem chunk_el {tb : Tb} {y : Ty} {d : D} {K : Chunk → Prop} (hh : chunkK tb y d K) :
    ∃ c, K c ∧ c.live = true ∧ ∀ E h v, Den E h d v → ∀ (w : World) (i T : Nat), w.heap[E.blk i]? = some (.cells v.cells T (0, 0)) → E.siz i = v.cells.size → E.real i = true → (∀ k xs, c = .arr k xs → E.kn i = xs.length) → ChunkOk E h w i c := by
  have box : ∀ {K : Chunk → Prop}, cellsK d (fun ds => K (.box ds)) → ∃ c, K c ∧ c.live = true ∧ ∀ E h v, Den E h d v → ∀ (w : World) (i T : Nat), w.heap[E.blk i]? = some (.cells v.cells T (0, 0)) → E.siz i = v.cells.size → E.real i = true → (∀ k xs, c = .arr k xs → E.kn i = xs.length) → ChunkOk E h w i c := by
    intro K hh
    obtain ⟨ds, h1, h2⟩ := cells_el hh
    exact ⟨_, h1, rfl, fun E h v hv w i T hw hs hr _ => ⟨hr, v.cells.toList, [], T, by simpa using hw, (h2 E h v hv).1, (h2 E h v hv).2, by simpa using hs⟩⟩
  unfold chunkK at hh
  split at hh
  · rename_i k xs
    refine ⟨_, hh, rfl, fun E h v hv w i T hw hs hreal hkn => ?_⟩
    simp only [Den] at hv
    obtain ⟨rfl, hr⟩ := hv
    exact .inr ⟨hreal, [], T, by simpa [Value.cells] using hw, by simpa [Value.cells] using hs, hr, hkn _ _ rfl⟩
  · split at hh
    · have hx := tyK_iff hh; clear hh; obtain ⟨ye, hye, hh⟩ := hx
      split at hh
      · rename_i k _
        obtain ⟨ds, h1, h2⟩ := cells_el hh
        obtain ⟨xs, h3, rfl⟩ := intsOf_el h1
        refine ⟨_, h3, rfl, fun E h v hv w i T hw hs hreal hkn => ?_⟩
        obtain ⟨h4, h5⟩ := denL_ints (h2 E h v hv).1
        refine .inr ⟨hreal, [], T, ?_, ?_, h5, hkn _ _ rfl⟩
        · rw [hw]; congr 2; apply Array.toList_inj.1; simp [h4]
        · rw [hs, ← Array.length_toList, h4]; simp
      · exact box hh
    · exact box hh
theorem run_newVar {P : Program} (t : TypeId) (v : Value) (w : World) : (newVar t v).run P w = .ok ⟨w.heap.size, 0, none⟩ (w.alloc (.cells v.cells t)) := by
  simp [newVar, newRow]
theorem heap_new (w : World) (c : Array Value) (t : TypeId) : (w.alloc (.cells c t)).heap[w.heap.size]? = some (.cells c t (0, 0)) := heap_alloc_new w _
def Heavy (P : Program) (N : Nat) (cx : Cx) (Q : Exit → Act → World → Prop) (o : Oper) (K : K2) (L : Sl) (H : Hp) : Prop :=
  ∀ E h a w, N ≤ a.tmps.size → Sat cx E h a w L H → ∀ next : Act → World → Prop,
    (∀ L' H' E' h' a' w', K L' H' → a'.tmps.size = a.tmps.size → Sat cx E' h' a' w' L' H' → next a' w') → o.wp P a w next Q
theorem size_put (a : Act) (d : Option Nat) (v : Value) : (a.put d v).tmps.size = a.tmps.size := by
  cases d <;> simp [Act.put]
section
variable {P : Program} {tb : Tb} {N : Nat} {cx : Cx} {Q : Exit → Act → World → Prop} {o : Oper} {L : Sl} {H : Hp} {K : K2}
theorem heavy_new {d : Nat} {r : D} {c : Chunk} (hd : o.dst = some d) (hK : ltK d N (newK cx.off d r c L H K))
    (hrun : ∀ E h a w, Sat cx E h a w L H → ∃ v w' s n, (execOp a.eval o).run P w = .ok (.value v) w' ∧ Below w.heap.size w w' ∧
      ChunkOk (E.set (cx.off + d) w.heap.size s n) h w' (cx.off + d) c ∧ Den (E.set (cx.off + d) w.heap.size s n) h r v) : Heavy P N cx Q o K L H := by
  intro E h a w hN S next hnext
  obtain ⟨hlt, hK⟩ := ltK_el hK
  rw [newK_eq] at hK
  obtain ⟨v, w', s, n, h1, h2, h3, h4⟩ := hrun E h a w S
  unfold Oper.wp
  rw [h1]
  simp only [Oper.upon, hd]
  exact hnext _ _ _ _ _ _ hK (size_put _ _ _) (S.alloc h2 h3 (by omega) (Nat.le_add_right _ _) h4)
def Chunk.kn : Chunk → Nat
  | .arr _ xs => xs.length
  | _ => 0
def zeroChunkK (tb : Tb) (y : Ty) (K : Chunk → Prop) : Prop := match y.kind with
  | .arr _ e => tyK tb e fun ye => match ye.kind with
    | .int k => intsOfK k y.zero fun xs => K (.arr k xs)
    | _ => K (.box y.zero)
  | _ => K (.box y.zero)
def allocK (tb : Tb) (N off : Nat) (d t : Nat) (L : Sl) (H : Hp) (K : K2) : Prop := tyK tb t fun y => zeroChunkK tb y fun c => ltK d N (newK off d (.box (off + d) 0) c L H K)
theorem alloc_el (htb : TbOk P tb) {d t : Nat} (hd : o.dst = some d) (ho : o.op = .alloc t) (hh : allocK tb N cx.off d t L H K) : Heavy P N cx Q o K L H := by
  have hx := tyK_iff hh; clear hh; obtain ⟨y, hy, hh⟩ := hx
  have hty := htb _ _ hy
  obtain ⟨iy, z, i1, i2, i3, i4, i5, i6, i7, i8, i9⟩ := hty.info
  have hrun : ∀ (a : Act) (w : World), (execOp a.eval o).run P w = .ok (.value (.pointer (some ⟨w.heap.size, 0, none⟩))) (w.alloc (.cells z.cells t)) := fun a w => by
    simp [execOp, ho, Instr.alloc, zeroValue, typeInfo, i1, i4, run_newVar]
  have fin : ∀ c, (∀ (E : Env) (h : Pub) (w : World), ChunkOk (E.set (cx.off + d) w.heap.size z.cells.size c.kn) h (w.alloc (.cells z.cells t)) (cx.off + d) c) → ltK d N (newK cx.off d (.box (cx.off + d) 0) c L H K) → Heavy P N cx Q o K L H := fun c hc hK =>
    heavy_new hd hK fun E h a w S => ⟨_, _, z.cells.size, c.kn, hrun a w, (Below.refl _ w).alloc (Nat.le_refl _) _, hc E h w, by simp only [Den]; rw [Env.set_blk, Env.set_real]; exact ⟨rfl, rfl⟩⟩
  have box : ∀ (E : Env) (h : Pub) (w : World), ChunkOk (E.set (cx.off + d) w.heap.size z.cells.size (Chunk.kn (.box y.zero))) h (w.alloc (.cells z.cells t)) (cx.off + d) (.box y.zero) := fun E h w =>
    ⟨E.set_real _ _ _ _, z.cells.toList, [], t, by rw [Env.set_blk, heap_new]; simp, i5 _ h, i6, by rw [Env.set_siz]; simp⟩
  unfold zeroChunkK at hh
  split at hh
  · have hx := tyK_iff hh; clear hh; obtain ⟨ye, hye, hh⟩ := hx
    split at hh
    · obtain ⟨xs, h1, h2⟩ := intsOf_el hh
      refine fin _ (fun E h w => ?_) h1
      obtain ⟨h4, h5⟩ := denL_ints (E := E) (h := h) (by rw [← h2]; exact i5 E h)
      refine .inr ⟨E.set_real _ _ _ _, [], t, ?_, ?_, h5, E.set_kn _ _ _ _⟩
      · rw [Env.set_blk, heap_new]; congr 2; apply Array.toList_inj.1; simp [h4]
      · rw [Env.set_siz, ← Array.length_toList, h4]; simp
    · exact fin (.box y.zero) box hh
  · exact fin (.box y.zero) box hh
def boxK (tb : Tb) (N off : Nat) (d t : Nat) (x : Operand) (L : Sl) (H : Hp) (K : K2) : Prop := tyK tb t fun y => rdg True L x fun r => match D.free (off + d) r with
  | true => chunkK tb y r fun c => ltK d N (newK off d (.box (off + d) 0) c L H K)
  | false => False
theorem box_el {d t : Nat} {x : Operand} (hd : o.dst = some d) (ho : o.op = .box t x) (hh : boxK tb N cx.off d t x L H K) : Heavy P N cx Q o K L H := by
  have hx := tyK_iff hh; clear hh; obtain ⟨y, hy, hh⟩ := hx
  obtain ⟨r, hh, hr⟩ := rdg_el hh
  cases hf : D.free (cx.off + d) r with
  | false => rw [hf] at hh; exact hh.elim
  | true =>
    rw [hf] at hh
    obtain ⟨c, hh, hl, hc⟩ := chunk_el hh
    refine heavy_new hd hh fun E h a w S => ?_
    have hv := hr E h a trivial (S.facts.rd x)
    refine ⟨.pointer (some ⟨w.heap.size, 0, none⟩), w.alloc (.cells (a.eval x).cells t), (a.eval x).cells.size, c.kn, by simp [execOp, ho, Instr.box, run_newVar], (Below.refl _ w).alloc (Nat.le_refl _) _, ?_, by simp only [Den]; rw [Env.set_blk, Env.set_real]; exact ⟨rfl, rfl⟩⟩
    exact hc _ h _ (Den.env (E.off_set (cx.off + d) _ _ _) hf hv) _ (cx.off + d) t (by rw [Env.set_blk, heap_new]) (by rw [Env.set_siz]) (E.set_real _ _ _ _) (fun k xs e => by rw [Env.set_kn, e]; rfl)
theorem heavy_write {i : Nat} {c c' : Chunk} (hd : o.dst = none) (hK : K L ((i, c') :: H)) (hc : lookH H i = some c) (hl : c.cel = true)
    (hrun : ∀ E h a w, Sat cx E h a w L H → E.real i = true ∧ ∃ cs, (execOp a.eval o).run P w = .ok .skip (w.setRow (E.blk i) cs) ∧ ChunkOk E h (w.setRow (E.blk i) cs) i c') : Heavy P N cx Q o K L H := by
  intro E h a w hN S next hnext
  obtain ⟨hreal, cs, h1, h2⟩ := hrun E h a w S
  unfold Oper.wp
  rw [h1]
  simp only [Oper.upon, hd]
  exact hnext L ((i, c') :: H) E h a _ hK rfl (S.write (w' := w.setRow (E.blk i) cs) hc (Chunk.live_of_cel hl) hreal rfl rfl rfl (size_setRow _ _ _) (fun b hb => setRow_other w _ _ _ hb) h2 hl)
def setH (H : Hp) (i : Nat) (c : Chunk) : Hp := (i, c) :: H
def storeK (tb : Tb) (t : Nat) (ax x : Operand) (L : Sl) (H : Hp) (K : K2) : Prop := tyK tb t fun y => rdg True L ax fun da => rdg True L x fun dx => match da with
  | .box i off => lookHK H i fun c => match c with
    | .box ds => cellsK dx fun cs => match Nat.beq cs.length y.size with
      | true => setAtK ds off cs fun ds' => K L ((i, .box ds') :: H)
      | false => False
    | .arr k xs => match dx with
      | .int k' n => match kE k k', Nat.beq y.size 1 with
        | true, true => (True → off < xs.length) ∧ K L ((i, .arr k (xs.set off n)) :: H)
        | _, _ => False
      | .iarr k' ys => match kE k k' with
        | true => (True → off = 0 ∧ ys.length = xs.length ∧ ys.length = y.size) ∧ K L ((i, .arr k ys) :: H)
        | false => False
      | .agg ds => intsOfK k ds fun ys => (True → off = 0 ∧ ys.length = xs.length ∧ ys.length = y.size) ∧ K L ((i, .arr k ys) :: H)
      | _ => False
    | .gone => False
    | .lp _ => False
  | _ => False
theorem run_storeVar {t : Nat} {y : Ty} (hy : TyOk P t y) {w : World} {g off : Nat} {cur : List Value} {T : TypeId} {v : Value} (hg : w.heap[g]? = some (.cells cur.toArray T (0, 0)))
    (hs : v.cells.size = y.size) (hl : off + v.cells.size ≤ cur.length) (h1 : ∀ u ∈ v.cells.toList, u.oneCell' = true) :
    (Instr.storeAt t (.pointer (some ⟨g, off, none⟩)) v).run P w = .ok () (w.setRow g (setAt cur off v.cells.toList).toArray) := by
  have := run_storeCells_at P g off T v.cells.toList 0 cur.toArray w hg (by simp; omega) h1
  simp only [Instr.storeAt, Instr.sureAddr, storeVar, Sem.run_bind, Sem.run_pure, Result.andThen_ok, hy.sizeOf w, Sem.run_ite, hs]
  simp only [ne_eq, not_true_eq_false, if_false]
  rw [this]
  simp [setAt]
theorem store_el (htb : TbOk P tb) {t : Nat} {ax x : Operand} (hd : o.dst = none) (ho : o.op = .store t ax x) (hh : storeK tb t ax x L H K) : Heavy P N cx Q o K L H := by
  have hx := tyK_iff hh; clear hh; obtain ⟨y, hy, hh⟩ := hx
  have hty := htb _ _ hy
  have hz := rdg_el hh; clear hh; obtain ⟨da, hh, ha⟩ := hz
  have hz := rdg_el hh; clear hh; obtain ⟨dx, hh, hx⟩ := hz
  split at hh
  case h_2 => exact hh.elim
  rename_i i off
  have hy' := lookHK_el hh; clear hh; obtain ⟨c, hc, hh⟩ := hy'
  have hrun : ∀ (a : Act) (w w' : World), (Instr.storeAt t (a.eval ax) (a.eval x)).run P w = .ok () w' → (execOp a.eval o).run P w = .ok .skip w' := fun a w w' e => by
    simp only [execOp, ho]; rw [Sem.run_bind, e]; rfl
  have har : ∀ k xs ys, lookH H i = some (.arr k xs) → (off = 0 ∧ ys.length = xs.length ∧ ys.length = y.size) → K L ((i, .arr k ys) :: H) →
      (∀ E h v, Den E h dx v → v.cells.toList = ys.map (Value.int k) ∧ ∀ n ∈ ys, InR k n) → Heavy P N cx Q o K L H := by
    intro k xs ys hc hk hK hden
    obtain ⟨rfl, hl1, hl2⟩ := hk
    refine heavy_write hd hK hc rfl fun E h a w S => ?_
    have hda := ha E h a trivial (S.facts.rd ax)
    simp only [Den] at hda
    obtain ⟨hda, hreal⟩ := hda
    obtain ⟨rest, T, hb, hsz, hr, hkn⟩ := arr_real hreal (S.mem.ok _ _ hc)
    obtain ⟨h3, h4⟩ := hden E h _ (hx E h a trivial (S.facts.rd x))
    have hsz2 : (a.eval x).cells.size = ys.length := by rw [← Array.length_toList, h3]; simp
    refine ⟨hreal, _, hrun a w _ (by rw [hda]; exact run_storeVar hty hb (by omega) (by simp; omega) (by rw [h3]; exact oneCell_ints)), ?_⟩
    refine .inr ⟨hreal, rest, T, ?_, by omega, h4, by omega⟩
    rw [setRow_heap w _ _ _ T (0, 0) hb, h3]
    congr 2
    apply Array.toList_inj.1
    simp [setAt, hl1]
  split at hh
  · rename_i ds
    obtain ⟨cs, hh, hcs⟩ := cells_el hh
    cases hb : Nat.beq cs.length y.size with
    | false => rw [hb] at hh; exact hh.elim
    | true =>
      rw [hb] at hh
      have hs := nbeq_true hb
      obtain ⟨hle, hh⟩ := setAtK_el hh
      refine heavy_write hd hh hc rfl fun E h a w S => ?_
      obtain ⟨hreal, vs, rest, T, hb, h1, h2, hsz⟩ := S.mem.ok _ _ hc
      have hda := ha E h a trivial (S.facts.rd ax)
      simp only [Den] at hda
      obtain ⟨hda, _⟩ := hda
      obtain ⟨h3, h4⟩ := hcs E h _ (hx E h a trivial (S.facts.rd x))
      have hl1 := h3.length
      have hl2 := h1.length
      simp only [Array.length_toList] at hl1
      refine ⟨hreal, _, hrun a w _ (by rw [hda]; exact run_storeVar hty hb (by omega) (by simp; omega) h4), ?_⟩
      have hfit : off + (Value.cells (a.eval x)).toList.length ≤ vs.length := by rw [Array.length_toList]; omega
      exact ⟨hreal, _, rest, T, by rw [setRow_heap w _ _ _ T (0, 0) hb, setAt_app hfit], h1.setAt h3 off, mem_setAt h2 h4, by rw [length_setAt hfit]; exact hsz⟩
  · rename_i k xs
    split at hh
    · rename_i k' n
      split at hh
      case h_2 => exact hh.elim
      rename_i hk hb1
      have := kE_eq hk; subst this
      have hs := nbeq_true hb1
      have hlt := hh.1 trivial
      refine heavy_write hd hh.2 hc rfl fun E h a w S => ?_
      have hda := ha E h a trivial (S.facts.rd ax)
      have hdx := hx E h a trivial (S.facts.rd x)
      simp only [Den] at hda hdx
      obtain ⟨hdx, hrn⟩ := hdx
      obtain ⟨hda, hreal⟩ := hda
      obtain ⟨rest, T, hb, hsz, hr, hkn⟩ := arr_real hreal (S.mem.ok _ _ hc)
      refine ⟨hreal, _, hrun a w _ (by rw [hda, hdx]; exact run_storeVar hty hb (by rw [hs]; rfl) (by simp [Value.cells]; omega) (by simp [Value.cells, Value.oneCell'])), ?_⟩
      refine .inr ⟨hreal, rest, T, ?_, by simp [hsz], ?_, by simp [hkn]⟩
      · rw [setRow_heap w _ _ _ T (0, 0) hb]
        congr 2
        apply Array.toList_inj.1
        simp only [Value.cells, setAt, List.length_singleton, List.map_set]
        rw [← List.set_append_left _ _ (by simpa using hlt)]
        rw [List.set_eq_take_append_cons_drop, if_pos (by simp; omega)]
        simp
      · intro m hm
        rcases List.mem_or_eq_of_mem_set hm with hm | rfl
        · exact hr m hm
        · exact hrn
    · rename_i k' ys
      split at hh
      case h_2 => exact hh.elim
      rename_i hk
      have := kE_eq hk; subst this
      refine har _ _ _ hc (hh.1 trivial) hh.2 (fun E h v hv => ?_)
      simp only [Den] at hv
      obtain ⟨rfl, h1⟩ := hv
      exact ⟨by simp [Value.cells], h1⟩
    · rename_i ds
      obtain ⟨ys, hz, rfl⟩ := intsOf_el hh
      refine har _ _ _ hc (hz.1 trivial) hz.2 (fun E h v hv => ?_)
      simp only [Den] at hv
      obtain ⟨vs, rfl, h1, _⟩ := hv
      obtain ⟨h2, h3⟩ := denL_ints h1
      exact ⟨by simp [Value.cells, h2], h3⟩
    · exact hh.elim
  · exact hh.elim
  · exact hh.elim
end
end Go.V
end
section
namespace Go.V
open Go Go.RowKit
section
variable {P : Program} {tb : Tb} {N : Nat} {cx : Cx} {Q : Exit → Act → World → Prop} {o : Oper} {L : Sl} {H : Hp} {K : K2}
def seqFrom : Nat → List (Nat × Operand) → Bool
  | _, [] => true
  | n, (i, _) :: ps => match Nat.beq i n with | true => seqFrom (n + 1) ps | false => false
def buildSliceK (tb : Tb) (N off : Nat) (d t n : Nat) (parts : Array (Nat × Operand)) (L : Sl) (H : Hp) (K : K2) : Prop := tyK tb t fun y => match y.kind with
  | .slice e => tyK tb e fun ye => match ye.kind with
    | .int k => match seqFrom 0 parts.toList, Nat.beq parts.toList.length n, Nat.beq ye.size 1, Nat.ble n 1000 with
      | true, true, true, true => rdsK True L (parts.toList.map (·.2)) fun ds => intsOfK k ds fun xs => ltK d N (newK off d (.osl (off + d) 0 n) (.arr k xs) L H K)
      | _, _, _, _ => False
    | _ => match Nat.beq (n * ye.size) 0, Nat.ble (n * ye.size) 100000, Nat.ble n 100000 with
      | false, true, true => fillK True L (fun i K => K (i * ye.size) ye.size) parts.toList (List.replicate (n * ye.size) .any) fun ds => match D.freeL (off + d) ds with
        | true => ltK d N (newK off d (.bsl (off + d) 0 n ye.size) (.box ds) L H K)
        | false => False
      | _, _, _ => False
  | _ => False
theorem denL_any {E : Env} {h : Pub} : ∀ (vs : List Value), DenL E h (List.replicate vs.length .any) vs
  | [] => by simp [DenL]
  | v :: vs => by
    simp only [List.length_cons, List.replicate_succ, DenL, Den, true_and]
    exact ⟨v, vs, rfl, denL_any vs⟩
theorem fill_seq (vals : Operand → Value) : ∀ (ps : List (Nat × Operand)) (n : Nat) (cells : Array Value), seqFrom n ps = true → n + ps.length = cells.size → (∀ p ∈ ps, ∃ k m, vals p.2 = .int k m) →
    ∃ cs, Instr.fill (fun i => some (i * 1, 1)) cells (ps.map fun p => (p.1, vals p.2)) = some cs ∧ cs.toList = cells.toList.take n ++ ps.map fun p => vals p.2
  | [], n, cells, _, hl, _ => ⟨cells, rfl, by simp only [List.length_nil, Nat.add_zero] at hl; simp only [List.map_nil, List.append_nil]; rw [List.take_of_length_le (by simp; omega)]⟩
  | (i, x) :: ps, n, cells, hs, hl, hv => by
    simp only [seqFrom] at hs
    cases hb : Nat.beq i n with
    | false => rw [hb] at hs; simp at hs
    | true =>
      rw [hb] at hs
      have := nbeq_true hb; subst this
      obtain ⟨k, m, hkm⟩ := hv (i, x) (by simp)
      simp only at hkm
      simp only [List.length_cons] at hl
      have hc1 : (Value.int k m).cells = #[.int k m] := rfl
      simp only [List.map_cons, Instr.fill, hkm]
      rw [if_neg (by simp [hc1]; omega)]
      have hf : ((Value.int k m).cells.zipIdx.foldl (fun (cs : Array Value) (p : Value × Nat) => cs.setIfInBounds (i * 1 + p.2) p.1) cells) = cells.setIfInBounds i (.int k m) := by simp [hc1]
      obtain ⟨cs, h1, h2⟩ := fill_seq vals ps (i + 1) (cells.setIfInBounds i (.int k m)) hs (by simp; omega) (fun p hp => hv p (by simp [hp]))
      refine ⟨cs, by rw [← h1]; congr 1, ?_⟩
      rw [h2]
      simp only [Array.toList_setIfInBounds]
      rw [List.take_succ_eq_append_getElem (by simp; omega)]
      simp only [List.getElem_set_self, List.append_assoc, List.singleton_append]
      rw [List.take_set, List.set_eq_of_length_le (by simp; omega)]
theorem buildSlice_el (htb : TbOk P tb) {d t n : Nat} {parts : Array (Nat × Operand)} (hd : o.dst = some d) (ho : o.op = .buildSlice t n parts) (hh : buildSliceK tb N cx.off d t n parts L H K) : Heavy P N cx Q o K L H := by
  have hx := tyK_iff hh; clear hh; obtain ⟨y, hy, hh⟩ := hx
  have hty := htb _ _ hy
  split at hh
  case h_2 => exact hh.elim
  rename_i e hk
  have hu := kind_slice hty hk
  have hx := tyK_iff hh; clear hh; obtain ⟨ye, hye, hh⟩ := hx
  have hte := htb _ _ hye
  split at hh
  case h_2 =>
    split at hh
    case h_2 => exact hh.elim
    rename_i hb1 hb2 hb3
    have hn9 := Nat.le_of_ble_eq_true hb3
    have hn0 : ¬ n * ye.size = 0 := fun e => by rw [e] at hb1; exact absurd hb1 (by decide)
    have hsz0 := Nat.le_of_ble_eq_true hb2
    obtain ⟨iy, z, i1, i2, i3, i4, i5, i6, i7, i8, i9⟩ := hte.info
    obtain ⟨rs, hr, hf⟩ := fill_el (pl := fun i => some (i * ye.size, ye.size)) (fun i K h => ⟨_, _, rfl, h⟩) hh
    cases hfr : D.freeL (cx.off + d) rs with
    | false => rw [hfr] at hr; exact hr.elim
    | true =>
      rw [hfr] at hr
      refine heavy_new hd hr fun E h a w S => ?_
      obtain ⟨zz, hzz⟩ : ∃ zz : Array Value, zz = (Array.range (n * ye.size)).map (z.cells[· % z.cells.size]!) := ⟨_, rfl⟩
      have hzs : zz.size = n * ye.size := by rw [hzz]; simp
      have hz1 : ∀ u ∈ zz.toList, u.oneCell' = true := by
        intro u hu
        rw [hzz] at hu
        simp only [Array.toList_map, List.mem_map] at hu
        obtain ⟨q, hq, rfl⟩ := hu
        have hq1 : q < n * ye.size := by simpa using hq
        have hzc : 0 < z.cells.size := by
          rw [i8]
          rcases Nat.eq_zero_or_pos ye.size with e | e
          · rw [e, Nat.mul_zero] at hq1; omega
          · exact e
        have hlt := Nat.mod_lt q hzc
        refine i6 _ ?_
        rw [getElem!_pos z.cells _ hlt]
        exact Array.getElem_mem_toList hlt
      obtain ⟨cs, h3, h4, h5⟩ := hf E h a S.facts.rd trivial zz (by have := denL_any (E := E) (h := h) zz.toList; rw [Array.length_toList, hzs] at this; exact this) hz1
      refine ⟨.slice (some ⟨w.heap.size, 0, none⟩) n n, w.alloc (.cells cs e), cs.size, (Chunk.kn (.box rs)), ?_, (Below.refl _ w).alloc (Nat.le_refl _) _, ?_, ?_⟩
      · have hp : (parts.map fun p => (p.1, a.eval p.2)).toList = parts.toList.map fun p => (p.1, a.eval p.2) := by simp
        have h6 : ¬ (n * ye.size > 2 ^ 24) := by simp; omega
        simp only [execOp, ho, Instr.buildSlice, Sem.run_bind, run_underlying hu, Result.andThen_ok, hte.sizeOf w, Sem.run_ite, if_neg h6, if_neg hn0, Sem.run_pure]
        have hz : (zeroValue e).run P w = .ok z w := by simp [zeroValue, typeInfo, i1, i4]
        simp only [hz, Result.andThen_ok]
        rw [hp, ← hzz, h3]
        simp [newRow]
      · exact ⟨E.set_real _ _ _ _, cs.toList, [], e, by rw [Env.set_blk, heap_new]; simp, DenL.env (E.off_set _ _ _ _) hfr h4, h5, by rw [Env.set_siz]; simp⟩
      · simp only [Den]
        exact ⟨E.set_real _ _ _ _, n, by rw [Env.set_blk], Nat.le_refl _, by omega, .inl rfl⟩
  rename_i k hke
  split at hh
  case h_2 => exact hh.elim
  rename_i hb1 hb2 hb3 hb4
  have hn := nbeq_true hb2
  have hs1 := nbeq_true hb3
  have hn2 := Nat.le_of_ble_eq_true hb4
  obtain ⟨ds, hh, hl, hds⟩ := rds_el hh
  obtain ⟨xs, hz', rfl⟩ := intsOf_el hh
  refine heavy_new hd hz' fun E h a w S => ?_
  obtain ⟨h1, h2⟩ := denL_ints (hds E h a S.facts.rd trivial)
  obtain ⟨iy, z, i1, i2, i3, i4, i5, i6, i7, i8, i9⟩ := hte.info
  have hlen : xs.length = n := by simp only [List.length_map] at hl hn; omega
  have hz : n ≠ 0 → (zeroValue e).run P w = .ok z w := fun _ => by simp [zeroValue, typeInfo, i1, i4]
  have hvals : ∀ p ∈ parts.toList, ∃ k m, a.eval p.2 = .int k m := by
    intro p hp
    have : a.eval p.2 ∈ (parts.toList.map (·.2)).map a.eval := by simp only [List.map_map]; exact List.mem_map.2 ⟨p, hp, rfl⟩
    rw [h1] at this
    obtain ⟨m, _, hm⟩ := List.mem_map.1 this
    exact ⟨k, m, hm.symm⟩
  obtain ⟨zz, hzz⟩ : ∃ zz : Array Value, zz = (Array.range (n * 1)).map ((if n = 0 then #[] else z.cells)[· % (if n = 0 then #[] else z.cells).size]!) := ⟨_, rfl⟩
  have hzs : zz.size = n := by rw [hzz]; simp
  obtain ⟨cs, h3, h4⟩ := fill_seq a.eval parts.toList 0 zz hb1 (by rw [hzs]; omega) hvals
  have h5 : cs.toList = xs.map (Value.int k) := by rw [h4, ← h1]; simp
  refine ⟨.slice (some ⟨w.heap.size, 0, none⟩) n n, w.alloc (.cells cs e), n, n, ?_, (Below.refl _ w).alloc (Nat.le_refl _) _, ?_, ?_⟩
  · have hp : (parts.map fun p => (p.1, a.eval p.2)).toList = parts.toList.map fun p => (p.1, a.eval p.2) := by simp
    have hsz : (sizeOf e).run P w = .ok 1 w := by rw [hte.sizeOf w, hs1]
    by_cases hn0 : n = 0
    · subst hn0
      simp only [if_true] at hzz
      simp only [execOp, ho, Instr.buildSlice, Sem.run_bind, run_underlying hu, Result.andThen_ok, hsz, Sem.run_ite]
      simp only [Nat.zero_mul, gt_iff_lt, Nat.not_lt_zero, if_false, if_true, Sem.run_pure, Result.andThen_ok]
      have hzz' : zz = (Array.range 0).map ((#[] : Array Value)[· % (#[] : Array Value).size]!) := by rw [hzz]
      rw [hp, ← hzz', show (fun i => some (i * 1, 1)) = (fun i : Nat => some (i * 1, 1)) from rfl, h3]
      simp [newRow]
    · simp only [if_neg hn0] at hzz
      have h6 : ¬ (n * 1 > 2 ^ 24) := by simp; omega
      have h7 : ¬ (n * 1 = 0) := by omega
      simp only [execOp, ho, Instr.buildSlice, Sem.run_bind, run_underlying hu, Result.andThen_ok, hsz, Sem.run_ite, if_neg h6, if_neg h7, Sem.run_pure, hz hn0]
      rw [hp, ← hzz, h3]
      simp [newRow]
  · refine .inr ⟨E.set_real _ _ _ _, [], e, ?_, ?_, h2, by rw [Env.set_kn]; omega⟩
    · rw [Env.set_blk, heap_new]; congr 2; apply Array.toList_inj.1; simp [h5]
    · rw [Env.set_siz]; simp [hlen]
  · simp only [Den]
    exact .inr ⟨E.set_real _ _ _ _, 0, n, by rw [Env.set_blk], Nat.le_refl _, by rw [Env.set_siz]; omega, by omega, .inl rfl, by rw [Env.set_kn]; omega⟩
def zero0K (y : Ty) (k : IntKind) (K : Prop) : Prop := match y.zero with
  | [.int k' 0] => match kE k k' with | true => K | false => False
  | _ => False
theorem zero0_el {y : Ty} {k : IntKind} {K : Prop} (h : zero0K y k K) : y.zero = [.int k 0] ∧ K := by
  unfold zero0K at h
  split at h
  · rename_i k' heq
    cases hk : kE k k' with
    | false => rw [hk] at h; exact h.elim
    | true => rw [hk] at h; have := kE_eq hk; subst this; exact ⟨heq, h⟩
  · exact h.elim
def repD : Nat → List D → List D
  | 0, _ => []
  | n + 1, zs => repD n zs ++ zs
theorem freeL_append {i : Nat} : ∀ {a b : List D}, D.freeL i a = true → D.freeL i b = true → D.freeL i (a ++ b) = true
  | [], _, _, hb => hb
  | d :: ds, b, ha, hb => by
    simp only [List.cons_append, D.freeL] at ha ⊢
    split at ha
    · exact freeL_append ha hb
    · cases ha
theorem freeL_rep {i : Nat} {zs : List D} (h : D.freeL i zs = true) : ∀ n, D.freeL i (repD n zs) = true
  | 0 => rfl
  | n + 1 => freeL_append (freeL_rep h n) h
theorem denL_append' {E : Env} {h : Pub} : ∀ {a b : List D} {us vs : List Value}, DenL E h a us → DenL E h b vs → DenL E h (a ++ b) (us ++ vs)
  | [], _, us, vs, ha, hb => by simp only [DenL] at ha; subst ha; exact hb
  | d :: ds, b, us, vs, ha, hb => by
    simp only [List.cons_append, DenL] at ha ⊢
    obtain ⟨v, vs', rfl, h1, h2⟩ := ha
    exact ⟨v, vs' ++ vs, rfl, h1, denL_append' h2 hb⟩
theorem madeCells_rep {E : Env} {h : Pub} {z : Array Value} {zs : List D} (hz : 0 < z.size) (hd : DenL E h zs z.toList) : ∀ n, DenL E h (repD n zs) (madeCells z (n * z.size)).toList
  | 0 => by simp [repD, DenL, madeCells]
  | n + 1 => by
    have e : (madeCells z ((n + 1) * z.size)).toList = (madeCells z (n * z.size)).toList ++ z.toList := by
      simp only [madeCells, Array.toList_map, Array.toList_range]
      rw [Nat.add_mul, Nat.one_mul, List.range_add, List.map_append, List.map_map]
      congr 1
      apply List.ext_getElem?
      intro i
      simp only [List.getElem?_map]
      by_cases hi : i < z.size
      · have e2 : (n * z.size + i) % z.size = i := by rw [Nat.mul_comm, Nat.mul_add_mod, Nat.mod_eq_of_lt hi]
        simp [hi, e2]
      · simp [hi]
    rw [e]
    exact denL_append' (madeCells_rep hz hd n) hd
def makeSliceK (tb : Tb) (N off : Nat) (d t : Nat) (l c : Operand) (L : Sl) (H : Hp) (K : K2) : Prop := tyK tb t fun y => match y.kind with
  | .slice e => tyK tb e fun ye => match ye.kind with
    | .int k => zero0K ye k <| match Nat.beq ye.size 1, Nat.ble ye.bytes 8 with
      | true, true => rdg True L l fun dl => rdg True L c fun dc => match dl, dc with
        | .int _ m, .int _ n => (True → 0 ≤ m ∧ m ≤ n ∧ n ≤ 17592186044416) ∧ ltK d N (newK off d (.osl (off + d) 0 m.toNat) (.arr k (List.replicate m.toNat 0)) L H K)
        | _, _ => False
      | _, _ => False
    | _ => match Nat.beq ye.size 0, Nat.ble ye.bytes 1000, D.freeL (off + d) ye.zero with
      | false, true, true => rdg True L l fun dl => rdg True L c fun dc => match dl, dc with
        | .int _ m, .int _ n => (True → m = n ∧ 0 ≤ m ∧ m ≤ 100000) ∧ ltK d N (newK off d (.bsl (off + d) 0 m.toNat ye.size) (.box (repD m.toNat ye.zero)) L H K)
        | _, _ => False
      | _, _, _ => False
  | _ => False
theorem zero_inR (k : IntKind) : InR k 0 := ⟨lo_le_zero k, zero_le_hi k⟩
theorem madeCells_int {k : IntKind} {z : Value} (hz : z = .int k 0) (n : Nat) : (madeCells z.cells n).toList = List.replicate n (.int k 0) := by
  subst hz
  simp only [madeCells, Value.cells]
  apply List.ext_getElem?
  intro i
  by_cases hi : i < n
  · simp [hi, Nat.mod_one]
  · simp [hi]
theorem zero_int {e : Nat} {ye : Ty} (hte : TyOk P e ye) : ∃ iy, P.info? e = some iy ∧ iy.size = ye.size ∧ iy.bytes = ye.bytes ∧ ∃ z, iy.zero = some z ∧ (∀ E h, DenL E h ye.zero z.cells.toList) := by
  obtain ⟨iy, z, i1, i2, i3, i4, i5, _⟩ := hte.info
  exact ⟨iy, i1, i2, i3, z, i4, i5⟩
theorem makeSlice_el (htb : TbOk P tb) {d t : Nat} {l c : Operand} (hd : o.dst = some d) (ho : o.op = .makeSlice t l c) (hh : makeSliceK tb N cx.off d t l c L H K) : Heavy P N cx Q o K L H := by
  have hx := tyK_iff hh; clear hh; obtain ⟨y, hy, hh⟩ := hx
  have hty := htb _ _ hy
  split at hh
  case h_2 => exact hh.elim
  rename_i e hk
  have hu := kind_slice hty hk
  have hx := tyK_iff hh; clear hh; obtain ⟨ye, hye, hh⟩ := hx
  have hte := htb _ _ hye
  split at hh
  case h_2 =>
    split at hh
    case h_2 => exact hh.elim
    rename_i hb1 hb2 hb3
    have hb8 := Nat.le_of_ble_eq_true hb2
    have hz := rdg_el hh; clear hh; obtain ⟨dl, hh, hl⟩ := hz
    have hz := rdg_el hh; clear hh; obtain ⟨dc, hh, hc⟩ := hz
    split at hh
    case h_2 => exact hh.elim
    rename_i k1 m k2 n
    obtain ⟨g1, g2, g3⟩ := hh.1 trivial
    subst g1
    obtain ⟨iy, z, i1, i2, i3, i4, i5, i6, i7, i8, i9⟩ := hte.info
    refine heavy_new hd hh.2 fun E h a w S => ?_
    have h1 := hl E h a trivial (S.facts.rd l)
    have h2 := hc E h a trivial (S.facts.rd c)
    simp only [Den] at h1 h2
    have hbytes : (iy.bytes : Int) * m ≤ 281474976710656 := by
      have e1 : (iy.bytes : Int) ≤ 1000 := by rw [i3]; omega
      have e2 : (iy.bytes : Int) * m ≤ 1000 * m := Int.mul_le_mul_of_nonneg_right e1 (by omega)
      omega
    have hrun := run_make (P := P) w t e iy z hu i1 i4 k1 k2 m m g2 (Int.le_refl _) hbytes (by omega)
    have hs0 : 0 < z.cells.size := by
      rw [i8]
      rcases Nat.eq_zero_or_pos ye.size with e | e
      · rw [e] at hb1; exact absurd hb1 (by decide)
      · exact e
    have hcl : ∀ v ∈ (madeCells z.cells (m.toNat * iy.size)).toList, v.oneCell' = true := by
      intro v hv
      simp only [madeCells, Array.toList_map, List.mem_map] at hv
      obtain ⟨q, _, rfl⟩ := hv
      refine i6 _ ?_
      have hlt := Nat.mod_lt q hs0
      rw [getElem!_pos z.cells _ hlt]
      exact Array.getElem_mem_toList hlt
    refine ⟨_, _, (madeCells z.cells (m.toNat * iy.size)).size, Chunk.kn (.box (repD m.toNat ye.zero)), by simp only [execOp, ho, h1.1, h2.1]; rw [Sem.run_bind, hrun]; rfl, (Below.refl _ w).alloc (Nat.le_refl _) _, ?_, ?_⟩
    · have hdn : DenL E h (repD m.toNat ye.zero) (madeCells z.cells (m.toNat * iy.size)).toList := by
        rw [i2, ← i8]
        exact madeCells_rep hs0 (i5 E h) _
      exact ⟨E.set_real _ _ _ _, (madeCells z.cells (m.toNat * iy.size)).toList, [], e, by rw [Env.set_blk, heap_new]; simp, DenL.env (E.off_set _ _ _ _) (freeL_rep hb3 _) hdn, hcl, by rw [Env.set_siz]; simp⟩
    · simp only [Den]
      exact ⟨E.set_real _ _ _ _, m.toNat, by rw [Env.set_blk], Nat.le_refl _, by omega, .inl rfl⟩
  rename_i k hke
  obtain ⟨hz0, hh⟩ := zero0_el hh
  split at hh
  case h_2 => exact hh.elim
  rename_i hb1 hb2
  have hs1 := nbeq_true hb1
  have hb8 := Nat.le_of_ble_eq_true hb2
  have hz := rdg_el hh; clear hh; obtain ⟨dl, hh, hl⟩ := hz
  have hz := rdg_el hh; clear hh; obtain ⟨dc, hh, hc⟩ := hz
  split at hh
  case h_2 => exact hh.elim
  rename_i k1 m k2 n
  obtain ⟨g1, g2, g3⟩ := hh.1 trivial
  obtain ⟨iy, i1, i2, i3, z, i4, i5⟩ := zero_int hte
  refine heavy_new hd hh.2 fun E h a w S => ?_
  have h1 := hl E h a trivial (S.facts.rd l)
  have h2 := hc E h a trivial (S.facts.rd c)
  simp only [Den] at h1 h2
  have hzc : z.cells.toList = [.int k 0] := by
    have := i5 E h
    rw [hz0] at this
    simp only [DenL, Den] at this
    obtain ⟨_, _, h3, ⟨rfl, _⟩, rfl⟩ := this
    exact h3
  have hbytes : (iy.bytes : Int) * n ≤ 281474976710656 := by
    have : (iy.bytes : Int) ≤ 8 := by rw [i3]; omega
    have h4 : (iy.bytes : Int) * n ≤ 8 * n := Int.mul_le_mul_of_nonneg_right this (by omega)
    omega
  have hrun := run_make (P := P) w t e iy z hu i1 i4 k1 k2 m n g1 g2 hbytes (by omega)
  have hmc : (madeCells z.cells (n.toNat * iy.size)).toList = List.replicate n.toNat (.int k 0) := by
    rw [i2, hs1, Nat.mul_one]
    have hz' : z.cells = #[.int k 0] := Array.toList_inj.1 (by simpa using hzc)
    have := madeCells_int (k := k) (z := .int k 0) rfl n.toNat
    rw [hz']; exact this
  refine ⟨_, _, n.toNat, m.toNat, by simp only [execOp, ho, h1.1, h2.1]; rw [Sem.run_bind, hrun]; rfl, (Below.refl _ w).alloc (Nat.le_refl _) _, ?_, ?_⟩
  · refine .inr ⟨E.set_real _ _ _ _, List.replicate (n.toNat - m.toNat) (.int k 0), e, ?_, ?_, ?_, by rw [Env.set_kn]; simp⟩
    · rw [Env.set_blk, heap_new]
      congr 2
      apply Array.toList_inj.1
      rw [hmc]
      simp only [List.map_replicate, List.replicate_append_replicate]
      congr 1; omega
    · rw [Env.set_siz]; simp; omega
    · intro x hx
      rw [List.eq_of_mem_replicate hx]; exact zero_inR k
  · simp only [Den]
    exact .inr ⟨E.set_real _ _ _ _, 0, n.toNat, by rw [Env.set_blk], by omega, by rw [Env.set_siz]; omega, by omega, .inl rfl, by rw [Env.set_kn]; omega⟩
def srcK (k : IntKind) (H : Hp) (d : D) (K : List Int → Prop) : Prop := match d with
  | .ints k' ys => match kE k k' with | true => K ys | false => False
  | .nil => K []
  | .osl i off len => lookHK H i fun c => match c with
    | .arr k' ys => match kE k k' with | true => (True → off + len ≤ ys.length) ∧ K ((ys.drop off).take len) | false => False
    | _ => False
  | _ => False
theorem src_el {k : IntKind} {H : Hp} {d : D} {K : List Int → Prop} (hh : srcK k H d K) :
    ∃ ys, K ys ∧ ∀ E h a (w : World) L, Facts E h a w L H → ∀ v, Den E h d v → (∀ n ∈ ys, InR k n) ∧ ys.length ≤ 281474976710656 ∧ ∃ ad cap, v = .slice ad ys.length cap ∧
      (match ad with | none => ys = [] | some ad => ∀ (j : Nat) u, (ys.map (Value.int k))[j]? = some u → w.cell? (ad.add j) = some u) := by
  unfold srcK at hh
  split at hh
  · rename_i k' ys
    split at hh
    case h_2 => exact hh.elim
    rename_i hk
    have := kE_eq hk; subst this
    refine ⟨ys, hh, fun E h a w L F v hv => ?_⟩
    simp only [Den, slIntsOk] at hv
    obtain ⟨ad, cap, rfl, h1, h2, h3, h4⟩ := hv
    refine ⟨h3, h2, ad, cap, rfl, ?_⟩
    cases ad with
    | none => exact h4.1
    | some ad =>
      intro j u hu
      rw [List.getElem?_map] at hu
      cases hx : ys[j]? with
      | none => rw [hx] at hu; cases hu
      | some n => rw [hx] at hu; cases hu; rw [addr_add' h4.1]; exact F.agree _ _ _ (h4.2 j n hx)
  · refine ⟨[], hh, fun E h a w L F v hv => ?_⟩
    simp only [Den] at hv
    exact ⟨by simp, by simp, none, 0, by simpa using hv, rfl⟩
  · rename_i i off len
    have hy' := lookHK_el hh; clear hh; obtain ⟨c, hc, hh⟩ := hy'
    split at hh
    case h_2 => exact hh.elim
    rename_i k' ys
    split at hh
    case h_2 => exact hh.elim
    rename_i hk
    have := kE_eq hk; subst this
    have hle := hh.1 trivial
    refine ⟨_, hh.2, fun E h a w L F v hv => ?_⟩
    simp only [Den] at hv
    rcases hv with ⟨hreal, rfl, hl0⟩ | ⟨hreal, o, cap, rfl, h1, h2, h3, h4, hko⟩
    · subst hl0
      simp only [List.take_zero]
      exact ⟨by simp, by simp, none, 0, rfl, trivial⟩
    obtain ⟨rest, T, hb, hsz, hr, hkn⟩ := arr_real hreal (F.chunk _ _ hc)
    have hlen : ((ys.drop off).take len).length = len := by simp; omega
    refine ⟨fun n hn => hr n (List.mem_of_mem_drop (List.mem_of_mem_take hn)), by omega, _, cap, by rw [hlen], ?_⟩
    intro j u hu
    have hj : j < len := by
      have := (List.getElem?_eq_some_iff.1 hu).1
      simp at this; omega
    rw [addr_add]
    have ho : o = off := by rcases h4 with h4 | h4 <;> omega
    subst ho
    refine cell_row hb ?_
    rw [List.getElem?_append_left (by simp; omega)]
    rw [List.map_take, List.map_drop] at hu
    have := take_some hu
    simpa using this
  · exact hh.elim
def Env.virt (E : Env) (i : Nat) : Env := ⟨E.blk, E.siz, E.kn, fun j => if j = i then false else E.real j, E.lpr⟩
theorem Env.off_virt (E : Env) (i : Nat) : E.off (E.virt i) i := fun j hj => by simp [Env.virt, hj]
theorem Env.virt_real (E : Env) (i : Nat) : (E.virt i).real i = false := by simp [Env.virt]
section
variable {E : Env} {h : Pub} {a : Act} {w : World}
theorem Sat.fresh (S : Sat cx E h a w L H) {i : Nat} {r : D} {c : Chunk} {v : Value} {w' : World} {b s n : Nat}
    (ho : w'.os = w.os) (ht : w'.tape = w.tape) (hout : w'.output = w.output) (hsz : w.heap.size ≤ w'.heap.size)
    (hkeep : ∀ k, k < w.heap.size → k ≠ b → w'.heap[k]? = w.heap[k]?) (hB : cx.w0.heap.size ≤ b) (hpub : ∀ o, h b o = none)
    (hcell : ∀ o, w.heap[b]? = some o → o.isCells = true)
    (hinj : ∀ j c', j ≠ i → lookH H j = some c' → c'.live = true → E.real j = true → E.blk j ≠ b)
    (hc : ChunkOk (E.set i b s n) h w' i c) {d : Nat} (hi : d < a.tmps.size) (hoff' : cx.off ≤ i) (hv : Den (E.set i b s n) h r v) :
    Sat cx (E.set i b s n) h (a.put (some d) v) w' ((d, r) :: purge i L) ((i, c) :: purgeH i H) := by
  have hoff := E.off_set i b s n
  have live : ∀ j c', j ≠ i → lookH ((i, c) :: purgeH i H) j = some c' → c'.live = true → ∃ c0, lookH H j = some c0 ∧ c' = purgeC i c0 ∧ c0.live = true := by
    intro j c' hj hc' hl
    rw [lookH_cons, if_neg (Ne.symm hj)] at hc'
    obtain ⟨c0, h1, h2⟩ := lookH_purge hc'
    exact ⟨c0, h1, h2, by rw [h2, purgeC_live] at hl; exact hl⟩
  refine { knows := ?_, mem := ?_, agree := ?_, since := ?_, low := fun j hj => low_off S.low hoff hoff' j hj, side := S.side.keep fun k o hko hno => (by
    by_cases e : k = b
    · subst e; rw [hcell o hko] at hno; cases hno
    · rw [hkeep k (Array.getElem?_eq_some_iff.1 hko).1 e]; exact hko) }
  · exact knows_put (fun t => look_purge hoff (S.knows t)) hi hv
  · refine { ok := ?_, base := ?_, unpub := ?_, inj := ?_ }
    · intro j c' hc'
      by_cases hj : j = i
      · subst hj; rw [lookH_cons, if_pos rfl] at hc'; cases hc'; exact hc
      · cases hl : c'.live with
        | false => cases c' <;> first | trivial | (simp [Chunk.live] at hl)
        | true =>
          obtain ⟨c0, h1, rfl, hl'⟩ := live j c' hj hc' hl
          have h4 := S.mem.ok j _ h1
          exact ChunkOk.env hoff hj (h4.keep fun hl hr => hkeep _ (h4.lt hl hr) (hinj j _ hj h1 hl hr))
    · intro j c' hc' hl hr
      by_cases hj : j = i
      · subst hj; rw [Env.set_blk]; exact hB
      · obtain ⟨c0, h1, rfl, hl'⟩ := live j c' hj hc' hl
        rw [E.set_real_ne _ _ _ hj] at hr
        rw [E.set_blk_ne _ _ _ hj]; exact S.mem.base j _ h1 hl' hr
    · intro j c' hc' hl hr o
      by_cases hj : j = i
      · subst hj; rw [Env.set_blk]; exact hpub o
      · obtain ⟨c0, h1, rfl, hl'⟩ := live j c' hj hc' hl
        rw [E.set_real_ne _ _ _ hj] at hr
        rw [E.set_blk_ne _ _ _ hj]; exact S.mem.unpub j _ h1 hl' hr o
    · intro j k c1 c2 hjk h1 h2 l1 l2 r1 r2
      by_cases hj : j = i
      · subst hj
        obtain ⟨c0, g1, rfl, l2'⟩ := live k c2 (Ne.symm hjk) h2 l2
        rw [E.set_real_ne _ _ _ (Ne.symm hjk)] at r2
        rw [Env.set_blk, E.set_blk_ne _ _ _ (Ne.symm hjk)]
        exact (hinj k _ (Ne.symm hjk) g1 l2' r2).symm
      · obtain ⟨c0, g1, rfl, l1'⟩ := live j c1 hj h1 l1
        rw [E.set_real_ne _ _ _ hj] at r1
        by_cases hk : k = i
        · subst hk
          rw [Env.set_blk, E.set_blk_ne _ _ _ hj]
          exact hinj j _ hj g1 l1' r1
        · obtain ⟨c0', g2, rfl, l2'⟩ := live k c2 hk h2 l2
          rw [E.set_real_ne _ _ _ hk] at r2
          rw [E.set_blk_ne _ _ _ hj, E.set_blk_ne _ _ _ hk]
          exact S.mem.inj j k _ _ hjk g1 g2 l1' l2' r1 r2
  · exact S.agree.of_blocks fun k ⟨o, v, hw⟩ => hkeep k (S.agree.lt hw) (fun e => by subst e; rw [hpub o] at hw; cases hw)
  · exact ⟨S.since.below.trans ⟨ho, ht, hout, hsz, fun k hk => hkeep k (Nat.lt_of_lt_of_le hk S.since.below.size) (by omega)⟩, S.since.le, S.since.old⟩
theorem Sat.virt (S : Sat cx E h a w L H) {i : Nat} {r : D} {k : IntKind} {v : Value} {d : Nat} (hi : d < a.tmps.size) (hoff' : cx.off ≤ i) (hv : Den (E.virt i) h r v) :
    Sat cx (E.virt i) h (a.put (some d) v) w ((d, r) :: purge i L) ((i, .arr k []) :: purgeH i H) := by
  have hoff := E.off_virt i
  have live : ∀ j c', j ≠ i → lookH ((i, .arr k []) :: purgeH i H) j = some c' → c'.live = true → ∃ c0, lookH H j = some c0 ∧ c' = purgeC i c0 ∧ c0.live = true := by
    intro j c' hj hc' hl
    rw [lookH_cons, if_neg (Ne.symm hj)] at hc'
    obtain ⟨c0, h1, h2⟩ := lookH_purge hc'
    exact ⟨c0, h1, h2, by rw [h2, purgeC_live] at hl; exact hl⟩
  have hne : ∀ j, (E.virt i).real j = true → j ≠ i := fun j hr e => by subst e; rw [E.virt_real] at hr; cases hr
  have hre : ∀ j, j ≠ i → (E.virt i).real j = E.real j := fun j hj => (hoff j hj).2.2.2.1
  refine { knows := ?_, mem := ?_, agree := S.agree, since := S.since, low := fun j hj => low_off S.low hoff hoff' j hj, side := S.side }
  · exact knows_put (fun t => look_purge hoff (S.knows t)) hi hv
  · refine { ok := ?_, base := ?_, unpub := ?_, inj := ?_ }
    · intro j c' hc'
      by_cases hj : j = i
      · subst hj; rw [lookH_cons, if_pos rfl] at hc'; cases hc'; exact .inl ⟨E.virt_real _, rfl⟩
      · cases hl : c'.live with
        | false => cases c' <;> first | trivial | (simp [Chunk.live] at hl)
        | true =>
          obtain ⟨c0, h1, rfl, hl'⟩ := live j c' hj hc' hl
          exact ChunkOk.env hoff hj (S.mem.ok j _ h1)
    · intro j c' hc' hl hr
      have hj := hne j hr
      obtain ⟨c0, h1, rfl, hl'⟩ := live j c' hj hc' hl
      rw [hre j hj] at hr
      exact S.mem.base j _ h1 hl' hr
    · intro j c' hc' hl hr o
      have hj := hne j hr
      obtain ⟨c0, h1, rfl, hl'⟩ := live j c' hj hc' hl
      rw [hre j hj] at hr
      exact S.mem.unpub j _ h1 hl' hr o
    · intro j k' c1 c2 hjk h1 h2 l1 l2 r1 r2
      have hj := hne j r1
      have hk := hne k' r2
      obtain ⟨c0, g1, rfl, l1'⟩ := live j c1 hj h1 l1
      obtain ⟨c0', g2, rfl, l2'⟩ := live k' c2 hk h2 l2
      rw [hre j hj] at r1
      rw [hre k' hk] at r2
      exact S.mem.inj j k' _ _ hjk g1 g2 l1' l2' r1 r2
end
end
end Go.V
end
