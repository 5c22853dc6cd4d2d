/- Laws of a small interpreter over plain values, part 9. No condition. -/
import Derived.Test.YtgjgpdceghjajaaGreatDoorSimplexRefinedH8
set_option linter.unusedSimpArgs false
set_option linter.unusedVariables false
set_option maxHeartbeats 8000000
set_option maxRecDepth 100000
section
namespace Go.V
open Go Go.RowKit
def sub0 (k : IntKind) (xs : List Int) (off len : Nat) : D := match off with
 | 0 => .ints k (xs.take len)
 | o + 1 => .ints k ((xs.drop (o + 1)).take len)
theorem jgZ (k : IntKind) (xs : List Int) (off len : Nat) : sub0 k xs off len = .ints k ((xs.drop off).take len) := by cases off <;> rfl
def subK (k : IntKind) (xs : List Int) (off len : Nat) (K : D → Prop) : Prop := match off with
 | 0 => K (.ints k (xs.take len))
 | o + 1 => K (.ints k ((xs.drop (o + 1)).take len))
theorem subK_eq (k : IntKind) (xs : List Int) (off len : Nat) (K : D → Prop) : subK k xs off len K = K (sub0 k xs off len) := by cases off <;> rfl
def bslOk (ds : List D) (off len e : Nat) : Bool := match D.pureL ds with
 | true => Nat.ble (off + len * e) ds.length
 | false => false
mutual
def pubD (i : Nat) (c : Chunk) : D → D
 | .osl j off len => match Nat.beq i j with
  | true => match c with | .arr k xs => sub0 k xs off len | _ => .any
  | false => .osl j off len
 | .box j off => match Nat.beq i j with
  | true => match c with | .box ds => .ref (ds.drop off) | .arr k xs => .ref ((xs.map (D.int k)).drop off) | _ => .any
  | false => .box j off
 | .bsl j off len e => match Nat.beq i j with
  | true => match c with
   | .box ds => match bslOk ds off len e with | true => .slf e len (fun q => (ds.drop (off + q * e)).take e) | false => .any
   | .arr k xs => match Nat.beq e 1, Nat.ble (off + len) xs.length with | true, true => sub0 k xs off len | _, _ => .any
   | _ => .any
  | false => .bsl j off len e
 | .agg ds => .agg (pubL i c ds)
 | .tup ds => .tup (pubL i c ds)
 | .fn f es ds => .fn f (pubL i c es) (pubL i c ds)
 | .ref ds => .ref (pubL i c ds)
 | .gd b d => .gd b (pubD i c d)
 | .any => .any
 | .undef => .undef
 | .bool b => .bool b
 | .int k n => .int k n
 | .str s => .str s
 | .nil => .nil
 | .ints k xs => .ints k xs
 | .slf e n f => .slf e n f
 | .iarr k xs => .iarr k xs
 | .gp g => .gp g
 | .yld g => .yld g
 | .val g => .val g
 | .anyb p => .anyb p
def pubL (i : Nat) (c : Chunk) : List D → List D
 | [] => []
 | d :: ds => pubD i c d :: pubL i c ds
end
mutual
def pubDK (i : Nat) (c : Chunk) : D → (D → Prop) → Prop
 | .osl j off len, K => match Nat.beq i j with
  | true => match c with | .arr k xs => subK k xs off len K | _ => K .any
  | false => K (.osl j off len)
 | .box j off, K => match Nat.beq i j with
  | true => match c with | .box ds => K (.ref (ds.drop off)) | .arr k xs => K (.ref ((xs.map (D.int k)).drop off)) | _ => K .any
  | false => K (.box j off)
 | .bsl j off len e, K => match Nat.beq i j with
  | true => match c with
   | .box ds => match bslOk ds off len e with | true => K (.slf e len (fun q => (ds.drop (off + q * e)).take e)) | false => K .any
   | .arr k xs => match Nat.beq e 1, Nat.ble (off + len) xs.length with | true, true => subK k xs off len K | _, _ => K .any
   | _ => K .any
  | false => K (.bsl j off len e)
 | .agg ds, K => pubLK i c ds fun ds => K (.agg ds)
 | .tup ds, K => pubLK i c ds fun ds => K (.tup ds)
 | .fn f es ds, K => pubLK i c es fun es => pubLK i c ds fun ds => K (.fn f es ds)
 | .ref ds, K => pubLK i c ds fun ds => K (.ref ds)
 | .gd b d, K => pubDK i c d fun d => K (.gd b d)
 | .any, K => K .any
 | .undef, K => K .undef
 | .bool b, K => K (.bool b)
 | .int k n, K => K (.int k n)
 | .str s, K => K (.str s)
 | .nil, K => K .nil
 | .ints k xs, K => K (.ints k xs)
 | .slf e n f, K => K (.slf e n f)
 | .iarr k xs, K => K (.iarr k xs)
 | .gp g, K => K (.gp g)
 | .yld g, K => K (.yld g)
 | .val g, K => K (.val g)
 | .anyb p, K => K (.anyb p)
def pubLK (i : Nat) (c : Chunk) : List D → (List D → Prop) → Prop
 | [], K => K []
 | d :: ds, K => pubDK i c d fun d => pubLK i c ds fun ds => K (d :: ds)
end
mutual
theorem jf2 (i : Nat) (c : Chunk) : ∀ (d : D) (K : D → Prop), pubDK i c d K = K (pubD i c d)
 | .osl j off len, K => by
  simp only [pubDK, pubD]
  cases Nat.beq i j <;> simp only
  cases c <;> simp only [subK_eq]
 | .box j off, K => by
  simp only [pubDK, pubD]
  cases Nat.beq i j <;> simp only
  cases c <;> simp only
 | .bsl j off len e, K => by
  simp only [pubDK, pubD]
  cases Nat.beq i j <;> simp only
  cases c <;> simp only
  ·rename_i ds
   cases bslOk ds off len e <;> simp only
  ·rename_i k xs
   cases Nat.beq e 1 <;> cases Nat.ble (off + len) xs.length <;> simp only [subK_eq]
 | .agg ds, K => by simp only [pubDK, pubD]; exact jby i c ds _
 | .tup ds, K => by simp only [pubDK, pubD]; exact jby i c ds _
 | .fn f es ds, K => by simp only [pubDK, pubD]; rw [jby i c es]; exact jby i c ds _
 | .ref ds, K => by simp only [pubDK, pubD]; exact jby i c ds _
 | .gd b d, K => by simp only [pubDK, pubD]; exact jf2 i c d _
 | .any, K => by simp only [pubDK, pubD]
 | .undef, K => by simp only [pubDK, pubD]
 | .bool b, K => by simp only [pubDK, pubD]
 | .int k n, K => by simp only [pubDK, pubD]
 | .str s, K => by simp only [pubDK, pubD]
 | .nil, K => by simp only [pubDK, pubD]
 | .ints k xs, K => by simp only [pubDK, pubD]
 | .slf e n f, K => by simp only [pubDK, pubD]
 | .iarr k xs, K => by simp only [pubDK, pubD]
 | .gp g, K => by simp only [pubDK, pubD]
 | .yld g, K => by simp only [pubDK, pubD]
 | .val g, K => by simp only [pubDK, pubD]
 | .anyb g, K => by simp only [pubDK, pubD]
theorem jby (i : Nat) (c : Chunk) : ∀ (ds : List D) (K : List D → Prop), pubLK i c ds K = K (pubL i c ds)
 | [], K => by simp only [pubLK, pubL]
 | d :: ds, K => by simp only [pubLK, pubL]; rw [jf2 i c d]; exact jby i c ds _
end
def pubSl (i : Nat) (c : Chunk) : Sl → Sl
 | [] => []
 | (t, d) :: L => (t, pubD i c d) :: pubSl i c L
def jfu (i : Nat) (c : Chunk) : Sl → (Sl → Prop) → Prop
 | [], K => K []
 | (t, d) :: L, K => pubDK i c d fun d => jfu i c L fun L => K ((t, d) :: L)
theorem jeC (i : Nat) (c : Chunk) (L : Sl) (K : Sl → Prop) : jfu i c L K = K (pubSl i c L) := by
 induction L generalizing K with
 | nil => rfl
 | cons x L ih => obtain ⟨t, d⟩ := x; simp only [jfu, pubSl, jf2, ih]
theorem look_pub (i : Nat) (c : Chunk) (L : Sl) (t : Nat) : look (pubSl i c L) t = pubD i c (look L t) := by
 induction L with
 | nil => simp [pubSl, look, pubD]
 | cons x L ih =>
  obtain ⟨s, d⟩ := x
  simp only [pubSl, jaI]
  split
  ·rfl
  ·exact ih
def pubC (i : Nat) (c : Chunk) : Chunk → Chunk
 | .box ds => .box (pubL i c ds)
 | .arr k xs => .arr k xs
 | .gone => .gone
 | .lp p => .lp p
def pubHp (i : Nat) (c : Chunk) : Hp → Hp
 | [] => []
 | (j, x) :: H => (j, pubC i c x) :: pubHp i c H
def jdo (i : Nat) (c : Chunk) : Hp → (Hp → Prop) → Prop
 | [], K => K []
 | (j, x) :: H, K => match x with
  | .box ds => pubLK i c ds fun ds => jdo i c H fun H => K ((j, .box ds) :: H)
  | .arr k xs => jdo i c H fun H => K ((j, .arr k xs) :: H)
  | .gone => jdo i c H fun H => K ((j, .gone) :: H)
  | .lp p => jdo i c H fun H => K ((j, .lp p) :: H)
theorem jeD (i : Nat) (c : Chunk) (H : Hp) (K : Hp → Prop) : jdo i c H K = K (pubHp i c H) := by
 induction H generalizing K with
 | nil => rfl
 | cons x H ih =>
  obtain ⟨t, d⟩ := x
  cases d <;> simp only [jdo, pubHp, pubC, jby, ih]
theorem lookH_pub {i : Nat} {c : Chunk} {H : Hp} {j : Nat} {x : Chunk} (h : lookH (pubHp i c H) j = some x) : ∃ y, lookH H j = some y ∧ x = pubC i c y := by
 induction H with
 | nil => simp [pubHp, lookH] at h
 | cons z H ih =>
  obtain ⟨s, d⟩ := z
  simp only [pubHp] at h
  rw [jag] at h ⊢
  split
  ·rename_i e; rw [if_pos e] at h; exact ⟨d, rfl, (Option.some.inj h).symm⟩
  ·rename_i e; rw [if_neg e] at h; exact ih h
def jaF (vs : List Value) (b : Nat) (h : Pub) : Pub := fun b' o => if b' = b then vs[o]? else h b' o
theorem je6 {E : Env} {h : Pub} {k : IntKind} : ∀ {xs : List Int}, (∀ n ∈ xs, InR k n) → DenL E h (xs.map (D.int k)) (xs.map (Value.int k))
 | [], _ => by simp [DenL]
 | x :: xs, H => by
  simp only [List.map_cons, DenL]
  exact ⟨_, _, rfl, by simp only [Den]; exact ⟨trivial, H x (by simp)⟩, je6 fun n hn => H n (by simp [hn])⟩
section
variable {E : Env} {h h' : Pub} {i : Nat} {c : Chunk}
def Handed (E : Env) (h' : Pub) (i : Nat) (c : Chunk) : Prop := match c with
 | .arr k xs => E.kn i = xs.length ∧ (∀ n ∈ xs, InR k n) ∧ ∀ (o : Nat) (n : Int), xs[o]? = some n → h' (E.blk i) o = some (.int k n)
 | .box ds => ∃ vs, DenL E h' ds vs ∧ (∀ v ∈ vs, v.oneCell' = true) ∧ ∀ (o : Nat) v, vs[o]? = some v → h' (E.blk i) o = some v
 | .gone => False
 | .lp _ => False
mutual
theorem Den.pub (hh : h.Le h') (hr : E.real i = false → ∃ k, c = .arr k []) (hc : E.real i = true → Handed E h' i c) : ∀ {d : D} {v : Value}, Den E h d v → Den E h' (pubD i c d) v
 | .osl j off len, v, H => by
  simp only [pubD]
  cases hb : Nat.beq i j with
  | false => simpa [Den] using H
  | true =>
   have := jae hb; subst this
   cases c with
   | gone => simp [Den]
   | lp p => simp [Den]
   | box ds => simp [Den]
   | arr k xs =>
    simp only [Den] at H
    rcases H with ⟨H, rfl, hl0⟩ | ⟨hreal, o, cap, rfl, g1, g2, g3, g4, g5⟩
    ·obtain ⟨k', hk⟩ := hr H
     cases hk
     subst hl0
     simp only
     rw [jgZ]
     simp only [Den, jaK]
     exact ⟨none, 0, by simp, by simp, by simp, by simp, by simp⟩
    obtain ⟨h1, h2, h3⟩ := hc hreal
    simp only
    rw [jgZ]
    simp only [Den, jaK]
    have hlen : ((xs.drop off).take len).length = len := by simp; omega
    refine ⟨some ⟨E.blk i, o, none⟩, cap, by rw [hlen], by omega, by omega, fun n hn => h2 n (jiU (jiV hn)), rfl, ?_⟩
    intro j n hn
    have hj : j < len := by rw [← hlen]; exact (jiT.1 hn).1
    have ho : o = off := by rcases g4 with g4 | g4 <;> omega
    subst ho
    exact h3 _ _ (by simpa using ja2 hn)
 | .box j off, v, H => by
  simp only [pubD]
  cases hb : Nat.beq i j with
  | false => simpa [Den] using H
  | true =>
   have := jae hb; subst this
   cases c with
   | gone => simp [Den]
   | lp p => simp [Den]
   | arr k xs =>
    simp only [Den] at H ⊢
    obtain ⟨_, h2, h3⟩ := hc H.2
    refine ⟨_, _, H.1, (xs.map (Value.int k)).drop off, (je6 h2).drop off, fun v hv => ?_, fun j v hv => ?_⟩
    ·obtain ⟨n, _, rfl⟩ := List.mem_map.1 (jiU hv)
     rfl
    ·rw [List.getElem?_drop, List.getElem?_map] at hv
     obtain ⟨n, hn, rfl⟩ := Option.map_eq_some_iff.1 hv
     exact h3 _ n hn
   | box ds =>
    simp only [Den] at H ⊢
    obtain ⟨vs, h1, h2, h3⟩ := hc H.2
    exact ⟨_, _, H.1, vs.drop off, h1.drop off, fun v hv => h2 v (jiU hv), fun j v hv => h3 _ v (by simpa using hv)⟩
 | .bsl j off len e, v, H => by
  simp only [pubD]
  cases hb : Nat.beq i j with
  | false => simpa [Den] using H
  | true =>
   have := jae hb; subst this
   cases c with
   | gone => simp [Den]
   | lp p => simp [Den]
   | arr k xs =>
    simp only
    cases he : Nat.beq e 1 with
    | false => simp [Den]
    | true =>
     cases hl : Nat.ble (off + len) xs.length with
     | false => simp [Den]
     | true =>
      have hle := jia hl
      simp only [Den] at H
      obtain ⟨hreal, cap, rfl, hlc, hlen0, _⟩ := H
      obtain ⟨h1, h2, h3⟩ := hc hreal
      simp only
      rw [jgZ]
      simp only [Den, jaK]
      have hlen : ((xs.drop off).take len).length = len := by simp; omega
      refine ⟨some ⟨E.blk i, off, none⟩, cap, by rw [hlen], by omega, by omega, fun n hn => h2 n (jiU (jiV hn)), rfl, ?_⟩
      intro j n hn
      exact h3 _ _ (by simpa using ja2 hn)
   | box ds =>
    simp only
    cases hok : bslOk ds off len e with
    | false => simp [Den]
    | true =>
     unfold bslOk at hok
     cases hp : D.pureL ds with
     | false => rw [hp] at hok; cases hok
     | true =>
      rw [hp] at hok
      have hle := jia hok
      simp only [Den] at H ⊢
      obtain ⟨hreal, cap, rfl, hlc, hlen, _⟩ := H
      obtain ⟨vs, h1, h2, h3⟩ := hc hreal
      have hvl := h1.length
      refine ⟨some ⟨E.blk i, off, none⟩, cap, rfl, hlc, hlen, rfl, fun q hq => ?_⟩
      have hqe : off + q * e + e ≤ ds.length := by
       have : (q + 1) * e ≤ len * e := Nat.mul_le_mul_right e hq
       rw [Nat.add_mul] at this
       omega
      refine ⟨(vs.drop (off + q * e)).take e, ((DenL.pure (E' := Env.dummy) hp h1).drop _).take _, by simp; omega, fun v hv => h2 v (jiU (jiV hv)), fun j v hv => ?_⟩
      exact h3 _ v (by simpa using ja2 hv)
 | .agg ds, v, H => by
  simp only [Den, pubD] at H ⊢
  obtain ⟨vs, h1, h2, h3⟩ := H
  exact ⟨vs, h1, DenL.pub hh hr hc h2, h3⟩
 | .tup ds, v, H => by
  simp only [Den, pubD] at H ⊢
  obtain ⟨vs, h1, h2⟩ := H
  exact ⟨vs, h1, DenL.pub hh hr hc h2⟩
 | .fn f es ds, v, H => by
  simp only [Den, pubD] at H ⊢
  obtain ⟨us, vs, h1, h2, h3⟩ := H
  exact ⟨us, vs, h1, DenL.pub hh hr hc h2, DenL.pub hh hr hc h3⟩
 | .ref ds, v, H => by
  simp only [Den, pubD] at H ⊢
  obtain ⟨b, o, h1, vs, h2, h3, h4⟩ := H
  exact ⟨b, o, h1, vs, DenL.pub hh hr hc h2, h3, fun j v hv => hh _ _ _ (h4 j v hv)⟩
 | .gd b d, v, H => by
  simp only [Den, pubD] at H ⊢
  exact ⟨fun hb => Den.pub hh hr hc (H.1 hb), H.2⟩
 | .any, v, H => Den.mono hh H
 | .undef, v, H => Den.mono hh H
 | .bool _, v, H => Den.mono hh H
 | .int _ _, v, H => Den.mono hh H
 | .str _, v, H => Den.mono hh H
 | .nil, v, H => Den.mono hh H
 | .ints _ _, v, H => Den.mono hh H
 | .slf _ _ _, v, H => Den.mono hh H
 | .iarr _ _, v, H => Den.mono hh H
 | .gp _, v, H => Den.mono hh H
 | .yld _, v, H => Den.mono hh H
 | .val _, v, H => Den.mono hh H
 | .anyb _, v, H => Den.mono hh H
theorem DenL.pub (hh : h.Le h') (hr : E.real i = false → ∃ k, c = .arr k []) (hc : E.real i = true → Handed E h' i c) : ∀ {ds : List D} {vs : List Value}, DenL E h ds vs → DenL E h' (pubL i c ds) vs
 | [], vs, H => by simpa [DenL, pubL] using H
 | d :: ds, vs, H => by
  simp only [DenL, pubL] at H ⊢
  obtain ⟨v, vs', h1, h2, h3⟩ := H
  exact ⟨v, vs', h1, Den.pub hh hr hc h2, DenL.pub hh hr hc h3⟩
end
theorem jaU {h : Pub} {b : Nat} (hb : ∀ o, h b o = none) (vs : List Value) : h.Le (jaF vs b h) := fun b' o v hv => by
 unfold jaF
 split
 ·rename_i e; subst e; rw [hb o] at hv; cases hv
 ·exact hv
theorem Sat.publish {cx : Cx} {a : Act} {w : World} {L : Sl} {H : Hp} (S : Sat cx E h a w L H) (hc : lookH H i = some c) (hcl : c.cel = true) :
  ∃ h', h.Le h' ∧ Sat cx E h' a w (pubSl i c L) ((i, .gone) :: pubHp i c H) ∧ ∀ d v, Den E h d v → Den E h' (pubD i c d) v := by
 have hl := Chunk.live_of_cel hcl
 have hok := S.mem.ok i c hc
 -- the published memory, with the block's cells
 obtain ⟨h', hle, hv, hr, hag, hun, hsince⟩ : ∃ h' : Pub, h.Le h' ∧ (E.real i = false → ∃ k, c = .arr k []) ∧ (E.real i = true → Handed E h' i c) ∧ Agree h' w ∧
   (∀ j x, j ≠ i → lookH H j = some x → x.live = true → E.real j = true → ∀ o, h' (E.blk j) o = none) ∧ Since cx.w0 cx.h0 w h' := by
  cases hreal : E.real i with
  | false =>
   refine ⟨h, Pub.Le.refl h, fun _ => ?_, fun e => (by cases e), S.agree, fun j x _ hj hx hrj => S.mem.unpub j x hj hx hrj, S.since⟩
   cases c with
   | gone => simp [Chunk.live] at hl
   | lp p => simp [Chunk.cel] at hcl
   | box ds => exact absurd hok.1 (by rw [hreal]; decide)
   | arr k xs =>
    rcases hok with ⟨_, rfl⟩ | ⟨hx, _⟩
    ·exact ⟨k, rfl⟩
    ·rw [hreal] at hx; cases hx
  | true =>
   have hun := S.mem.unpub i c hc hl hreal
   have hbase := S.mem.base i c hc hl hreal
   have key : ∀ vs : List Value, (∀ (o : Nat) v, vs[o]? = some v → w.cell? ⟨E.blk i, o, none⟩ = some v) →
     Agree (jaF vs (E.blk i) h) w ∧ (∀ j x, j ≠ i → lookH H j = some x → x.live = true → E.real j = true → ∀ o, jaF vs (E.blk i) h (E.blk j) o = none) ∧ Since cx.w0 cx.h0 w (jaF vs (E.blk i) h) := by
    intro vs hvs
    refine ⟨⟨fun b o v hv => ?_, S.agree.glob.mono (jaU hun vs), S.agree.blk, fun g hg => by
     obtain ⟨v, hv⟩ := S.agree.errs g hg
     exact ⟨v, jaU hun vs _ _ _ hv⟩⟩, fun j x hj hx hxl hrj o => ?_, ⟨S.since.below, S.since.le.trans (jaU hun vs), fun b hb o => ?_⟩⟩
    ·unfold jaF at hv
     split at hv
     ·rename_i e; subst e; exact hvs o v hv
     ·exact S.agree b o v hv
    ·unfold jaF
     rw [if_neg (S.mem.inj j i x c hj hx hc hxl hl hrj hreal)]
     exact S.mem.unpub j x hx hxl hrj o
    ·unfold jaF
     rw [if_neg (by omega)]
     exact S.since.old b hb o
   cases c with
   | gone => simp [Chunk.live] at hl
   | lp p => simp [Chunk.cel] at hcl
   | box ds =>
    obtain ⟨_, vs, rest, T, hb, hd, ho, hsz⟩ := hok
    obtain ⟨k1, k2, k3⟩ := key vs fun o v hv => jdE hb hv
    refine ⟨_, jaU hun vs, (by simp), fun _ => ⟨vs, DenL.mono (jaU hun vs) hd, ho, fun o v hv => by unfold jaF; rw [if_pos rfl]; exact hv⟩, k1, k2, k3⟩
   | arr k xs =>
    obtain ⟨rest, T, hb, hsz, hr, hkn⟩ := jaZ hreal hok
    obtain ⟨k1, k2, k3⟩ := key (xs.map (Value.int k)) fun o v hv => jbV hb (by rw [jiS (jiT.1 hv).1]; exact hv)
    refine ⟨_, jaU hun _, (by simp), fun _ => ⟨hkn, hr, fun o n hn => by unfold jaF; rw [if_pos rfl, List.getElem?_map, hn]; rfl⟩, k1, k2, k3⟩
 refine ⟨h', hle, ?_, fun d v hd => Den.pub hle hv hr hd⟩
 have live : ∀ j x, lookH ((i, .gone) :: pubHp i c H) j = some x → x.live = true → j ≠ i ∧ ∃ y, lookH H j = some y ∧ x = pubC i c y ∧ y.live = true := by
  intro j x hx hxl
  rw [jag] at hx
  split at hx
  ·cases hx; simp [Chunk.live] at hxl
  ·rename_i e
   obtain ⟨y, h1, rfl⟩ := lookH_pub hx
   refine ⟨Ne.symm e, y, h1, rfl, ?_⟩
   cases y <;> first | rfl | simp [pubC, Chunk.live] at hxl
 refine { knows := fun t => by rw [look_pub]; exact Den.pub hle hv hr (S.knows t), mem := ?_, agree := hag, since := hsince, low := S.low, side := S.side }
 refine { ok := ?_, base := ?_, unpub := ?_, inj := ?_ }
 ·intro j x hx
  cases hxl : x.live with
  | false => cases x <;> first | trivial | simp [Chunk.live] at hxl
  | true =>
   obtain ⟨hj, y, h1, rfl, hyl⟩ := live j x hx hxl
   have hy := S.mem.ok j y h1
   cases y with
   | gone => simp [Chunk.live] at hyl
   | lp p => exact hy
   | box ds =>
    obtain ⟨h0, vs, rest, T, h2, h3, h4⟩ := hy
    exact ⟨h0, vs, rest, T, h2, DenL.pub hle hv hr h3, h4⟩
   | arr k xs => exact hy
 ·intro j x hx hxl hrj
  obtain ⟨hj, y, h1, rfl, hyl⟩ := live j x hx hxl
  exact S.mem.base j y h1 hyl hrj
 ·intro j x hx hxl hrj o
  obtain ⟨hj, y, h1, rfl, hyl⟩ := live j x hx hxl
  exact hun j y hj h1 hyl hrj o
 ·intro j k x1 x2 hjk hx1 hx2 l1 l2 r1 r2
  obtain ⟨hj, y1, g1, rfl, hy1⟩ := live j x1 hx1 l1
  obtain ⟨hk, y2, g2, rfl, hy2⟩ := live k x2 hx2 l2
  exact S.mem.inj j k y1 y2 hjk g1 g2 hy1 hy2 r1 r2
end
mutual
def D.own : D → Option Nat
 | .osl i _ _ => some i
 | .box i _ => some i
 | .bsl i _ _ _ => some i
 | .agg ds | .tup ds | .ref ds => D.ownL ds
 | .fn _ es ds => match D.ownL es with | some i => some i | none => D.ownL ds
 | .gd _ d => D.own d
 | _ => none
def D.ownL : List D → Option Nat
 | [] => none
 | d :: ds => match D.own d with | some i => some i | none => D.ownL ds
end
def handK : Nat → List D → Sl → Hp → (List D → Sl → Hp → Prop) → Prop
 | 0, _, _, _, _ => False
 | n + 1, ds, L, H, K => match D.ownL ds with
  | none => K ds L H
  | some i => jbd H i fun c => match c with
   | .gone => False
   | .lp _ => False
   | c => jfu i c L fun L => jdo i c H fun H => pubLK i c ds fun ds => handK n ds L ((i, .gone) :: H) K
theorem jf1 (i : Nat) (c : Chunk) (ds : List D) : pubL i c ds = ds.map (pubD i c) := by
 induction ds with
 | nil => rfl
 | cons d ds ih => simp [pubL, ih]
theorem DenL.map {E : Env} {h h' : Pub} {f : D → D} (hf : ∀ d v, Den E h d v → Den E h' (f d) v) {ds : List D} {vs : List Value} (H : DenL E h ds vs) : DenL E h' (ds.map f) vs := by
 induction ds generalizing vs with
 | nil => simpa [DenL] using H
 | cons d ds ih =>
  simp only [DenL, List.map_cons] at H ⊢
  obtain ⟨v, vs', rfl, h3, h4⟩ := H
  exact ⟨v, vs', rfl, hf d v h3, ih h4⟩
theorem jht {n : Nat} {ds : List D} {L : Sl} {H : Hp} {K : List D → Sl → Hp → Prop} (hh : handK n ds L H K) :
  ∃ ds' L' H', K ds' L' H' ∧ ds'.length = ds.length ∧ ∀ cx E h a w, Sat cx E h a w L H → ∃ h', h.Le h' ∧ Sat cx E h' a w L' H' ∧
   ∀ vs, DenL E h ds vs → DenL E h' ds' vs := by
 induction n generalizing ds L H with
 | zero => exact hh.elim
 | succ n ih =>
  simp only [handK] at hh
  split at hh
  ·exact ⟨ds, L, H, hh, rfl, fun cx E h a w S => ⟨h, Pub.Le.refl h, S, fun vs hv => hv⟩⟩
  ·rename_i i hown
   obtain ⟨c, hc, hh⟩ := jaA hh
   split at hh
   ·exact hh.elim
   ·exact hh.elim
   ·rename_i hne hne2
    have hl : c.cel = true := by
     cases c with
     | gone => exact absurd rfl hne
     | lp p => exact absurd rfl (hne2 p)
     | _ => rfl
    rw [jeC, jeD, jby] at hh
    obtain ⟨ds', L', H', hK, hlen, hS⟩ := ih hh
    refine ⟨ds', L', H', hK, by rw [hlen, jf1]; simp, fun cx E h a w S => ?_⟩
    obtain ⟨h1, hle1, S1, hd1⟩ := S.publish hc hl
    obtain ⟨h2, hle2, S2, hd2⟩ := hS cx E h1 a w S1
    refine ⟨h2, hle1.trans hle2, S2, fun vs hv => hd2 vs ?_⟩
    rw [jf1]
    exact hv.map hd1
end Go.V
end
section
namespace Go.V
open Go Go.RowKit
def Enters (P : Program) (f : Nat) : Prop := ∀ (args : Array Value) (w : World), (callFunc f args).run P w = .ok (.enter f args) w
structure Called (P : Program) (f : Nat) (ds : List D) (r : D) : Prop where
 ent : Enters P f
 call : ∀ (h : Pub) (w : World) (vs : List Value), Agree h w → DenL Env.dummy h ds vs →
  Calls P f vs.toArray w fun e w' => ∃ v h', e = .returned v ∧ Den Env.dummy h' r v ∧ Agree h' w' ∧ h.Le h' ∧ Below w.heap.size w w' ∧ ∀ b, b < w.heap.size → ∀ o, h' b o = h b o
theorem Sat.called {cx : Cx} {E : Env} {h h' : Pub} {a : Act} {w w' : World} {L : Sl} {H : Hp} (S : Sat cx E h a w L H) (hle : h.Le h') (hb : Below w.heap.size w w') (ha : Agree h' w')
    (ho : ∀ b, b < w.heap.size → ∀ o, h' b o = h b o) : Sat cx E h' a w' L H :=
  { knows := fun t => Den.mono hle (S.knows t)
    mem :=
      { ok := fun i c hc => ChunkOk.mono hle ((S.mem.ok i c hc).keep fun hl hr => hb.block _ ((S.mem.ok i c hc).lt hl hr))
        base := S.mem.base
        unpub := fun i c hc hl hr o => by rw [ho _ ((S.mem.ok i c hc).lt hl hr)]; exact S.mem.unpub i c hc hl hr o
        inj := S.mem.inj }
    agree := ha
    since := ⟨S.since.below.trans (hb.mono S.since.below.size), S.since.le.trans hle, fun b hb' o => by rw [ho b (jio hb' S.since.below.size)]; exact S.since.old b hb' o⟩
    low := S.low
    side := S.side.below hb }
def appD : List D → List D → List D
 | [], ys => ys
 | x :: xs, ys => x :: appD xs ys
theorem jcK (xs ys : List D) : appD xs ys = xs ++ ys := by induction xs with | nil => rfl | cons x xs ih => simp [appD, ih]
def CallGoal (P : Program) (g : Prop) (f : Nat) (ds : List D) (K : D → Prop) : Prop := ∃ r, (g → Called P f ds r) ∧ K r
def callK (P : Program) (N : Nat) (g : Prop) (wrap : D → D) (dst : Option Nat) (x : Operand) (args : List Operand) (L : Sl) (H : Hp) (K : K2) : Prop :=
 rdg g L x fun df => match df with
  | .fn f first caps => rdsK g L args fun ds => handK 40 (appD first (appD ds caps)) L H fun ds' L' H' => match D.pureL ds' with
   | true => CallGoal P g f ds' fun r => match D.pure r with
    | true => dstK N dst (wrap r) L' fun L'' => K L'' H'
    | false => False
   | false => False
  | _ => False
section
variable {P : Program} {tb : Tb} {N : Nat} {cx : Cx} {Q : Exit → Act → World → Prop} {o : Oper} {L : Sl} {H : Hp} {K : K2}
theorem jhK {g : Prop} {wrap : D → D} {x : Operand} {args : Array Operand} {ts : Array TypeId} (ho : o.op = .call { callee := .value x, args := args, argTypes := ts })
  (hw : ∀ E h r v, g → Den E h r v → Den E h (wrap r) v) (hs : ∀ E h r, ¬ g → Den E h (wrap r) Go.undef) (hh : callK P N g wrap o.dst x args.toList L H K) :
  ∃ L'' H', K L'' H' ∧ ∀ E h a w, N ≤ a.tmps.size → Sat cx E h a w L H →
    (g → ∀ next : Act → World → Prop, (∀ h' a' w', a'.tmps.size = a.tmps.size → Sat cx E h' a' w' L'' H' → next a' w') → o.wp P a w next Q) ∧
    (¬ g → ∃ h', Sat cx E h' (a.put o.dst Go.undef) w L'' H') := by
 have hz := jar hh; clear hh; obtain ⟨df, hh, hdf⟩ := hz
 split at hh
 case h_2 => exact hh.elim
 rename_i f first caps
 have hz := jcW hh; clear hh; obtain ⟨ds, hh, hlen, hds⟩ := hz
 have hz := jht hh; clear hh; obtain ⟨ds', L', H', hh, hlen', hS⟩ := hz
 cases hp : D.pureL ds' with
 | false => rw [hp] at hh; exact hh.elim
 | true =>
  rw [hp] at hh
  obtain ⟨r, hcall, hh⟩ := hh
  cases hpr : D.pure r with
  | false => rw [hpr] at hh; exact hh.elim
  | true =>
   rw [hpr] at hh
   obtain ⟨L'', hK, hput⟩ := je0 (cx := cx) hh
   refine ⟨L'', H', hK, fun E h a w hN S => ?_⟩
   obtain ⟨h', hle, S', hden⟩ := hS cx E h a w S
   refine ⟨fun hg next hnext => ?_, fun hg => ⟨h', hput E h' a w H' _ hN S' (hs E h' r hg)⟩⟩
   have hf := hdf E h a hg (S.facts.rd x)
   simp only [Den] at hf
   obtain ⟨us, vs, hfv, hu, hv⟩ := hf
   have hargs := hds E h a S.facts.rd hg
   have hall : DenL E h (appD first (appD ds caps)) (us ++ (args.toList.map a.eval ++ vs)) := by
    rw [jcK, jcK]; exact hu.append (hargs.append hv)
   have hall' := DenL.pure (E' := Env.dummy) hp (hden _ hall)
   obtain ⟨hent, hc⟩ := hcall hg
   have hrun : (execOp a.eval o).run P w = .ok (.enter f (us ++ (args.toList.map a.eval ++ vs)).toArray) w := by
    simp only [execOp, ho, resolve, hfv, Deferred.ofValue, Sem.run_bind, Sem.run_pure, Result.andThen_ok, invoke]
    rw [show us.toArray ++ Array.map a.eval args ++ vs.toArray = (us ++ (args.toList.map a.eval ++ vs)).toArray by apply Array.toList_inj.1; simp]
    exact hent _ w
   unfold Oper.wp
   rw [hrun]
   simp only [Oper.upon]
   refine (hc h' w _ S'.agree hall').mono ?_
   rintro e w' ⟨v, h2, rfl, hr, ha, hle2, hb, hold⟩
   simp only
   exact hnext h2 _ _ (jaz _ _ _) (hput E h2 a w' H' v hN (S'.called hle2 hb ha hold) (hw E h2 r v hg (Den.pure hpr hr)))
def strsL : List D → Bool
 | [] => true
 | d :: ds => match d with | .str _ => strsL ds | _ => false
def strsN (f : Nat → List D) : Nat → Bool
 | 0 => true
 | n + 1 => match strsL (f n) with | true => strsN f n | false => false
mutual
def D.apt : D → Bool
 | .undef | .bool _ | .int _ _ | .str _ | .nil | .iarr _ _ | .any => true
 | .slf _ n f => strsN f n
 | .agg ds | .tup ds => D.aptL ds
 | _ => false
def D.aptL : List D → Bool
 | [] => true
 | d :: ds => match D.apt d with | true => D.aptL ds | false => false
end
theorem jgq {E : Env} {h h' : Pub} : ∀ {ds : List D} {vs : List Value}, strsL ds = true → DenL E h ds vs → DenL E h' ds vs ∧ ∀ v ∈ vs, ∃ s, v = .string s
 | [], vs, _, H => by
  simp only [DenL] at H ⊢
  subst H
  exact ⟨rfl, fun v hv => by simp at hv⟩
 | d :: ds, vs, F, H => by
  simp only [DenL] at H ⊢
  obtain ⟨v, r, rfl, h1, h2⟩ := H
  unfold strsL at F
  split at F
  ·simp only [Den] at h1
   obtain ⟨k1, k2⟩ := jgq (h' := h') F h2
   exact ⟨⟨v, r, rfl, by simp only [Den]; exact h1, k1⟩, fun u hu => by
    rcases jiL.1 hu with rfl | hu
    ·exact ⟨_, h1.1⟩
    ·exact k2 u hu⟩
  ·cases F
theorem strsN_at {f : Nat → List D} : ∀ {n j : Nat}, strsN f n = true → j < n → strsL (f j) = true
 | n + 1, j, F, hj => by
  unfold strsN at F
  split at F
  ·rename_i hs
   rcases jip j n with h | h
   ·exact strsN_at F h
   ·obtain rfl : j = n := by omega
    exact hs
  ·cases F
mutual
theorem Den.apt {E : Env} {h h' : Pub} (hb : ∀ b o v, h b o = some v → (∃ k n, v = .int k n) ∨ h' b o = some v) : ∀ {d : D} {v : Value}, d.apt = true → Den E h d v → Den E h' d v
 | .any, _, _, _ => by simp [Den]
 | .undef, _, _, H => by simpa [Den] using H
 | .bool _, _, _, H => by simpa [Den] using H
 | .int _ _, _, _, H => by simpa [Den] using H
 | .str _, _, _, H => by simpa [Den] using H
 | .nil, _, _, H => by simpa [Den] using H
 | .iarr _ _, _, _, H => by simpa [Den] using H
 | .slf e n f, v, F, H => by
  simp only [Den] at H ⊢
  simp only [D.apt] at F
  obtain ⟨a, cap, h1, h2, h3, h4⟩ := H
  refine ⟨a, cap, h1, h2, h3, ?_⟩
  cases a with
  | none => exact h4
  | some ad =>
   refine ⟨h4.1, fun j hj => ?_⟩
   obtain ⟨vs, h5, h6, h7, h8⟩ := h4.2 j hj
   obtain ⟨k1, k2⟩ := jgq (h' := h') (strsN_at F hj) h5
   refine ⟨vs, k1, h6, h7, fun i u hu => ?_⟩
   rcases hb _ _ _ (h8 i u hu) with ⟨k, m, e1⟩ | e1
   ·obtain ⟨s, e2⟩ := k2 u (jiO hu)
    rw [e1] at e2
    cases e2
   ·exact e1
 | .agg ds, v, F, H => by
  simp only [Den] at H ⊢
  simp only [D.apt] at F
  obtain ⟨vs, h1, h2, h3⟩ := H
  exact ⟨vs, h1, DenL.apt hb F h2, h3⟩
 | .tup ds, v, F, H => by
  simp only [Den] at H ⊢
  simp only [D.apt] at F
  obtain ⟨vs, h1, h2⟩ := H
  exact ⟨vs, h1, DenL.apt hb F h2⟩
 | .ints _ _, _, F, _ => by simp [D.apt] at F
 | .fn _ _ _, _, F, _ => by simp [D.apt] at F
 | .ref _, _, F, _ => by simp [D.apt] at F
 | .box _ _, _, F, _ => by simp [D.apt] at F
 | .osl _ _ _, _, F, _ => by simp [D.apt] at F
 | .bsl _ _ _ _, _, F, _ => by simp [D.apt] at F
 | .gd _ _, _, F, _ => by simp [D.apt] at F
 | .gp _, _, F, _ => by simp [D.apt] at F
 | .yld _, _, F, _ => by simp [D.apt] at F
 | .val _, _, F, _ => by simp [D.apt] at F
 | .anyb _, _, F, _ => by simp [D.apt] at F
theorem DenL.apt {E : Env} {h h' : Pub} (hb : ∀ b o v, h b o = some v → (∃ k n, v = .int k n) ∨ h' b o = some v) : ∀ {ds : List D} {vs : List Value}, D.aptL ds = true → DenL E h ds vs → DenL E h' ds vs
 | [], vs, _, H => by simpa [DenL] using H
 | d :: ds, vs, F, H => by
  simp only [DenL] at H ⊢
  obtain ⟨v, r, e, h1, h2⟩ := H
  unfold D.aptL at F
  split at F
  ·rename_i hd
   exact ⟨v, r, e, Den.apt hb hd h1, DenL.apt hb F h2⟩
  ·cases F
end
def lendK (P : Program) (N : Nat) (dst : Option Nat) (x : Operand) (args : List Operand) (L : Sl) (H : Hp) (K : K2) : Prop :=
 rdg True L x fun df => match df with
  | .fn f first caps => rdsK True L args fun ds => ∃ i : Nat, jbd H i fun c => match c with
   | .arr k xs => pubLK i (.arr k xs) (appD first (appD ds caps)) fun ds' => match D.pureL ds' with
    | true => CallGoal P True f ds' fun r => match D.pure r with
     | true => match D.apt r with
      | true => dstK N dst r L fun L'' => K L'' H
      | false => False
     | false => False
    | false => False
   | _ => False
  | _ => False
theorem Sat.lend {cx : Cx} {E : Env} {h : Pub} {a : Act} {w : World} {L : Sl} {H : Hp} {i : Nat} {k : IntKind} {xs : List Int} (S : Sat cx E h a w L H) (hc : lookH H i = some (.arr k xs)) :
  ∃ h1, h.Le h1 ∧ Agree h1 w ∧ (∀ d v, Den E h d v → Den E h1 (pubD i (.arr k xs) d) v) ∧
   ∀ h2 w', h1.Le h2 → Agree h2 w' → Below w.heap.size w w' → (∀ b, b < w.heap.size → ∀ o, h2 b o = h1 b o) →
    ∃ h3, Sat cx E h3 a w' L H ∧ ∀ d v, d.apt = true → Den E h2 d v → Den E h3 d v := by
 have hok := S.mem.ok i _ hc
 cases hreal : E.real i with
 | false =>
  refine ⟨h, Pub.Le.refl h, S.agree, fun d v hd => Den.pub (Pub.Le.refl h) (fun _ => ?_) (fun e => by rw [hreal] at e; cases e) hd, fun h2 w' hle ha hb ho => ⟨h2, S.called hle hb ha ho, fun d v _ hd => hd⟩⟩
  rcases hok with ⟨_, rfl⟩ | ⟨hx, _⟩
  ·exact ⟨k, rfl⟩
  ·rw [hreal] at hx; cases hx
 | true =>
  have hun := S.mem.unpub i _ hc rfl hreal
  obtain ⟨rest, T, hb, hsz, hr, hkn⟩ := jaZ hreal hok
  have hle1 := jaU hun (xs.map (Value.int k))
  have hcell : ∀ (o : Nat) v, (xs.map (Value.int k))[o]? = some v → w.cell? ⟨E.blk i, o, none⟩ = some v := fun o v hv => jbV hb (by rw [jiS (jiT.1 hv).1]; exact hv)
  refine ⟨jaF (xs.map (Value.int k)) (E.blk i) h, hle1, ⟨fun b o v hv => ?_, S.agree.glob.mono hle1, S.agree.blk, fun g hg => by
   obtain ⟨v, hv⟩ := S.agree.errs g hg
   exact ⟨v, hle1 _ _ _ hv⟩⟩, fun d v hd => Den.pub (i := i) (c := .arr k xs) hle1 (fun e => by rw [hreal] at e; cases e) (fun _ => ⟨hkn, hr, fun o n hn => by unfold jaF; rw [if_pos rfl, List.getElem?_map, hn]; rfl⟩) hd, fun h2 w' hle ha hbel ho => ?_⟩
  ·unfold jaF at hv
   split at hv
   ·rename_i e; subst e; exact hcell o v hv
   ·exact S.agree b o v hv
  ·have hlt : E.blk i < w.heap.size := by
    rcases jip (E.blk i) w.heap.size with e | e
    ·exact e
    ·rw [Array.getElem?_eq_none e] at hb
     cases hb
   have hle3 : h.Le fun b o => if b = E.blk i then none else h2 b o := fun b o v hv => by
    dsimp only
    split
    ·rename_i e; subst e; rw [hun o] at hv; cases hv
    ·exact hle _ _ _ (hle1 _ _ _ hv)
   refine ⟨fun b o => if b = E.blk i then none else h2 b o, S.called hle3 hbel ⟨fun b o v hv => ?_, S.agree.glob.mono hle3, ha.blk, fun g hg => by
    obtain ⟨v, hv⟩ := S.agree.errs g hg
    exact ⟨v, hle3 _ _ _ hv⟩⟩ (fun b hb2 o => ?_), fun d v hd hden => Den.apt (fun b o v hv => ?_) hd hden⟩
   ·try dsimp only at hv
    split at hv
    ·cases hv
    ·exact ha b o v hv
   ·try dsimp only
    split
    ·rename_i e; subst e; rw [hun o]
    ·rename_i e
     rw [ho b hb2 o]
     unfold jaF
     rw [if_neg e]
   ·try dsimp only
    split
    ·rename_i e
     subst e
     rw [ho _ hlt o] at hv
     unfold jaF at hv
     rw [if_pos rfl, List.getElem?_map] at hv
     obtain ⟨n, _, hn⟩ := Option.map_eq_some_iff.1 hv
     exact .inl ⟨k, n, hn.symm⟩
    ·exact .inr hv
theorem lend_el {x : Operand} {args : Array Operand} {ts : Array TypeId} (ho : o.op = .call { callee := .value x, args := args, argTypes := ts }) (hh : lendK P N o.dst x args.toList L H K) :
  ∃ L'' H', K L'' H' ∧ ∀ E h a w, N ≤ a.tmps.size → Sat cx E h a w L H → ∀ next : Act → World → Prop,
   (∀ h' a' w', a'.tmps.size = a.tmps.size → Sat cx E h' a' w' L'' H' → next a' w') → o.wp P a w next Q := by
 have hz := jar hh; clear hh; obtain ⟨df, hh, hdf⟩ := hz
 split at hh
 case h_2 => exact hh.elim
 rename_i f first caps
 have hz := jcW hh; clear hh; obtain ⟨ds, hh, hlen, hds⟩ := hz
 obtain ⟨i, hh⟩ := hh
 have hz := jaA hh; clear hh; obtain ⟨c, hc, hh⟩ := hz
 split at hh
 case h_2 => exact hh.elim
 rename_i k xs
 rw [jby] at hh
 cases hp : D.pureL (pubL i (.arr k xs) (appD first (appD ds caps))) with
 | false => rw [hp] at hh; exact hh.elim
 | true =>
  rw [hp] at hh
  obtain ⟨r, hcall, hh⟩ := hh
  cases hpr : D.pure r with
  | false => rw [hpr] at hh; exact hh.elim
  | true =>
   rw [hpr] at hh
   cases hpa : D.apt r with
   | false => rw [hpa] at hh; exact hh.elim
   | true =>
    rw [hpa] at hh
    obtain ⟨L'', hK, hput⟩ := je0 (cx := cx) hh
    refine ⟨L'', H, hK, fun E h a w hN S next hnext => ?_⟩
    obtain ⟨h1, hle, hag, hden, hback⟩ := S.lend hc
    have hf := hdf E h a trivial (S.facts.rd x)
    simp only [Den] at hf
    obtain ⟨us, vs, hfv, hu, hv⟩ := hf
    have hargs := hds E h a S.facts.rd trivial
    have hall : DenL E h (appD first (appD ds caps)) (us ++ (args.toList.map a.eval ++ vs)) := by
     rw [jcK, jcK]; exact hu.append (hargs.append hv)
    have hall1 : DenL E h1 (pubL i (.arr k xs) (appD first (appD ds caps))) (us ++ (args.toList.map a.eval ++ vs)) := by
     rw [jf1]; exact DenL.map hden hall
    have hall' := DenL.pure (E' := Env.dummy) hp hall1
    obtain ⟨hent, hcl⟩ := hcall trivial
    have hrun : (execOp a.eval o).run P w = .ok (.enter f (us ++ (args.toList.map a.eval ++ vs)).toArray) w := by
     simp only [execOp, ho, resolve, hfv, Deferred.ofValue, Sem.run_bind, Sem.run_pure, Result.andThen_ok, invoke]
     rw [show us.toArray ++ Array.map a.eval args ++ vs.toArray = (us ++ (args.toList.map a.eval ++ vs)).toArray by apply Array.toList_inj.1; simp]
     exact hent _ w
    unfold Oper.wp
    rw [hrun]
    simp only [Oper.upon]
    refine (hcl h1 w _ hag hall').mono ?_
    rintro e w' ⟨v, h2, rfl, hr, ha, hle2, hb, hold⟩
    simp only
    obtain ⟨h3, S3, hap⟩ := hback h2 w' hle2 ha hb hold
    exact hnext h3 _ _ (jaz _ _ _) (hput E h3 a w' H v hN S3 (hap r v hpa (Den.pure hpr hr)))
structure Panics (P : Program) (f : Nat) (ds : List D) (v : Value) : Prop where
 ent : Enters P f
 call : ∀ (h : Pub) (w : World) (vs : List Value), Agree h w → DenL Env.dummy h ds vs →
  Calls P f vs.toArray w fun e w' => ∃ h', e = .panicked [{ v := v, recovered := false }] ∧ Agree h' w' ∧ h.Le h' ∧ Below w.heap.size w w' ∧ ∀ b, b < w.heap.size → ∀ o, h' b o = h b o
abbrev KPan := List PanicEntry → Sl → Hp → Prop
def panK (P : Program) (x : Operand) (args : List Operand) (L : Sl) (H : Hp) (KP : KPan) : Prop :=
 rdg True L x fun df => match df with
  | .fn f first caps => rdsK True L args fun ds => handK 40 (appD first (appD ds caps)) L H fun ds' L' H' => match D.pureL ds' with
   | true => ∃ v, Panics P f ds' v ∧ KP [{ v := v, recovered := false }] L' H'
   | false => False
  | _ => False
def raiseK (x : Operand) (L : Sl) (H : Hp) (KP : KPan) : Prop := rdg True L x fun d => match d with
 | .val v => match v with
  | .iface t u => KP [{ v := .iface t u, recovered := false }] L H
  | _ => False
 | _ => False
theorem pan_el {KP : KPan} {x : Operand} {args : Array Operand} {ts : Array TypeId} (ho : o.op = .call { callee := .value x, args := args, argTypes := ts }) (hh : panK P x args.toList L H KP) :
  ∀ E h a w, Sat cx E h a w L H → (∀ c L' H' h' w', KP c L' H' → Sat cx E h' a w' L' H' → Q (.panic c) a w') → ∀ next : Act → World → Prop, o.wp P a w next Q := by
 have hz := jar hh; clear hh; obtain ⟨df, hh, hdf⟩ := hz
 split at hh
 case h_2 => exact hh.elim
 rename_i f first caps
 have hz := jcW hh; clear hh; obtain ⟨ds, hh, hlen, hds⟩ := hz
 have hz := jht hh; clear hh; obtain ⟨ds', L', H', hh, hlen', hS⟩ := hz
 cases hp : D.pureL ds' with
 | false => rw [hp] at hh; exact hh.elim
 | true =>
  rw [hp] at hh
  obtain ⟨v, hcall, hh⟩ := hh
  intro E h a w S hQ next
  obtain ⟨h', hle, S', hden⟩ := hS cx E h a w S
  have hf := hdf E h a trivial (S.facts.rd x)
  simp only [Den] at hf
  obtain ⟨us, vs, hfv, hu, hv⟩ := hf
  have hargs := hds E h a S.facts.rd trivial
  have hall : DenL E h (appD first (appD ds caps)) (us ++ (args.toList.map a.eval ++ vs)) := by
   rw [jcK, jcK]; exact hu.append (hargs.append hv)
  have hall' := DenL.pure (E' := Env.dummy) hp (hden _ hall)
  obtain ⟨hent, hc⟩ := hcall
  have hrun : (execOp a.eval o).run P w = .ok (.enter f (us ++ (args.toList.map a.eval ++ vs)).toArray) w := by
   simp only [execOp, ho, resolve, hfv, Deferred.ofValue, Sem.run_bind, Sem.run_pure, Result.andThen_ok, invoke]
   rw [show us.toArray ++ Array.map a.eval args ++ vs.toArray = (us ++ (args.toList.map a.eval ++ vs)).toArray by apply Array.toList_inj.1; simp]
   exact hent _ w
  unfold Oper.wp
  rw [hrun]
  simp only [Oper.upon]
  refine (hc h' w _ S'.agree hall').mono ?_
  rintro e w' ⟨h2, rfl, ha, hle2, hb, hold⟩
  simp only
  exact hQ _ _ _ _ _ hh (S'.called hle2 hb ha hold)
theorem raise_el {KP : KPan} {x : Operand} (ho : o.op = .panic x) (hh : raiseK x L H KP) :
  ∀ E h a w, Sat cx E h a w L H → (∀ c L' H' h' w', KP c L' H' → Sat cx E h' a w' L' H' → Q (.panic c) a w') → ∀ next : Act → World → Prop, o.wp P a w next Q := by
 have hz := jar hh; clear hh; obtain ⟨d, hh, hd⟩ := hz
 intro E h a w S hQ next
 have hv := hd E h a trivial (S.facts.rd x)
 split at hh
 case h_2 => exact hh.elim
 rename_i v
 split at hh
 case h_2 => exact hh.elim
 rename_i t u
 simp only [Den] at hv
 unfold Oper.wp
 have hrun : (execOp a.eval o).run P w = .halt (.panic (.iface t u)) w := by
  simp only [execOp, ho, Sem.run_bind, hv, run_panic_iface]
  rfl
 rw [hrun]
 simp only [Oper.upon]
 exact hQ _ _ _ _ _ hh S
def nthO : List Oper → Nat → (Oper → Prop) → Prop
 | [], _, _ => False
 | o :: _, 0, K => K o
 | _ :: os, n + 1, K => nthO os n K
theorem jdN {os : List Oper} {n : Nat} {K : Oper → Prop} (h : nthO os n K) : ∃ o, os[n]? = some o ∧ K o := by
 induction os generalizing n with
 | nil => exact h.elim
 | cons d ds ih =>
  cases n with
  | zero => exact ⟨d, rfl, h⟩
  | succ n => exact ih h
def someK (d : Option Nat) (K : Nat → Prop) : Prop := match d with | some d => K d | none => False
theorem jaL {d : Option Nat} {K : Nat → Prop} (h : someK d K) : ∃ n, d = some n ∧ K n := by
 cases d with
 | none => exact h.elim
 | some n => exact ⟨n, rfl, h⟩
def noneK (d : Option Nat) (K : Prop) : Prop := match d with | some _ => False | none => K
theorem noneK_el {d : Option Nat} {K : Prop} (h : noneK d K) : d = none ∧ K := by
 cases d with
 | none => exact ⟨rfl, h⟩
 | some n => exact h.elim
def opK (P : Program) (tb : Tb) (N off : Nat) (o : Oper) (L : Sl) (H : Hp) (K : K2) : Prop := match o.op with
 | .alloc t => someK o.dst fun d => allocK tb N off d t L H K
 | .box t x => someK o.dst fun d => boxK tb N off d t x L H K
 | .store t a x => noneK o.dst (storeK tb t a x L H K)
 | .buildSlice t n parts => someK o.dst fun d => jfe tb N off d t n parts L H K
 | .makeSlice t l c => someK o.dst fun d => jfB tb N off d t l c L H K
 | .call c => match c.callee with
  | .value x => callK P N True (fun r => r) o.dst x c.args.toList L H K
  | .builtin .append => match c.args.toList, c.argTypes.toList with
   | [s, x], [t, t'] => match Nat.beq t t' with
    | true => someK o.dst fun d => appendK tb N off d t s x L H K
    | false => False
   | _, _ => False
  | .builtin .copy => match c.args.toList, c.argTypes.toList with
   | [s, x], [t, t'] => match Nat.beq t t' with
    | true => copyK tb N o.dst t s x L H K
    | false => False
   | _, _ => False
  | _ => someK o.dst fun d => quiet tb True L H (fun r => ltK d N (K ((d, r) :: L) H)) o.op
 | _ => someK o.dst fun d => quiet tb True L H (fun r => ltK d N (K ((d, r) :: L) H)) o.op
theorem op_el (htb : TbOk P tb) (hh : opK P tb N cx.off o L H K) : Heavy P N cx Q o K L H := by
 have qu : (someK o.dst fun d => quiet tb True L H (fun r => ltK d N (K ((d, r) :: L) H)) o.op) → Heavy P N cx Q o K L H := fun hh => by
  obtain ⟨d, hd, hh⟩ := jaL hh
  obtain ⟨r, hr, hv⟩ := jeg htb hh
  obtain ⟨hlt, hK⟩ := jcX hr
  intro E h a w hN S next hnext
  obtain ⟨v, h1, h2⟩ := hv E h a w S.facts trivial
  unfold Oper.wp
  rw [h1]
  simp only [Oper.upon, hd]
  exact hnext _ _ _ _ _ _ hK (jaz _ _ _) (S.put (by omega) h2)
 unfold opK at hh
 split at hh
 ·rename_i t ho
  obtain ⟨d, hd, hh⟩ := jaL hh
  exact alloc_el htb hd ho hh
 ·rename_i t x ho
  obtain ⟨d, hd, hh⟩ := jaL hh
  exact box_el hd ho hh
 ·rename_i t a x ho
  obtain ⟨hd, hh⟩ := noneK_el hh
  exact store_el htb hd ho hh
 ·rename_i t n parts ho
  obtain ⟨d, hd, hh⟩ := jaL hh
  exact jgn htb hd ho hh
 ·rename_i t l c ho
  obtain ⟨d, hd, hh⟩ := jaL hh
  exact jgE htb hd ho hh
 ·rename_i c ho
  obtain ⟨callee, args, ts⟩ := c
  dsimp only at hh
  split at hh
  ·obtain ⟨L'', H', hK, hc⟩ := jhK (P := P) (Q := Q) (cx := cx) ho (fun _ _ _ _ _ h => h) (fun _ _ _ h => absurd trivial h) hh
   intro E h a w hN S next hnext
   exact (hc E h a w hN S).1 trivial next fun h' a' w' hs hS => hnext _ _ _ _ _ _ hK hs hS
  ·split at hh
   ·rename_i s x t t' ha ht
    cases hb : Nat.beq t t' with
    | false => rw [hb] at hh; exact hh.elim
    | true =>
     rw [hb] at hh
     have := jae hb; subst this
     obtain ⟨d, hd, hh⟩ := jaL hh
     have e1 : args = #[s, x] := Array.toList_inj.1 (by simpa using ha)
     have e2 : ts = #[t, t] := Array.toList_inj.1 (by simpa using ht)
     subst e1; subst e2
     exact append_el htb hd ho hh
   ·exact hh.elim
  ·split at hh
   ·rename_i s x t t' ha ht
    cases hb : Nat.beq t t' with
    | false => rw [hb] at hh; exact hh.elim
    | true =>
     rw [hb] at hh
     have := jae hb; subst this
     have e1 : args = #[s, x] := Array.toList_inj.1 (by simpa using ha)
     have e2 : ts = #[t, t] := Array.toList_inj.1 (by simpa using ht)
     subst e1; subst e2
     exact copy_el htb ho hh
   ·exact hh.elim
  ·exact qu hh
 ·exact qu hh
def condK (want : Bool) (d : D) (K : Bool → Prop) : Prop := match d with
 | .bool b => match want with | true => K b | false => K (!b)
 | .gd c (.bool b) => match want with | true => K (c && b) | false => K (c && !b)
 | _ => False
theorem jhI {want : Bool} {d : D} {K : Bool → Prop} (hh : condK want d K) :
  ∃ c, K c ∧ ∀ E h v, Den E h d v → (c = true ↔ v = .bool want) := by
 unfold condK at hh
 split at hh
 ·rename_i b
  cases want with
  | true => exact ⟨_, hh, fun E h v hv => by simp only [Den] at hv; subst hv; simp⟩
  | false => exact ⟨_, hh, fun E h v hv => by simp only [Den] at hv; subst hv; simp⟩
 ·rename_i c b
  have key : ∀ E h v, Den E h (.gd c (.bool b)) v → (c = true → v = .bool b) ∧ (c = false → v = Go.undef) := fun E h v hv => by
   simp only [Den] at hv; exact hv
  cases want with
  | true =>
   refine ⟨_, hh, fun E h v hv => ?_⟩
   obtain ⟨h1, h2⟩ := key E h v hv
   cases c with
   | true => rw [h1 rfl]; simp
   | false => rw [h2 rfl]; simp [Go.undef]
  | false =>
   refine ⟨_, hh, fun E h v hv => ?_⟩
   obtain ⟨h1, h2⟩ := key E h v hv
   cases c with
   | true => rw [h1 rfl]; simp
   | false => rw [h2 rfl]; simp [Go.undef]
 ·exact hh.elim
theorem jfl {all : List Oper} {a : Act} {o oj : Oper} {j s : Nat} {want : Bool} (hg : o.guard = some (j, want)) (hj : all[j]? = some oj) (hs : oj.dst = some s) :
  Region.wanted o (yielded all.toArray a.tmps) = true ↔ a.tmps.getD s Go.undef = .bool want := by
 simp only [Region.wanted, hg, yielded, ji1, hj, Option.bind_some, hs, Array.getD_eq_getD_getElem?]
 cases hx : a.tmps[s]? with
 | none => simp [Go.undef]
 | some v => cases v <;> simp
end
end Go.V
end
