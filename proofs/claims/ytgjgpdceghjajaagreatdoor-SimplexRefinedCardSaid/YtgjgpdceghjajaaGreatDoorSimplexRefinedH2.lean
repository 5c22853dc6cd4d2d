/- Laws of a small interpreter over plain values, part 2. No condition. -/
import Derived.Test.YtgjgpdceghjajaaGreatDoorSimplexRefinedH1
set_option linter.unusedSimpArgs false
set_option linter.unusedVariables false
set_option maxHeartbeats 8000000
set_option maxRecDepth 100000
section
namespace Go.V
open Go Go.RowKit
structure Facts (E : Env) (h : Pub) (a : Act) (w : World) (L : Sl) (H : Hp) : Prop where
 knows : ∀ t, Den E h (look L t) (a.tmps.getD t Go.undef)
 chunk : ∀ i c, lookH H i = some c → ChunkOk E h w i c
 agree : Agree h w
theorem Facts.rd {E : Env} {h : Pub} {a : Act} {w : World} {L : Sl} {H : Hp} (F : Facts E h a w L H) (x : Operand) : Den E h (rd L x) (a.eval x) := den_rd F.knows x
def Gives (P : Program) (E : Env) (h : Pub) (s : Sem Value) (w : World) (d : D) : Prop := ∃ v, s.run P w = .ok v w ∧ Den E h d v
theorem Gives.pure {P : Program} {E : Env} {h : Pub} {w : World} {d : D} {v : Value} (H : Den E h d v) : Gives P E h (Pure.pure v) w d := ⟨v, rfl, H⟩
def kE : IntKind → IntKind → Bool
 | .i8, .i8 | .i16, .i16 | .i32, .i32 | .i64, .i64 | .u8, .u8 | .u16, .u16 | .u32, .u32 | .u64, .u64 => true
 | _, _ => false
theorem kE_eq {a b : IntKind} (h : kE a b = true) : a = b := by cases a <;> cases b <;> first | rfl | exact absurd h (by decide)
theorem jbL (k : IntKind) (n : Int) : InR k (k.wrap n) := by
 cases k <;> simp [InR, lo, hi, IntKind.wrap, IntKind.signed, IntKind.bits] <;> (try split) <;> omega
def wrO (k : IntKind) (A : Prop) (z : Int) (K : D → Prop) : Prop := match k with
 | .u64 => (A ∧ K (.int .u64 z)) ∨ K (.int .u64 (IntKind.u64.wrap z))
 | k => A ∧ K (.int k z)
theorem wrO_el {g : Prop} {k : IntKind} {m n z : Int} {K : D → Prop} (H : wrO k (g → InR k m → InR k n → InR k z) z K) :
  ∃ z', K (.int k z') ∧ (g → InR k m → InR k n → k.wrap z = z' ∧ InR k z') := by
 have plain : ∀ k : IntKind, ((g → InR k m → InR k n → InR k z) ∧ K (.int k z)) → ∃ z', K (.int k z') ∧ (g → InR k m → InR k n → k.wrap z = z' ∧ InR k z') := fun k h => ⟨z, h.2, fun a b c => ⟨jbG (h.1 a b c), h.1 a b c⟩⟩
 cases k <;> simp only [wrO] at H
 case u64 =>
  rcases H with H | H
  ·exact plain _ H
  ·exact ⟨_, H, fun _ _ _ => ⟨rfl, jbL _ _⟩⟩
 all_goals exact plain _ H
def binI (g : Prop) (op : BinOp) (k : IntKind) (m n : Int) (K : D → Prop) : Prop := match op with
 | .add => wrO k (g → InR k m → InR k n → InR k (m + n)) (m + n) K
 | .sub => wrO k (g → InR k m → InR k n → InR k (m - n)) (m - n) K
 | .mul => wrO k (g → InR k m → InR k n → InR k (m * n)) (m * n) K
 | .quo => ((g → InR k m → InR k n → 0 ≤ m ∧ 0 < n) ∧ K (.int k (m / n))) ∨ ((g → InR k m → InR k n → n ≠ 0 ∧ InR k (m.tdiv n)) ∧ K (.int k (m.tdiv n)))
 | .rem => ((g → InR k m → InR k n → 0 ≤ m ∧ 0 < n) ∧ K (.int k (m % n))) ∨ ((g → InR k m → InR k n → n ≠ 0) ∧ K (.int k (m.tmod n)))
 | .eql => K (.bool (decide (m = n)))
 | .neq => K (.bool (decide (m ≠ n)))
 | .lss => K (.bool (decide (m < n)))
 | .leq => K (.bool (decide (m ≤ n)))
 | .gtr => K (.bool (decide (m > n)))
 | .geq => K (.bool (decide (m ≥ n)))
 | .and => K (.int k (bits .and k m n))
 | .or => K (.int k (bits .or k m n))
 | .xor => K (.int k (bits .xor k m n))
 | .andNot => K (.int k (bits .andNot k m n))
 | _ => False
theorem jb9 (k : IntKind) : lo k ≤ 0 := by cases k <;> decide
theorem jdF (k : IntKind) : 0 ≤ hi k := by cases k <;> decide
theorem inR_ediv {k : IntKind} {m n : Int} (hm : InR k m) (h0 : 0 ≤ m) (h1 : 0 < n) : InR k (m / n) := by
 have h2 : m / n ≤ m := by
  have := Int.ediv_le_self (a := m) n h0; exact this
 have h3 : 0 ≤ m / n := Int.ediv_nonneg h0 (by omega)
 exact ⟨by have := jb9 k; omega, by have := hm.2; omega⟩
theorem inR_emod {k : IntKind} {m n : Int} (hm : InR k m) (h0 : 0 ≤ m) (h1 : 0 < n) : InR k (m % n) := by
 have h3 : 0 ≤ m % n := jic _ (by omega)
 have h2 : m % n ≤ m := by
  have := jid m n
  have h4 : 0 ≤ n * (m / n) := jie (by omega) (Int.ediv_nonneg h0 (by omega))
  omega
 exact ⟨by have := jb9 k; omega, by have := hm.2; omega⟩
theorem inR_tmod {k : IntKind} {m n : Int} (hm : InR k m) : InR k (m.tmod n) := by
 obtain ⟨h1, h2⟩ := hm
 have h5 := jb9 k; have h6 := jdF k
 have hle : (m.tmod n).natAbs ≤ m.natAbs := by rw [Int.natAbs_tmod]; exact Nat.mod_le _ _
 rcases Int.le_total 0 m with h0 | h0
 ·have := Int.tmod_nonneg n h0
  exact ⟨by omega, by omega⟩
 ·have : m.tmod n ≤ 0 := by
   have h7 := Int.tmod_nonneg n (a := -m) (by omega)
   rw [Int.neg_tmod] at h7; omega
  exact ⟨by omega, by omega⟩
theorem bin_int {P : Program} {op : BinOp} {t : Nat} {x y : Operand} {k : IntKind} {m n : Int} {g : Prop} {K : D → Prop}
  (H : binI g op k m n K) : ∃ d, K d ∧ ∀ E h w, InR k m → InR k n → g → Gives P E h (do eqGuard op t x y (.int k m) (.int k n); binOp op t (.int k m) (.int k n)) w d := by
 cases op <;> simp only [binI] at H
 case add =>
  obtain ⟨z, hz, hr⟩ := wrO_el H
  exact ⟨_, hz, fun _ _ _ hm hn hg => ⟨_, by simp [eqGuard, binOp, Op.intArith]; rfl, by rw [(hr hg hm hn).1]; simp only [Den]; exact ⟨trivial, (hr hg hm hn).2⟩⟩⟩
 case sub =>
  obtain ⟨z, hz, hr⟩ := wrO_el H
  exact ⟨_, hz, fun _ _ _ hm hn hg => ⟨_, by simp [eqGuard, binOp, Op.intArith]; rfl, by rw [(hr hg hm hn).1]; simp only [Den]; exact ⟨trivial, (hr hg hm hn).2⟩⟩⟩
 case mul =>
  obtain ⟨z, hz, hr⟩ := wrO_el H
  exact ⟨_, hz, fun _ _ _ hm hn hg => ⟨_, by simp [eqGuard, binOp, Op.intArith]; rfl, by rw [(hr hg hm hn).1]; simp only [Den]; exact ⟨trivial, (hr hg hm hn).2⟩⟩⟩
 case quo =>
  rcases H with H | H
  ·refine ⟨_, H.2, fun _ _ _ hm hn hg => ⟨.int k (k.wrap (m.tdiv n)), ?_, ?_⟩⟩
   ·have := (H.1 hg hm hn).2
    simp [eqGuard, binOp, Op.intDiv, show n ≠ 0 by omega]
   ·have h1 := inR_ediv hm (H.1 hg hm hn).1 (H.1 hg hm hn).2
    rw [Int.tdiv_eq_ediv_of_nonneg (H.1 hg hm hn).1, jbG h1]; exact ⟨rfl, h1⟩
  ·refine ⟨_, H.2, fun _ _ _ hm hn hg => ⟨.int k (k.wrap (m.tdiv n)), ?_, ?_⟩⟩
   ·have := (H.1 hg hm hn).1
    simp [eqGuard, binOp, Op.intDiv, this]
   ·rw [jbG (H.1 hg hm hn).2]; exact ⟨rfl, (H.1 hg hm hn).2⟩
 case rem =>
  rcases H with H | H
  ·refine ⟨_, H.2, fun _ _ _ hm hn hg => ⟨.int k (m.tmod n), ?_, ?_⟩⟩
   ·have := (H.1 hg hm hn).2
    simp [eqGuard, binOp, Op.intDiv, show n ≠ 0 by omega]
   ·have h1 := inR_emod hm (H.1 hg hm hn).1 (H.1 hg hm hn).2
    rw [Int.tmod_eq_emod_of_nonneg (H.1 hg hm hn).1]; exact ⟨rfl, h1⟩
  ·refine ⟨_, H.2, fun _ _ _ hm hn hg => ⟨.int k (m.tmod n), ?_, ?_⟩⟩
   ·have := H.1 hg hm hn
    simp [eqGuard, binOp, Op.intDiv, this]
   ·exact ⟨rfl, inR_tmod hm⟩
 case eql => exact ⟨_, H, fun _ _ _ _ _ _ => ⟨_, by simp [eqGuard, binOp, Op.intCmp]; rfl, by simp only [Den]; congr 1⟩⟩
 case neq => exact ⟨_, H, fun _ _ _ _ _ _ => ⟨_, by simp [eqGuard, binOp, Op.intCmp]; rfl, by simp only [Den]; congr 1; by_cases e : m = n <;> simp [e]⟩⟩
 case lss => exact ⟨_, H, fun _ _ _ _ _ _ => ⟨_, by simp [eqGuard, binOp, Op.intCmp]; rfl, by simp only [Den]⟩⟩
 case leq => exact ⟨_, H, fun _ _ _ _ _ _ => ⟨_, by simp [eqGuard, binOp, Op.intCmp]; rfl, by simp only [Den]⟩⟩
 case gtr => exact ⟨_, H, fun _ _ _ _ _ _ => ⟨_, by simp [eqGuard, binOp, Op.intCmp]; rfl, by simp only [Den]⟩⟩
 case geq => exact ⟨_, H, fun _ _ _ _ _ _ => ⟨_, by simp [eqGuard, binOp, Op.intCmp]; rfl, by simp only [Den]⟩⟩
 case and => exact ⟨_, H, fun _ _ _ _ _ _ => ⟨_, by simp [eqGuard, binOp, intBits_and]; rfl, by simp only [Den]; exact ⟨trivial, jbL _ _⟩⟩⟩
 case or => exact ⟨_, H, fun _ _ _ _ _ _ => ⟨_, by simp [eqGuard, binOp, intBits_or]; rfl, by simp only [Den]; exact ⟨trivial, jbL _ _⟩⟩⟩
 case xor => exact ⟨_, H, fun _ _ _ _ _ _ => ⟨_, by simp [eqGuard, binOp, intBits_xor]; rfl, by simp only [Den]; exact ⟨trivial, jbL _ _⟩⟩⟩
 case andNot => exact ⟨_, H, fun _ _ _ _ _ _ => ⟨_, by simp [eqGuard, binOp, intBits_andNot]; rfl, by simp only [Den]; exact ⟨trivial, jbL _ _⟩⟩⟩
 all_goals exact H.elim
def eqP (tb : Tb) (u : Nat) (d e : D) (K : Bool → Prop) : Prop := tyK tb u fun y => match y.kind, d, e with
 | .int k, .int k1 m, .int k2 n => match kE k k1, kE k k2 with
  | true, true => K (decide (m = n))
  | _, _ => False
 | .str, .str a, .str b => K (decide (a = b))
 | .bool, .bool a, .bool b => K (a == b)
 | _, _, _ => False
def eqFs (tb : Tb) : List (Nat × Nat) → Nat → List D → List D → (Bool → Prop) → Prop
 | [], _, [], [], K => K true
 | (o, u) :: fs, j, d :: ds, e :: es, K => match Nat.beq o j with
  | true => eqP tb u d e fun b => eqFs tb fs (j + 1) ds es fun c => K (b && c)
  | false => False
 | _, _, _, _, _ => False
def eqItD (tb : Tb) (fs : List (Nat × Nat)) (sz : Nat) : Nat → List D → List D → (Bool → Prop) → Prop
 | 0, [], [], K => K true
 | n + 1, ds, es, K => takeK ds sz fun a => dropK ds sz fun ds' => takeK es sz fun b => dropK es sz fun es' => eqFs tb fs 0 a b fun x => eqItD tb fs sz n ds' es' fun y => K (x && y)
 | _, _, _, _ => False
def eqArr (tb : Tb) (n e : Nat) (ds es : List D) (K : Bool → Prop) : Prop := match n with
 | 0 => False
 | m + 1 => tyK tb e fun ye => match ye.kind with
  | .struct fs => eqItD tb fs ye.size (m + 1) ds es K
  | _ => False
theorem eqP_el {P : Program} {tb : Tb} (htb : TbOk P tb) {u : Nat} {d e : D} {K : Bool → Prop} (H : eqP tb u d e K) :
  ∃ b, K b ∧ P.plainKey u = true ∧ ∀ (E : Env) (h : Pub) (w : World) (x y : Value), Den E h d x → Den E h e y → ∀ n, (Op.equalIn (n + 1) u x y).run P w = .ok b w := by
 unfold eqP at H
 obtain ⟨y, h1, H⟩ := jak H
 have hty := htb _ _ h1
 split at H
 ·rename_i k k1 m k2 n hk h0
  have hu : P.underlying u = some (.int k) := by have := hty.und; rw [hk] at this; exact this
  cases e1 : kE k k1 with
  | false => rw [e1] at H; exact H.elim
  | true =>
   cases e2 : kE k k2 with
   | false => rw [e1, e2] at H; exact H.elim
   | true =>
    rw [e1, e2] at H
    have := kE_eq e1; subst this
    have := kE_eq e2; subst this
    refine ⟨_, H, by simp [Program.plainKey, hu], fun E h w x y hx hy n => ?_⟩
    simp only [Den] at hx hy
    obtain ⟨rfl, _⟩ := hx; obtain ⟨rfl, _⟩ := hy
    rw [run_equalIn_int w n u k k _ _ hu]; rfl
 ·rename_i a b hk h0
  have hu : P.underlying u = some .string := by have := hty.und; rw [hk] at this; exact this
  refine ⟨_, H, by simp [Program.plainKey, hu], fun E h w x y hx hy n => ?_⟩
  simp only [Den] at hx hy
  obtain ⟨rfl, _⟩ := hx; obtain ⟨rfl, _⟩ := hy
  rw [run_equalIn_string w n u _ _ hu]
  simp only [ByteArray.toList_eq]
  congr 1
  by_cases hab : a = b
  ·subst hab; simp
  ·simp [hab]
 ·rename_i a b hk h0
  have hu : P.underlying u = some .bool := by have := hty.und; rw [hk] at this; exact this
  refine ⟨_, H, by simp [Program.plainKey, hu], fun E h w x y hx hy n => ?_⟩
  simp only [Den] at hx hy
  subst hx hy
  exact run_equalIn_bool w n u a b hu
 ·exact H.elim
theorem jhz {P : Program} {tb : Tb} (htb : TbOk P tb) : ∀ {fs : List (Nat × Nat)} {j : Nat} {ds es : List D} {K : Bool → Prop}, eqFs tb fs j ds es K →
    ∃ b, K b ∧ (∀ o u, (o, u) ∈ fs → P.plainKey u = true) ∧ ∀ (E : Env) (h : Pub) (w : World) (vs us : List Value), DenL E h ds vs → DenL E h es us → ∀ (xs ys : Array Value), (∀ i, i < vs.length → xs[j + i]? = vs[i]?) → (∀ i, i < us.length → ys[j + i]? = us[i]?) →
      ∀ fields : List Field, fields.length = fs.length → (∀ (i o u : Nat), fs[i]? = some (o, u) → ∃ f, fields[i]? = some f ∧ f.offset = o ∧ f.type = u ∧ f.name ≠ "_") → ∀ n, (Op.eqFields (n + 1) xs ys fields).run P w = .ok b w
  | [], j, [], [], K, H => ⟨true, H, fun _ _ h => by simp at h, fun E h w vs us _ _ xs ys _ _ fields hl _ n => by
      have : fields = [] := jiK.1 hl
      subst this; simp [Op.eqFields]⟩
  | (o, u) :: fs, j, d :: ds, e :: es, K, H => by
    unfold eqFs at H
    cases hb : Nat.beq o j with
    | false => rw [hb] at H; exact H.elim
    | true =>
      rw [hb] at H
      have := Nat.eq_of_beq_eq_true hb; subst this
      obtain ⟨b, H, hp, hrun⟩ := eqP_el htb H
      obtain ⟨c, H, hp2, hrun2⟩ := jhz htb H
      refine ⟨b && c, H, fun o' u' hm => ?_, fun E h w vs us hvs hus xs ys hxs hys fields hl hf n => ?_⟩
      · rcases jiL.1 hm with hm | hm
        · cases hm; exact hp
        · exact hp2 _ _ hm
      · simp only [DenL] at hvs hus
        obtain ⟨v, vs, rfl, hv, hvs⟩ := hvs
        obtain ⟨v2, us, rfl, hv2, hus⟩ := hus
        cases fields with
        | nil => simp at hl
        | cons f fields =>
          obtain ⟨f', e1, e2, e3, e4⟩ := hf 0 o u rfl
          simp at e1; subst e1
          have r2 := hrun2 E h w vs us hvs hus xs ys (fun i hi => by have := hxs (i + 1) (by simp; omega); rw [← Nat.add_assoc, Nat.add_right_comm] at this; simpa using this) (fun i hi => by have := hys (i + 1) (by simp; omega); rw [← Nat.add_assoc, Nat.add_right_comm] at this; simpa using this) fields (by simpa using hl) (fun i o' u' hi => by
            obtain ⟨g, g1, g2⟩ := hf (i + 1) o' u' (by simpa using hi)
            exact ⟨g, by simpa using g1, g2⟩) n
          have p1 : (part f.type xs f.offset).run P w = .ok v w := run_part_plain w (by rw [e3]; exact hp) (by have := hxs 0 (by simp); rw [e2]; simpa using this)
          have p2 : (part f.type ys f.offset).run P w = .ok v2 w := run_part_plain w (by rw [e3]; exact hp) (by have := hys 0 (by simp); rw [e2]; simpa using this)
          have p3 := hrun E h w v v2 hv hv2 n
          rw [← e3] at p3
          simp only [Op.eqFields, e4, ne_eq, not_false_eq_true, if_true, Sem.run_bind, p1, p2, p3, Result.andThen_ok]
          cases b
          · simp
          · simpa using r2
  | [], _, _ :: _, _, _, H => by simp [eqFs] at H
  | [], _, [], _ :: _, _, H => by simp [eqFs] at H
  | _ :: _, _, [], _, _, H => by simp [eqFs] at H
  | _ :: _, _, _ :: _, [], _, H => by simp [eqFs] at H
theorem guard_str {P : Program} {t : Nat} {fields : Array Field} (hu : P.underlying t = some (.struct fields)) (hp : ∀ f ∈ fields.toList, P.plainKey f.type = true) : P.eqGuardType P.depth t = false := by
 have : ∀ d, P.eqGuardType (d + 2) t = false := fun d => by
  simp only [Program.eqGuardType, hu]
  rw [← Array.any_toList, List.any_eq_false]
  intro f hf
  have h := hp f hf
  unfold Program.plainKey at h
  unfold Program.eqGuardType
  split at h <;> simp_all
 exact this _
theorem jfZ {P : Program} {t : Nat} {fields : Array Field} (hu : P.underlying t = some (.struct fields)) (hp : ∀ f ∈ fields.toList, P.plainKey f.type = true) (op : BinOp) (x y : Operand) (a b : Array Value) (w : World) :
  (eqGuard op t x y (.agg a) (.agg b)).run P w = .ok () w := by
 have hg := guard_str hu hp
 have hp : (program : Sem Program).run P w = .ok P w := rfl
 cases op <;> simp [eqGuard, Sem.run_bind, hp, hg]
def binD (tb : Tb) (g : Prop) (op : BinOp) (t : Nat) (dx dy : D) (K : D → Prop) : Prop := match dx, dy with
 | .int k m, .int k' n => match op with
  | .shr => (g → InR k m → 0 ≤ n ∧ n ≤ k.bits) ∧ K (.int k (m / 2 ^ n.toNat))
  | .shl => (g → InR k m → 0 ≤ n ∧ n ≤ k.bits) ∧ K (.int k (k.wrap (m * 2 ^ n.toNat)))
  | op => match kE k k' with | true => binI g op k m n K | false => False
 | .bool a, .bool b => match op with
  | .eql => tyK tb t fun y => match y.kind with | .bool => K (.bool (a == b)) | _ => False
  | .neq => tyK tb t fun y => match y.kind with | .bool => K (.bool (!(a == b))) | _ => False
  | _ => False
 | .str a, .str b => match op with
  | .eql => K (.bool (decide (a = b)))
  | .neq => K (.bool (decide (a ≠ b)))
  | .add => (g → a.length + b.length ≤ 281474976710656) ∧ K (.str (a ++ b))
  | _ => False
 | .nil, .nil => match op with
  | .eql => tyK tb t fun y => match y.kind with | .slice _ => K (.bool true) | _ => False
  | .neq => tyK tb t fun y => match y.kind with | .slice _ => K (.bool false) | _ => False
  | _ => False
 | .ints _ xs, .nil => match op with
  | .eql => tyK tb t fun y => match y.kind with | .slice _ => K (.anyb fun b => b = true → xs = []) | _ => False
  | .neq => tyK tb t fun y => match y.kind with | .slice _ => K (.anyb fun b => b = false → xs = []) | _ => False
  | _ => False
 | .iarr k xs, .iarr k' ys => match kE k k' with
  | true => tyK tb t fun y => match y.kind with
   | .arr n e => tyK tb e fun ye => match ye.kind with
    | .int k2 => match kE k k2 with
     | true => match op with
      | .eql => (g → xs.length = n ∧ ys.length = n) ∧ K (.bool (decide (xs = ys)))
      | .neq => (g → xs.length = n ∧ ys.length = n) ∧ K (.bool (!decide (xs = ys)))
      | _ => False
     | false => False
    | _ => False
   | _ => False
  | false => False
 | .osl _ _ len, .nil => match op with
  | .eql => tyK tb t fun y => match y.kind with | .slice _ => ((g → 0 < len) ∧ K (.bool false)) ∨ K (.anyb fun b => b = true → len = 0) | _ => False
  | .neq => tyK tb t fun y => match y.kind with | .slice _ => ((g → 0 < len) ∧ K (.bool true)) ∨ K (.anyb fun b => b = false → len = 0) | _ => False
  | _ => False
 | .slf _ n _, .nil => match op with
  | .eql => tyK tb t fun y => match y.kind with | .slice _ => (g → 0 < n) ∧ K (.bool false) | _ => False
  | .neq => tyK tb t fun y => match y.kind with | .slice _ => (g → 0 < n) ∧ K (.bool true) | _ => False
  | _ => False
 | .agg ds, .agg es => match op with
  | .eql => tyK tb t fun y => match y.kind with | .struct fs => eqFs tb fs 0 ds es fun b => K (.bool b) | .arr n e => eqArr tb n e ds es fun b => K (.bool b) | _ => False
  | .neq => tyK tb t fun y => match y.kind with | .struct fs => eqFs tb fs 0 ds es fun b => K (.bool (!b)) | .arr n e => eqArr tb n e ds es fun b => K (.bool (!b)) | _ => False
  | _ => False
 | _, _ => False
theorem inR_shr {k : IntKind} {m : Int} (h : InR k m) (n : Nat) : InR k (m / 2 ^ n) := by
  have hp : (1 : Int) ≤ 2 ^ n := by
    have : (0 : Int) < 2 ^ n := Int.pow_pos (by decide)
    omega
  have h1 := jb9 k
  have h2 := jdF k
  obtain ⟨h3, h4⟩ := h
  rcases Int.le_total 0 m with h0 | h0
  · have h5 : 0 ≤ m / 2 ^ n := Int.ediv_nonneg h0 (by omega)
    have h6 : m / 2 ^ n ≤ m := Int.ediv_le_self _ h0
    exact ⟨by omega, by omega⟩
  · have h5 : m ≤ m / 2 ^ n := Int.le_ediv_of_mul_le (by omega) (by
      have := Int.mul_le_mul_of_nonpos_left h0 hp
      omega)
    have h6 : m / 2 ^ n ≤ 0 := by
      have := Int.ediv_le_ediv (by omega : (0 : Int) < 2 ^ n) h0
      simpa using this
    exact ⟨by omega, by omega⟩
theorem jgF {P : Program} {t : Nat} {y : Ty} (h : TyOk P t y) (hk : y.kind = .bool) : P.underlying t = some .bool := by
 have := h.und; rw [hk] at this; exact this
theorem jel {P : Program} {t : Nat} {y : Ty} (h : TyOk P t y) (hk : y.kind = .str) : P.underlying t = some .string := by
 have := h.und; rw [hk] at this; exact this
theorem jdu {P : Program} {t : Nat} {y : Ty} {k : IntKind} (h : TyOk P t y) (hk : y.kind = .int k) : P.underlying t = some (.int k) := by
 have := h.und; rw [hk] at this; exact this
theorem jaw {P : Program} {t : Nat} {y : Ty} {e : Nat} (h : TyOk P t y) (hk : y.kind = .slice e) : P.underlying t = some (.slice e) := by
 have := h.und; rw [hk] at this; exact this
theorem jcm {P : Program} {t : Nat} {y : Ty} {n e : Nat} (h : TyOk P t y) (hk : y.kind = .arr n e) : P.underlying t = some (.array n e) := by
 have := h.und; rw [hk] at this; exact this
theorem jez {P : Program} {t : Nat} (hu : P.underlying t = some .bool) (a b : Bool) (w : World) : (Op.equal t (.bool a) (.bool b)).run P w = .ok (a == b) w := by
 have : ∀ d, (Op.equalIn (d + 1) t (.bool a) (.bool b)).run P w = .ok (a == b) w := fun d => by simp [Op.equalIn, run_underlying hu]
 exact this 9999
theorem jbD {P : Program} {t e : Nat} (hu : P.underlying t = some (.slice e)) (w : World) : (Op.equal t (.slice none 0 0) (.slice none 0 0)).run P w = .ok true w := by
 have : ∀ d, (Op.equalIn (d + 1) t (.slice none 0 0) (.slice none 0 0)).run P w = .ok true w := fun d => by simp [Op.equalIn, run_underlying hu]
 exact this 9999
theorem jba {P : Program} {t e : Nat} (hu : P.underlying t = some (.slice e)) (w : World) (a : Addr) (n c : Nat) : (Op.equal t (.slice (some a) n c) (.slice none 0 0)).run P w = .ok false w := by
 have : ∀ d, (Op.equalIn (d + 1) t (.slice (some a) n c) (.slice none 0 0)).run P w = .ok false w := fun d => by simp [Op.equalIn, run_underlying hu]
 exact this 9999
theorem jbP {P : Program} {t : Nat} {u v : Value} {b : Bool} {w : World} (x y : Operand) (hb : binOp .eql t u v = (do pure (.bool (← Op.equal t u v)))) (hg : eqGuard .eql t x y u v = pure ()) (H : (Op.equal t u v).run P w = .ok b w) :
  (do eqGuard .eql t x y u v; binOp .eql t u v : Sem Value).run P w = .ok (.bool b) w := by
 rw [hg, hb]; simp only [Sem.run_bind, Sem.run_pure, Result.andThen_ok, H]
theorem jbO {P : Program} {t : Nat} {u v : Value} {b : Bool} {w : World} (x y : Operand) (hb : binOp .neq t u v = (do pure (.bool (!(← Op.equal t u v))))) (hg : eqGuard .neq t x y u v = pure ()) (H : (Op.equal t u v).run P w = .ok b w) :
  (do eqGuard .neq t x y u v; binOp .neq t u v : Sem Value).run P w = .ok (.bool (!b)) w := by
 rw [hg, hb]; simp only [Sem.run_bind, Sem.run_pure, Result.andThen_ok, H]
theorem jfr {P : Program} {tb : Tb} (htb : TbOk P tb) {t : Nat} {y : Ty} {fs : List (Nat × Nat)} {ds es : List D} {K : Bool → Prop} (h1 : tyL tb t = some y) (hk : y.kind = .struct fs) (H : eqFs tb fs 0 ds es K) :
  ∃ b, K b ∧ ∀ (E : Env) (h : Pub) (w : World) (u v : Value), Den E h (.agg ds) u → Den E h (.agg es) v → (Op.equal t u v).run P w = .ok b w ∧ ∃ a c, u = .agg a ∧ v = .agg c ∧ ∀ (op : BinOp) (x y : Operand), (eqGuard op t x y (.agg a) (.agg c)).run P w = .ok () w := by
 obtain ⟨b, hK, hp, hr⟩ := jhz htb H
 have hty := htb _ _ h1
 have hu := hty.und
 rw [hk] at hu
 obtain ⟨fields, hu, hl, hf⟩ := hu
 obtain ⟨e1, e2⟩ := hty.eqs _ hu
 have hfo : P.fieldsOf t = fields := by simp [Program.fieldsOf, hu]
 have hpl : ∀ f ∈ fields.toList, P.plainKey f.type = true := fun f hm => by
  obtain ⟨i, hi, rfl⟩ := List.mem_iff_getElem.1 hm
  have hi2 : i < fs.length := by rw [← hl]; simpa using hi
  obtain ⟨f', iu, g1, g2, g3, _⟩ := hf i fs[i].1 fs[i].2 (by simp [hi2])
  have : fields.toList[i]? = some f' := by rw [← g1]; simp
  rw [jiM hi] at this
  cases this
  rw [g3]
  exact hp fs[i].1 fs[i].2 (jiN hi2)
 refine ⟨b, hK, fun E h w u v hu' hv' => ?_⟩
 simp only [Den] at hu' hv'
 obtain ⟨vs, rfl, hvs, _⟩ := hu'
 obtain ⟨us, rfl, hus, _⟩ := hv'
 refine ⟨?_, _, _, rfl, rfl, fun op x y => jfZ hu hpl op x y _ _ w⟩
 have : ∀ d, (Op.equalIn (d + 2) t (.agg vs.toArray) (.agg us.toArray)).run P w = .ok b w := fun d => by
  rw [run_equalIn_struct w (d + 1) t _ _ (by rw [hfo]; exact hu) e1, hfo]
  exact hr E h w vs us hvs hus _ _ (fun i _ => by simp) (fun i _ => by simp) fields.toList (by simpa using hl) (fun i o u hi => by
   obtain ⟨f, iu, g1, g2, g3, _⟩ := hf i o u hi
   have g4 : fields.toList[i]? = some f := by rw [← g1]; simp
   exact ⟨f, g4, g2, g3, e2 f (jiO g4)⟩) d
 exact this 9998
theorem jg4 {P : Program} {tb : Tb} (htb : TbOk P tb) {t : Nat} {y : Ty} {fs : List (Nat × Nat)} {ds es : List D} {K : Bool → Prop} (h1 : tyL tb t = some y) (hk : y.kind = .struct fs) (H : eqFs tb fs 0 ds es K) :
  (∃ fields, P.underlying t = some (.struct fields) ∧ ∀ f ∈ fields.toList, P.plainKey f.type = true) ∧ ∃ b, K b ∧ ∀ (E : Env) (h : Pub) (w : World) (vs us : List Value), DenL E h ds vs → DenL E h es us → ∀ d, (Op.equalIn (d + 2) t (.agg vs.toArray) (.agg us.toArray)).run P w = .ok b w := by
 obtain ⟨b, hK, hp, hr⟩ := jhz htb H
 have hty := htb _ _ h1
 have hu := hty.und
 rw [hk] at hu
 obtain ⟨fields, hu, hl, hf⟩ := hu
 obtain ⟨e1, e2⟩ := hty.eqs _ hu
 have hfo : P.fieldsOf t = fields := by simp [Program.fieldsOf, hu]
 have hpl : ∀ f ∈ fields.toList, P.plainKey f.type = true := fun f hm => by
  obtain ⟨i, hi, rfl⟩ := List.mem_iff_getElem.1 hm
  have hi2 : i < fs.length := by rw [← hl]; simpa using hi
  obtain ⟨f', iu, g1, g2, g3, _⟩ := hf i fs[i].1 fs[i].2 (by simp [hi2])
  have : fields.toList[i]? = some f' := by rw [← g1]; simp
  rw [jiM hi] at this
  cases this
  rw [g3]
  exact hp fs[i].1 fs[i].2 (jiN hi2)
 refine ⟨⟨fields, hu, hpl⟩, b, hK, fun E h w vs us hvs hus d => ?_⟩
 rw [run_equalIn_struct w (d + 1) t _ _ (by rw [hfo]; exact hu) e1, hfo]
 exact hr E h w vs us hvs hus _ _ (fun i _ => by simp) (fun i _ => by simp) fields.toList (by simpa using hl) (fun i o u hi => by
  obtain ⟨f, iu, g1, g2, g3, _⟩ := hf i o u hi
  have g4 : fields.toList[i]? = some f := by rw [← g1]; simp
  exact ⟨f, g4, g2, g3, e2 f (jiO g4)⟩) d
theorem jdh {P : Program} {t : Nat} {y : Ty} (hy : TyOk P t y) (ha : y.kind.isAgg = true) (vs : List Value) (o : Nat) (w : World) :
  (part t vs.toArray o).run P w = .ok (.agg ((vs.drop o).take y.size).toArray) w := by
 simp only [part, Sem.run_bind, hy.isAgg w, ha, Result.andThen_ok, if_true, hy.sizeOf w, Sem.run_pure]
 congr 2
 apply Array.toList_inj.1
 simp [List.take_drop]
theorem eqIt_el {P : Program} {tb : Tb} (htb : TbOk P tb) {e : Nat} {ye : Ty} {fs : List (Nat × Nat)} (h1 : tyL tb e = some ye) (hk : ye.kind = .struct fs) : ∀ {n : Nat} {ds es : List D} {K : Bool → Prop}, eqItD tb fs ye.size n ds es K →
  (n ≠ 0 → ∃ fields, P.underlying e = some (.struct fields) ∧ ∀ f ∈ fields.toList, P.plainKey f.type = true) ∧ ∃ b, K b ∧ ∀ (E : Env) (h : Pub) (w : World) (vs us : List Value), DenL E h ds vs → DenL E h es us → ∀ (p1 p2 : List Value) (j : Nat), p1.length = j * ye.size → p2.length = j * ye.size → ∀ d,
   (Op.eqItems (d + 2) e (P.cellsOf e) (p1 ++ vs).toArray (p2 ++ us).toArray (List.range' j n)).run P w = .ok b w
 | 0, [], [], K, H => ⟨fun h => absurd rfl h, true, H, fun E h w vs us _ _ p1 p2 j _ _ d => by simp [Op.eqItems]⟩
 | 0, _ :: _, _, _, H => by simp [eqItD] at H
 | 0, [], _ :: _, _, H => by simp [eqItD] at H
 | n + 1, ds, es, K, H => by
  unfold eqItD at H
  obtain ⟨l1, H⟩ := jcf H
  obtain ⟨_, H⟩ := jcq H
  obtain ⟨l2, H⟩ := jcf H
  obtain ⟨_, H⟩ := jcq H
  obtain ⟨hpl, x, H, hr⟩ := jg4 htb h1 hk H
  obtain ⟨_, y, hK, hr2⟩ := eqIt_el htb h1 hk H
  have hty := htb _ _ h1
  have hag : ye.kind.isAgg = true := by rw [hk]; rfl
  obtain ⟨i, z, i1, i2, _⟩ := hty.info
  have hc : P.cellsOf e = ye.size := by simp [Program.cellsOf, i1, i2]
  refine ⟨fun _ => hpl, x && y, hK, fun E h w vs us hv hu p1 p2 j e1 e2 d => ?_⟩
  have lv := hv.length
  have lu := hu.length
  have r1 := hr E h w (vs.take ye.size) (us.take ye.size) (hv.take _) (hu.take _) d
  have r2 := hr2 E h w (vs.drop ye.size) (us.drop ye.size) (hv.drop _) (hu.drop _) (p1 ++ vs.take ye.size) (p2 ++ us.take ye.size) (j + 1) (by rw [jiP, jiQ, e1, Nat.min_eq_left (by omega), Nat.add_mul, Nat.one_mul]) (by rw [jiP, jiQ, e2, Nat.min_eq_left (by omega), Nat.add_mul, Nat.one_mul]) d
  rw [jiR, List.take_append_drop, jiR, List.take_append_drop] at r2
  have q1 : (part e (p1 ++ vs).toArray (j * P.cellsOf e)).run P w = .ok (.agg (vs.take ye.size).toArray) w := by
   rw [jdh hty hag, hc, ← e1, List.drop_left]
  have q2 : (part e (p2 ++ us).toArray (j * P.cellsOf e)).run P w = .ok (.agg (us.take ye.size).toArray) w := by
   rw [jdh hty hag, hc, ← e2, List.drop_left]
  rw [List.range'_succ]
  simp only [Op.eqItems, Sem.run_bind, q1, q2, r1, Result.andThen_ok]
  cases x
  ·simp
  ·simpa using r2
theorem guard_arrs {P : Program} {t n e : Nat} {fields : Array Field} (hu : P.underlying t = some (.array n e)) (hue : P.underlying e = some (.struct fields)) (hp : ∀ f ∈ fields.toList, P.plainKey f.type = true) : P.eqGuardType P.depth t = false := by
 have : ∀ d, P.eqGuardType (d + 3) t = false := fun d => by
  simp only [Program.eqGuardType, hu, hue]
  rw [← Array.any_toList, List.any_eq_false]
  intro f hf
  have h := hp f hf
  unfold Program.plainKey at h
  unfold Program.eqGuardType
  split at h <;> simp_all
 exact this _
theorem jeA {P : Program} {tb : Tb} (htb : TbOk P tb) {t n e : Nat} {y : Ty} {ds es : List D} {K : Bool → Prop} (h1 : tyL tb t = some y) (hk : y.kind = .arr n e) (H : eqArr tb n e ds es K) :
  ∃ b, K b ∧ ∀ (E : Env) (h : Pub) (w : World) (u v : Value), Den E h (.agg ds) u → Den E h (.agg es) v → (Op.equal t u v).run P w = .ok b w ∧ ∃ a c, u = .agg a ∧ v = .agg c ∧ ∀ (op : BinOp) (x y : Operand), (eqGuard op t x y (.agg a) (.agg c)).run P w = .ok () w := by
 unfold eqArr at H
 cases n with
 | zero => exact H.elim
 | succ m =>
  obtain ⟨ye, h3, H⟩ := jak H
  have hu := jcm (htb _ _ h1) hk
  split at H
  case h_2 => exact H.elim
  rename_i fs hke
  obtain ⟨hpl, b, hK, hr⟩ := eqIt_el htb h3 hke H
  obtain ⟨fields, hue, hpl⟩ := hpl (by omega)
  obtain ⟨i, z, i1, i2, _⟩ := (htb _ _ h3).info
  refine ⟨b, hK, fun E h w u v hu' hv' => ?_⟩
  simp only [Den] at hu' hv'
  obtain ⟨vs, rfl, hvs, _⟩ := hu'
  obtain ⟨us, rfl, hus, _⟩ := hv'
  refine ⟨?_, _, _, rfl, rfl, fun op x y => ?_⟩
  ·have : ∀ d, (Op.equalIn (d + 3) t (.agg vs.toArray) (.agg us.toArray)).run P w = .ok b w := fun d => by
    rw [run_equalIn_array w (d + 2) _ _ hu i1, List.range_eq_range']
    have := hr E h w vs us hvs hus [] [] 0 (by simp) (by simp) d
    simpa using this
   exact this 9997
  ·have hg := guard_arrs hu hue hpl
   have hp : (program : Sem Program).run P w = .ok P w := rfl
   cases op <;> simp [eqGuard, Sem.run_bind, hp, hg]
theorem bin_D {P : Program} {tb : Tb} (htb : TbOk P tb) {op : BinOp} {t : Nat} {x y : Operand} {dx dy : D} {g : Prop} {K : D → Prop}
  (H : binD tb g op t dx dy K) : ∃ d, K d ∧ ∀ E h w u v, Den E h dx u → Den E h dy v → g → Gives P E h (do eqGuard op t x y u v; binOp op t u v) w d := by
 unfold binD at H
 split at H
 ·rename_i k m k' n
  by_cases hop : op = .shr
  ·subst hop
   refine ⟨_, H.2, fun E h w u v hu hv hg => ?_⟩
   simp only [Den] at hu hv
   obtain ⟨rfl, h1⟩ := hu; obtain ⟨rfl, h2⟩ := hv
   obtain ⟨h3, h4⟩ := H.1 hg h1
   refine ⟨.int k (m / 2 ^ n.toNat), ?_, by simp only [Den]; exact ⟨trivial, inR_shr h1 _⟩⟩
   have e1 : binOp .shr t (.int k m) (.int k' n) = Op.shift .shr k m k' n := rfl
   have e2 : eqGuard .shr t x y (.int k m) (.int k' n) = pure () := by simp [eqGuard]
   rw [e1, e2, shift_shr k k' m n h3 h4]
   rfl
  by_cases hop2 : op = .shl
  ·subst hop2
   refine ⟨_, H.2, fun E h w u v hu hv hg => ?_⟩
   simp only [Den] at hu hv
   obtain ⟨rfl, h1⟩ := hu; obtain ⟨rfl, h2⟩ := hv
   obtain ⟨h3, h4⟩ := H.1 hg h1
   refine ⟨.int k (k.wrap (m * 2 ^ n.toNat)), ?_, by simp only [Den]; exact ⟨trivial, jbL _ _⟩⟩
   have e1 : binOp .shl t (.int k m) (.int k' n) = Op.shift .shl k m k' n := rfl
   have e2 : eqGuard .shl t x y (.int k m) (.int k' n) = pure () := by simp [eqGuard]
   rw [e1, e2, shift_shl k k' m n h3 h4]
   rfl
  have H2 : (match kE k k' with | true => binI g op k m n K | false => False) := by
   cases op <;> first | exact H | exact absurd rfl hop | exact absurd rfl hop2
  cases hk : kE k k' with
  | false => rw [hk] at H2; exact H2.elim
  | true =>
   rw [hk] at H2
   have := kE_eq hk; subst this
   obtain ⟨d, hd, hh⟩ := bin_int (P := P) (t := t) (x := x) (y := y) H2
   refine ⟨d, hd, fun E h w u v hu hv hg => ?_⟩
   simp only [Den] at hu hv
   obtain ⟨rfl, h1⟩ := hu; obtain ⟨rfl, h2⟩ := hv
   exact hh E h w h1 h2 hg
 ·rename_i a b
  split at H
  ·obtain ⟨y', h1, h2⟩ := jak H
   have hty := htb _ _ h1
   split at h2 <;> first | exact h2.elim | skip
   rename_i hk
   have hu := jgF hty hk
   refine ⟨_, h2, fun E h w u v hu' hv' hg => ?_⟩
   simp only [Den] at hu' hv'
   subst hu' hv'
   exact ⟨_, jbP x y rfl rfl (jez hu _ _ w), by simp only [Den]⟩
  ·obtain ⟨y', h1, h2⟩ := jak H
   have hty := htb _ _ h1
   split at h2 <;> first | exact h2.elim | skip
   rename_i hk
   have hu := jgF hty hk
   refine ⟨_, h2, fun E h w u v hu' hv' hg => ?_⟩
   simp only [Den] at hu' hv'
   subst hu' hv'
   exact ⟨_, jbO x y rfl rfl (jez hu _ _ w), by simp only [Den]⟩
  ·exact H.elim
 ·rename_i a b
  split at H
  ·refine ⟨_, H, fun E h w u v hu' hv' hg => ?_⟩
   simp only [Den] at hu' hv'
   obtain ⟨rfl, _⟩ := hu'; obtain ⟨rfl, _⟩ := hv'
   refine ⟨.bool (decide (a = b)), ?_, by simp only [Den]⟩
   simp [eqGuard, binOp, Op.stringOp]
   by_cases e : a = b <;> simp [e]
  ·refine ⟨_, H, fun E h w u v hu' hv' hg => ?_⟩
   simp only [Den] at hu' hv'
   obtain ⟨rfl, _⟩ := hu'; obtain ⟨rfl, _⟩ := hv'
   refine ⟨.bool (decide (a ≠ b)), ?_, by simp only [Den]⟩
   simp [eqGuard, binOp, Op.stringOp]
   by_cases e : a = b <;> simp [e]
  ·refine ⟨_, H.2, fun E h w u v hu' hv' hg => ?_⟩
   simp only [Den] at hu' hv'
   obtain ⟨rfl, _⟩ := hu'; obtain ⟨rfl, _⟩ := hv'
   have hl := H.1 hg
   refine ⟨.string ⟨(a ++ b).toArray⟩, ?_, by simp only [Den]; exact ⟨trivial, by simpa using hl⟩⟩
   have h1 : ¬ ((((⟨a.toArray⟩ : ByteArray).size + (⟨b.toArray⟩ : ByteArray).size : Nat) : Int) > IntKind.i64.max) := by
    simp only [ByteArray.size, List.size_toArray, IntKind.max, IntKind.signed, IntKind.bits]
    simp; omega
   simp only [eqGuard, binOp, Op.stringOp]
   rw [if_neg h1]
   simp
   apply ByteArray.ext
   simp
  ·exact H.elim
 ·split at H
  ·obtain ⟨y', h1, h2⟩ := jak H
   have hty := htb _ _ h1
   split at h2 <;> first | exact h2.elim | skip
   rename_i hk
   have hu := jaw hty hk
   refine ⟨_, h2, fun E h w u v hu' hv' hg => ?_⟩
   simp only [Den] at hu' hv'
   subst hu' hv'
   exact ⟨_, jbP x y rfl rfl (jbD hu w), by simp only [Den]⟩
  ·obtain ⟨y', h1, h2⟩ := jak H
   have hty := htb _ _ h1
   split at h2 <;> first | exact h2.elim | skip
   rename_i hk
   have hu := jaw hty hk
   refine ⟨_, h2, fun E h w u v hu' hv' hg => ?_⟩
   simp only [Den] at hu' hv'
   subst hu' hv'
   exact ⟨_, jbO x y rfl rfl (jbD hu w), by simp only [Den]; rfl⟩
  ·exact H.elim
 ·have den : ∀ {E : Env} {h : Pub} {k : IntKind} {xs : List Int} {u : Value}, Den E h (.ints k xs) u → ∃ a c, u = .slice a xs.length c ∧ (a = none → xs = [] ∧ c = 0) := by
   intro E h k xs u hu
   simp only [Den, jaK] at hu
   obtain ⟨a, c, rfl, _, _, _, h5⟩ := hu
   refine ⟨a, c, rfl, fun e => ?_⟩
   subst e; exact h5
  split at H
  ·obtain ⟨y', h1, h2⟩ := jak H
   have hty := htb _ _ h1
   split at h2 <;> first | exact h2.elim | skip
   rename_i hk
   have hu := jaw hty hk
   refine ⟨_, h2, fun E h w u v hu' hv' hg => ?_⟩
   obtain ⟨a, c, rfl, ha⟩ := den hu'
   simp only [Den] at hv'
   subst hv'
   cases a with
   | none =>
    obtain ⟨rfl, rfl⟩ := ha rfl
    exact ⟨_, jbP x y rfl rfl (jbD hu w), by simp only [Den]; exact ⟨true, rfl, by simp⟩⟩
   | some a => exact ⟨_, jbP x y rfl rfl (jba hu w _ _ _), by simp only [Den]; exact ⟨false, rfl, fun e => by cases e⟩⟩
  ·obtain ⟨y', h1, h2⟩ := jak H
   have hty := htb _ _ h1
   split at h2 <;> first | exact h2.elim | skip
   rename_i hk
   have hu := jaw hty hk
   refine ⟨_, h2, fun E h w u v hu' hv' hg => ?_⟩
   obtain ⟨a, c, rfl, ha⟩ := den hu'
   simp only [Den] at hv'
   subst hv'
   cases a with
   | none =>
    obtain ⟨rfl, rfl⟩ := ha rfl
    exact ⟨_, jbO x y rfl rfl (jbD hu w), by simp only [Den]; exact ⟨false, rfl, by simp⟩⟩
   | some a => exact ⟨_, jbO x y rfl rfl (jba hu w _ _ _), by simp only [Den]; exact ⟨true, rfl, fun e => by cases e⟩⟩
  ·exact H.elim
 ·rename_i k xs k' ys
  cases hkk : kE k k' with
  | false => rw [hkk] at H; exact H.elim
  | true =>
   rw [hkk] at H
   have := kE_eq hkk; subst this
   obtain ⟨y', h1, h2⟩ := jak H
   have hty := htb _ _ h1
   split at h2 <;> first | exact h2.elim | skip
   rename_i n e hk
   have hu := jcm hty hk
   obtain ⟨ye, h3, h4⟩ := jak h2
   have hte := htb _ _ h3
   split at h4 <;> first | exact h4.elim | skip
   rename_i k2 hke
   have hue := jdu hte hke
   cases hk2 : kE k k2 with
   | false => rw [hk2] at h4; exact h4.elim
   | true =>
    rw [hk2] at h4
    have := kE_eq hk2; subst this
    obtain ⟨iy, z, i1, i2, _, _, _, _, _, _, i9⟩ := hte.info
    have hs1 : iy.size = 1 := by rw [i2]; exact (i9 (by rw [hke]; rfl)).2
    have key : ∀ (E : Env) (h : Pub) (w : World) (u v : Value), Den E h (.iarr k xs) u → Den E h (.iarr k ys) v → xs.length = n ∧ ys.length = n → (Op.equal t u v).run P w = .ok (decide (xs = ys)) w ∧ ∃ a b, u = .agg a ∧ v = .agg b := by
     intro E h w u v hu' hv' hl
     simp only [Den] at hu' hv'
     obtain ⟨rfl, _⟩ := hu'; obtain ⟨rfl, _⟩ := hv'
     exact ⟨jg5 hu hue i1 hs1 hl.1 hl.2 w, _, _, rfl, rfl⟩
    cases op
    case eql =>
     refine ⟨_, h4.2, fun E h w u v hu' hv' hg => ?_⟩
     obtain ⟨hq, a, b, rfl, rfl⟩ := key E h w u v hu' hv' (h4.1 hg)
     refine ⟨.bool (decide (xs = ys)), ?_, by simp only [Den]⟩
     simp only [Sem.run_bind, jdj hu hue, Result.andThen_ok, binOp, hq, Sem.run_pure]
    case neq =>
     refine ⟨_, h4.2, fun E h w u v hu' hv' hg => ?_⟩
     obtain ⟨hq, a, b, rfl, rfl⟩ := key E h w u v hu' hv' (h4.1 hg)
     refine ⟨.bool (!decide (xs = ys)), ?_, by simp only [Den]⟩
     simp only [Sem.run_bind, jdj hu hue, Result.andThen_ok, binOp, hq, Sem.run_pure]
    all_goals exact h4.elim
 ·split at H
  ·obtain ⟨y', h1, h2⟩ := jak H
   have hty := htb _ _ h1
   split at h2 <;> first | exact h2.elim | skip
   rename_i hk
   have hu := jaw hty hk
   rcases h2 with h2 | h2
   ·refine ⟨_, h2.2, fun E h w u v hu' hv' hg => ?_⟩
    have hpos := h2.1 hg
    simp only [Den] at hu' hv'
    rcases hu' with ⟨_, _, hu'⟩ | ⟨_, o, cap, rfl, _⟩
    ·omega
    subst hv'
    exact ⟨_, jbP x y rfl rfl (jba hu w _ _ _), by simp only [Den]⟩
   ·refine ⟨_, h2, fun E h w u v hu' hv' hg => ?_⟩
    simp only [Den] at hu' hv'
    subst hv'
    rcases hu' with ⟨_, rfl, hl⟩ | ⟨_, o, cap, rfl, _⟩
    ·exact ⟨_, jbP x y rfl rfl (jbD hu w), by simp only [Den]; exact ⟨_, rfl, fun _ => hl⟩⟩
    ·exact ⟨_, jbP x y rfl rfl (jba hu w _ _ _), by simp only [Den]; exact ⟨_, rfl, fun e => by simp at e⟩⟩
  ·obtain ⟨y', h1, h2⟩ := jak H
   have hty := htb _ _ h1
   split at h2 <;> first | exact h2.elim | skip
   rename_i hk
   have hu := jaw hty hk
   rcases h2 with h2 | h2
   ·refine ⟨_, h2.2, fun E h w u v hu' hv' hg => ?_⟩
    have hpos := h2.1 hg
    simp only [Den] at hu' hv'
    rcases hu' with ⟨_, _, hu'⟩ | ⟨_, o, cap, rfl, _⟩
    ·omega
    subst hv'
    exact ⟨_, jbO x y rfl rfl (jba hu w _ _ _), by simp only [Den]; rfl⟩
   ·refine ⟨_, h2, fun E h w u v hu' hv' hg => ?_⟩
    simp only [Den] at hu' hv'
    subst hv'
    rcases hu' with ⟨_, rfl, hl⟩ | ⟨_, o, cap, rfl, _⟩
    ·exact ⟨_, jbO x y rfl rfl (jbD hu w), by simp only [Den]; exact ⟨_, rfl, fun _ => hl⟩⟩
    ·exact ⟨_, jbO x y rfl rfl (jba hu w _ _ _), by simp only [Den]; exact ⟨_, rfl, fun e => by simp at e⟩⟩
  ·exact H.elim
 ·have den : ∀ {E : Env} {h : Pub} {e n : Nat} {f : Nat → List D} {u : Value}, Den E h (.slf e n f) u → 0 < n → ∃ a c, u = .slice (some a) n c := by
   intro E h e n f u hu hn
   simp only [Den] at hu
   obtain ⟨a, c, rfl, _, _, h5⟩ := hu
   cases a with
   | none => simp only at h5; omega
   | some a => exact ⟨a, c, rfl⟩
  split at H
  ·obtain ⟨y', h1, h2⟩ := jak H
   have hty := htb _ _ h1
   split at h2 <;> first | exact h2.elim | skip
   rename_i hk
   have hu := jaw hty hk
   refine ⟨_, h2.2, fun E h w u v hu' hv' hg => ?_⟩
   obtain ⟨a, c, rfl⟩ := den hu' (h2.1 hg)
   simp only [Den] at hv'
   subst hv'
   exact ⟨_, jbP x y rfl rfl (jba hu w _ _ _), by simp only [Den]⟩
  ·obtain ⟨y', h1, h2⟩ := jak H
   have hty := htb _ _ h1
   split at h2 <;> first | exact h2.elim | skip
   rename_i hk
   have hu := jaw hty hk
   refine ⟨_, h2.2, fun E h w u v hu' hv' hg => ?_⟩
   obtain ⟨a, c, rfl⟩ := den hu' (h2.1 hg)
   simp only [Den] at hv'
   subst hv'
   exact ⟨_, jbO x y rfl rfl (jba hu w _ _ _), by simp only [Den]; rfl⟩
  ·exact H.elim
 ·rename_i ds es
  split at H
  ·obtain ⟨y', h1, h2⟩ := jak H
   have hty := htb _ _ h1
   split at h2 <;> first | exact h2.elim | skip
   ·rename_i fs hk
    obtain ⟨b, hK, key⟩ := jfr htb h1 hk h2
    refine ⟨_, hK, fun E h w u v hu' hv' _ => ?_⟩
    obtain ⟨hq, a, c, rfl, rfl, hg⟩ := key E h w u v hu' hv'
    refine ⟨.bool b, ?_, by simp only [Den]⟩
    simp only [Sem.run_bind, hg, Result.andThen_ok, binOp, hq, Sem.run_pure]
   ·rename_i n e hk
    obtain ⟨b, hK, key⟩ := jeA htb h1 hk h2
    refine ⟨_, hK, fun E h w u v hu' hv' _ => ?_⟩
    obtain ⟨hq, a, c, rfl, rfl, hg⟩ := key E h w u v hu' hv'
    refine ⟨.bool b, ?_, by simp only [Den]⟩
    simp only [Sem.run_bind, hg, Result.andThen_ok, binOp, hq, Sem.run_pure]
  ·obtain ⟨y', h1, h2⟩ := jak H
   have hty := htb _ _ h1
   split at h2 <;> first | exact h2.elim | skip
   ·rename_i fs hk
    obtain ⟨b, hK, key⟩ := jfr htb h1 hk h2
    refine ⟨_, hK, fun E h w u v hu' hv' _ => ?_⟩
    obtain ⟨hq, a, c, rfl, rfl, hg⟩ := key E h w u v hu' hv'
    refine ⟨.bool (!b), ?_, by simp only [Den]⟩
    simp only [Sem.run_bind, hg, Result.andThen_ok, binOp, hq, Sem.run_pure]
   ·rename_i n e hk
    obtain ⟨b, hK, key⟩ := jeA htb h1 hk h2
    refine ⟨_, hK, fun E h w u v hu' hv' _ => ?_⟩
    obtain ⟨hq, a, c, rfl, rfl, hg⟩ := key E h w u v hu' hv'
    refine ⟨.bool (!b), ?_, by simp only [Den]⟩
    simp only [Sem.run_bind, hg, Result.andThen_ok, binOp, hq, Sem.run_pure]
  ·exact H.elim
 ·exact H.elim
end Go.V
end
