/- What some functions of the program answer at values that mean given lists and numbers, each proved of the program's own code. Conditions: those that each theorem names. -/
import Derived.Test.YtfhmfpneiagakaaT6
import Derived.Test.YtfhmfpneiagakaaP2
set_option linter.unusedSimpArgs false
set_option linter.unusedVariables false
set_option maxHeartbeats 8000000
set_option maxRecDepth 100000
namespace Go.Proofs.Ytfhmfpneiagakaa
open Go Go.V Go.Gr
def nz (ns : List Nat) : List Int := ns.map fun n : Nat => (n : Int)
theorem prod_nz (ns : List Nat) : prod (nz ns) = (PR ns : Nat) := by
  have h : ∀ (l : List Nat) (q : Int), (nz l).foldl (· * ·) q = q * (PR l : Nat) := by
    intro l
    induction l with
    | nil => intro q; simp [nz, PR]
    | cons x l ih =>
      intro q
      have := ih (q * x)
      simp only [nz, List.map_cons, List.foldl_cons, PR] at this ⊢
      rw [this, Int.natCast_mul, Int.mul_assoc]
  have := h ns 1
  simpa [prod] using this
theorem PR_app (l r : List Nat) : PR (l ++ r) = PR l * PR r := by
  induction l with
  | nil => simp [PR]
  | cons x l ih => simp [PR, ih, Nat.mul_assoc]
theorem PR_set {l : List Nat} {a : Nat} {x y : Nat} (h : l[a]? = some x) : PR (l.set a y) * x = PR l * y := by
  induction l generalizing a with
  | nil => simp at h
  | cons z l ih =>
    cases a with
    | zero => simp at h; subst h; simp only [List.set_cons_zero, PR]; rw [Nat.mul_assoc, Nat.mul_comm, Nat.mul_comm z, Nat.mul_comm (PR l)]
    | succ a =>
      have := ih (a := a) (by simpa using h)
      simp only [List.set_cons_succ, PR]
      rw [Nat.mul_assoc, this, Nat.mul_assoc]
theorem PR_swn {l : List Nat} {a b : Nat} (ha : a < l.length) (hb : b < l.length) : PR (swn l a b) = PR l := by
  by_cases e : a = b
  · subst e
    congr 1
    refine List.ext_getElem? fun k => ?_
    rw [swn_get ha hb]
    split
    · rename_i e; rw [e]
    · rfl
  obtain ⟨x, hx⟩ : ∃ x, l[a]? = some x := ⟨_, List.getElem?_eq_getElem ha⟩
  obtain ⟨y, hy⟩ : ∃ y, l[b]? = some y := ⟨_, List.getElem?_eq_getElem hb⟩
  unfold swn
  rw [List.getD_eq_getElem?_getD, List.getD_eq_getElem?_getD, hx, hy]
  simp only [Option.getD_some]
  have h1 := PR_set (y := y) hx
  have h2 := PR_set (l := l.set a y) (a := b) (x := y) (y := x) (by rw [List.getElem?_set]; simp [e, hy])
  rcases Nat.eq_zero_or_pos x with hx0 | hx0
  · subst hx0
    have e1 : PR l = 0 := by
      have := PR_set (y := 1) hx
      simpa using this.symm
    have e2 : PR ((l.set a y).set b 0) = 0 := by
      have : ((l.set a y).set b 0)[b]? = some 0 := by simp [List.getElem?_set, hb]
      have := PR_set (y := 1) this
      simpa using this.symm
    rw [e1, e2]
  · rcases Nat.eq_zero_or_pos y with hy0 | hy0
    · subst hy0
      have e1 : PR l = 0 := by
        have := PR_set (y := 1) hy
        simpa using this.symm
      have e2 : PR ((l.set a 0).set b x) = 0 := by
        have : ((l.set a 0).set b x)[a]? = some 0 := by
          rw [List.getElem?_set, if_neg (fun h => e h.symm), List.getElem?_set]; simp [ha]
        have := PR_set (y := 1) this
        simpa using this.symm
      rw [e1, e2]
    · have h3 : PR ((l.set a y).set b x) * (y * x) = PR l * (y * x) := by
        rw [← Nat.mul_assoc, h2, Nat.mul_assoc, Nat.mul_comm x x, ← Nat.mul_assoc, h1, Nat.mul_assoc]
      exact Nat.eq_of_mul_eq_mul_right (Nat.mul_pos hy0 hx0) h3
def rl (lt : Int → Int → Bool) (data : List Int) (w : Nat) : Nat → List Int
  | 0 => slot data 0 w
  | i + 1 => (rl lt data w i).set (i % w) (if lt (data.getD i 0) ((rl lt data w i).getD (i % w) 0) then data.getD i 0 else (rl lt data w i).getD (i % w) 0)
theorem rl_length {lt : Int → Int → Bool} {data : List Int} {w : Nat} (h : w ≤ data.length) (i : Nat) : (rl lt data w i).length = w := by
  induction i with
  | zero => simp [rl, slot]; omega
  | succ i ih => simp [rl, ih]
end Go.Proofs.Ytfhmfpneiagakaa
