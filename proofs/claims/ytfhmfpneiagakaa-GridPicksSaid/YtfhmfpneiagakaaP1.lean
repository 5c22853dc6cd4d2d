/- What some functions of the program answer at values that mean given lists and numbers, each proved of the program's own code. Conditions: those that each theorem names. -/
import Derived.Test.YtfhmfpneiagakaaV9
namespace Go.Gr
def PR : List Nat → Nat
  | [] => 1
  | n :: r => n * PR r
def ixl : List Nat → Nat → List Int
  | [], _ => []
  | n :: r, m => ((m / PR r % n : Nat) : Int) :: ixl r m
theorem PR_pos {ns : List Nat} (h : ∀ n ∈ ns, 0 < n) : 0 < PR ns := by
  induction ns with
  | nil => decide
  | cons n r ih => exact Nat.mul_pos (h n (by simp)) (ih fun x hx => h x (by simp [hx]))
theorem ixl_length (ns : List Nat) (m : Nat) : (ixl ns m).length = ns.length := by
  induction ns with
  | nil => rfl
  | cons n r ih => simp [ixl, ih]
theorem ixl_get (ns : List Nat) (m i n : Nat) (h : ns[i]? = some n) : (ixl ns m)[i]? = some ((m / PR (ns.drop (i + 1)) % n : Nat) : Int) := by
  induction ns generalizing i with
  | nil => simp at h
  | cons a r ih =>
    cases i with
    | zero => simp at h; subst h; simp [ixl]
    | succ i => simpa [ixl] using ih i (by simpa using h)
/-- the indices depend on the number below the product alone -/
theorem ixl_mod (ns : List Nat) (hp : ∀ n ∈ ns, 0 < n) (m : Nat) : ixl ns (m % PR ns) = ixl ns m := by
  induction ns generalizing m with
  | nil => rfl
  | cons n r ih =>
    have hr : ∀ x ∈ r, 0 < x := fun x hx => hp x (by simp [hx])
    have h1 := PR_pos hr
    simp only [ixl, PR]
    have e1 : m % (n * PR r) / PR r % n = m / PR r % n := by
      rw [Nat.mul_comm, Nat.mod_mul_right_div_self, Nat.mod_mod]
    have e2 : ixl r (m % (n * PR r)) = ixl r m := by
      rw [← ih hr (m % (n * PR r)), Nat.mod_mul_left_mod, ih hr]
    rw [e1, e2]
theorem last_mod (ns : List Nat) (hp : ∀ n ∈ ns, 0 < n) (m : Nat) (h : m % PR ns = PR ns - 1) : ixl ns m = ns.map fun n : Nat => (n : Int) - 1 := by
  induction ns generalizing m with
  | nil => rfl
  | cons n r ih =>
    have hr : ∀ x ∈ r, 0 < x := fun x hx => hp x (by simp [hx])
    have hn : 0 < n := hp n (by simp)
    have h1 := PR_pos hr
    simp only [PR] at h
    rw [Nat.mul_comm, Nat.mod_mul] at h
    have h2 := Nat.mod_lt m h1
    have h3 := Nat.mod_lt (m / PR r) hn
    have h4 : PR r * (m / PR r % n) + m % PR r = PR r * (n - 1) + (PR r - 1) := by
      have : PR r * n = PR r * (n - 1) + PR r := by
        obtain ⟨k, rfl⟩ : ∃ k, n = k + 1 := ⟨n - 1, by omega⟩
        simp [Nat.mul_add]
      omega
    have h5 : m / PR r % n = n - 1 := by
      have e := congrArg (· / PR r) h4
      simp only [Nat.mul_add_div h1] at e
      rw [Nat.div_eq_of_lt h2, Nat.div_eq_of_lt (by omega : PR r - 1 < PR r)] at e
      omega
    have h6 : m % PR r = PR r - 1 := by rw [h5] at h4; omega
    simp only [ixl, List.map_cons, h5, ih hr m h6]
    congr 1
    omega
theorem mod_last (ns : List Nat) (hp : ∀ n ∈ ns, 0 < n) (m : Nat) (h : ixl ns m = ns.map fun n : Nat => (n : Int) - 1) : m % PR ns = PR ns - 1 := by
  induction ns generalizing m with
  | nil => simp [PR, Nat.mod_one]
  | cons n r ih =>
    have hr : ∀ x ∈ r, 0 < x := fun x hx => hp x (by simp [hx])
    have hn : 0 < n := hp n (by simp)
    have h1 := PR_pos hr
    simp only [ixl, List.map_cons, List.cons.injEq] at h
    have h2 := ih hr m h.2
    have h3 : m / PR r % n = n - 1 := by omega
    simp only [PR]
    rw [Nat.mul_comm, Nat.mod_mul, h2, h3]
    obtain ⟨k, rfl⟩ : ∃ k, n = k + 1 := ⟨n - 1, by omega⟩
    simp [Nat.mul_add]; omega
theorem ixl_zero_mod (ns : List Nat) (hp : ∀ n ∈ ns, 0 < n) (m : Nat) (h : m % PR ns = 0) : ixl ns m = List.replicate ns.length 0 := by
  rw [← ixl_mod ns hp m, h]
  clear h
  induction ns with
  | nil => rfl
  | cons n r ih => simp only [ixl, Nat.zero_div, Nat.zero_mod, List.length_cons, List.replicate_succ, ih fun x hx => hp x (by simp [hx])]; rfl
theorem succ_div {m P : Nat} (hP : 0 < P) (h : m % P ≠ P - 1) : (m + 1) / P = m / P := by
  have h2 := Nat.mod_lt m hP
  have h3 := Nat.div_add_mod m P
  have : m + 1 = P * (m / P) + (m % P + 1) := by omega
  rw [this, Nat.mul_add_div hP, Nat.div_eq_of_lt (by omega : m % P + 1 < P)]
  omega
theorem succ_div_last {m P : Nat} (hP : 0 < P) (h : m % P = P - 1) : (m + 1) / P = m / P + 1 ∧ (m + 1) % P = 0 := by
  have h3 := Nat.div_add_mod m P
  have : m + 1 = P * (m / P + 1) := by rw [Nat.mul_add]; omega
  rw [this, Nat.mul_div_cancel_left _ hP, Nat.mul_mod_right]
  exact ⟨rfl, rfl⟩
theorem mod_succ {a n : Nat} (hn : 0 < n) (h : a % n ≠ n - 1) : (a + 1) % n = a % n + 1 := by
  have h2 := Nat.mod_lt a hn
  have h3 := Nat.div_add_mod a n
  have : a + 1 = n * (a / n) + (a % n + 1) := by omega
  rw [this, Nat.mul_add_mod, Nat.mod_eq_of_lt (by omega : a % n + 1 < n)]
/-- the next index, where the places behind j are at their ends and place j is not -/
theorem ixl_succ (ns : List Nat) (hp : ∀ n ∈ ns, 0 < n) (m j n : Nat) (hj : ns[j]? = some n) (x : Int) (hx : (ixl ns m)[j]? = some x)
    (h1 : (ixl ns m).drop (j + 1) = (ns.drop (j + 1)).map fun n : Nat => (n : Int) - 1) (h2 : x ≠ (n : Int) - 1) : ixl ns (m + 1) = (ixl ns m).take j ++ (x + 1) :: List.replicate (ns.length - (j + 1)) 0 := by
  induction ns generalizing j with
  | nil => simp at hj
  | cons a r ih =>
    have hr : ∀ y ∈ r, 0 < y := fun y hy => hp y (by simp [hy])
    have ha : 0 < a := hp a (by simp)
    have hP := PR_pos hr
    cases j with
    | zero =>
      simp at hj hx
      subst hj
      simp [ixl] at h1 hx
      have h3 := mod_last r hr m h1
      have h4 := succ_div_last hP h3
      have h5 := ixl_zero_mod r hr _ h4.2
      simp only [ixl, h4.1, h5]
      have h6 : m / PR r % a ≠ a - 1 := fun e => by
        apply h2
        rw [← hx, ← Int.natCast_ediv, ← Int.natCast_emod, e]
        omega
      rw [mod_succ ha h6]
      subst hx
      simp
    | succ j =>
      have hj' : r[j]? = some n := by simpa using hj
      have hx' : (ixl r m)[j]? = some x := by simpa [ixl] using hx
      have h1' : (ixl r m).drop (j + 1) = (r.drop (j + 1)).map fun n : Nat => (n : Int) - 1 := by simpa [ixl] using h1
      have h3 : m % PR r ≠ PR r - 1 := fun e => by
        have := last_mod r hr m e
        rw [this] at hx'
        simp [hj'] at hx'
        omega
      have h4 := ih hr j hj' hx' h1'
      simp only [ixl, succ_div hP h3, h4, List.take_succ_cons, List.cons_append, List.length_cons]
      congr 2
      simp
theorem pz_ixl_aux (ns : List Nat) (hp : ∀ n ∈ ns, 0 < n) (m : Nat) (p : Int) : ((ns.map fun n : Nat => (n : Int)).zip (ixl ns m)).foldl (fun p a => p * a.1 + a.2) p = p * (PR ns : Int) + ((m % PR ns : Nat) : Int) := by
  induction ns generalizing p with
  | nil => simp [ixl, PR, Nat.mod_one]
  | cons n r ih =>
    have hr : ∀ x ∈ r, 0 < x := fun x hx => hp x (by simp [hx])
    simp only [ixl, List.map_cons, List.zip_cons_cons, List.foldl_cons, PR]
    rw [ih hr, Nat.mul_comm n, Nat.mod_mul]
    simp only [Int.natCast_add, Int.natCast_mul, Int.add_mul, Int.mul_assoc]
    rw [Int.mul_comm (PR r : Int) (n : Int), Int.mul_comm (PR r : Int) _]
    omega
end Go.Gr
