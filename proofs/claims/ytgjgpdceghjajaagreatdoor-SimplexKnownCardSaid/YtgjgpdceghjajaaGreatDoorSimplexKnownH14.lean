/- Laws of a small interpreter over plain values, each proved against the model of the language: part 14. No condition. -/
import Derived.Test.YtgjgpdceghjajaaGreatDoorSimplexKnownH13
import Derived.Test.YtgjgpdceghjajaaGreatDoorSimplexKnownH9
import Derived.Carry
import Derived.OpenShut
import Derived.SizedLaws
import Derived.ChangeSlices
set_option linter.unusedSimpArgs false
set_option linter.unusedVariables false
set_option maxHeartbeats 8000000
set_option maxRecDepth 100000
section
namespace Go.V
open Go Go.RowKit
theorem cnd_to {P : Program} {tb : Tb} {inl : Inl} {N off : Nat} {a b : Code} {yl : Yl} {x : Bool} {L : Sl} {H : Hp} {K : K3} (L1 : Sl) (H1 : Hp)
  (h : CondB x (RunC P tb inl N a yl off L H (jn off L1 H1 K)) (RunC P tb inl N b yl off L H (jn off L1 H1 K))) (k : K .normal L1 H1) :
  Cnd off x (RunC P tb inl N a yl off L H) (RunC P tb inl N b yl off L H) K := .join _ _ h k
theorem a2 {A B : Prop} (a : A) (b : B) : A ∧ B := ⟨a, b⟩
theorem a3 {A B C : Prop} (a : A) (b : B) (c : C) : A ∧ B ∧ C := ⟨a, b, c⟩
theorem a4 {A B C D : Prop} (a : A) (b : B) (c : C) (d : D) : A ∧ B ∧ C ∧ D := ⟨a, b, c, d⟩
theorem a5 {A B C D E : Prop} (a : A) (b : B) (c : C) (d : D) (e : E) : A ∧ B ∧ C ∧ D ∧ E := ⟨a, b, c, d, e⟩
theorem a6 {A B C D E F : Prop} (a : A) (b : B) (c : C) (d : D) (e : E) (f : F) : A ∧ B ∧ C ∧ D ∧ E ∧ F := ⟨a, b, c, d, e, f⟩
theorem a7 {A B C D E F G : Prop} (a : A) (b : B) (c : C) (d : D) (e : E) (f : F) (g : G) : A ∧ B ∧ C ∧ D ∧ E ∧ F ∧ G := ⟨a, b, c, d, e, f, g⟩
theorem a8 {A B C D E F G I : Prop} (a : A) (b : B) (c : C) (d : D) (e : E) (f : F) (g : G) (i : I) : A ∧ B ∧ C ∧ D ∧ E ∧ F ∧ G ∧ I := ⟨a, b, c, d, e, f, g, i⟩
theorem r0 {A B Z : Prop} (z : Z)  (k : B) (h : Hold B → Z → A := by
  first
  | (intro k z
     (conv => whnf)
     (try simp only [z])
     repeat ((first | refine V.s1 ?_); (try simp only [z]))
     exact k.out)
  | fail) : A := h ⟨k⟩ z
theorem d0 {A Z : Prop} (z : Z)  (h : Z → A := by
  first
  | (intro z
     (conv => whnf); (try simp only [z])
     repeat' (first | exact V.wk | exact True.intro | ((with_reducible refine And.intro ?_ jaB); (conv => whnf); (try simp only [z])) | ((with_reducible first | refine jav ?_ ?_ | refine jaz ?_ ?_) <;> (conv => whnf); (try simp only [z])) | ((first | refine V.s1 ?_ | ((with_reducible refine jao ?_ ?_); (focus ((conv => whnf); (try simp only [z]); (repeat ((first | refine V.s1 ?_); (try simp only [z]))); exact ⟨rfl⟩)); (conv => whnf))); (try simp only [z])) | (refine And.intro ?_ ?_ <;> (conv => whnf); (try simp only [z]))))
  | fail) : A := h z
theorem r1 {A B Z C1 : Prop} (z : Z) (c1 : C1) (k : B) (h : Hold B → Z → C1 → A := by
  first
  | (intro k z c1
     (conv => whnf)
     (try simp only [z])
     repeat ((first | refine V.s1 ?_ | ((try ((with_reducible refine .ext ?_); (conv => whnf); (try simp only [z]))); (with_reducible refine jab (r := ?_) ?_ ?_); rotate_left; (focus (first | exact c1 | (apply c1; done))); (conv => whnf))); (try simp only [z]))
     exact k.out)
  | fail) : A := h ⟨k⟩ z c1
theorem d1 {A Z C1 : Prop} (z : Z) (c1 : C1) (h : Z → C1 → A := by
  first
  | (intro z c1
     (conv => whnf); (try simp only [z])
     repeat' (first | exact V.wk | exact True.intro | ((with_reducible refine And.intro ?_ jaB); (conv => whnf); (try simp only [z])) | ((with_reducible first | refine jav ?_ ?_ | refine jaz ?_ ?_) <;> (conv => whnf); (try simp only [z])) | ((first | refine V.s1 ?_ | ((with_reducible refine jao ?_ ?_); (focus ((conv => whnf); (try simp only [z]); (repeat ((first | refine V.s1 ?_); (try simp only [z]))); exact ⟨rfl⟩)); (conv => whnf)) | ((try ((with_reducible refine .ext ?_); (conv => whnf); (try simp only [z]))); (with_reducible refine jab (r := ?_) ?_ ?_); rotate_left; (focus (first | exact c1 | (apply c1; done))); (conv => whnf))); (try simp only [z])) | (refine And.intro ?_ ?_ <;> (conv => whnf); (try simp only [z]))))
  | fail) : A := h z c1
theorem q1 {A B C1 : Prop} (c1 : C1) (k : B) (h : Hold B → C1 → A := by
  first
  | (intro k c1
     repeat ((try ((with_reducible refine .ext ?_); (conv => whnf))); (with_reducible refine jab (r := ?_) ?_ ?_); rotate_left; (focus (first | exact c1 | (apply c1; done))); (conv => whnf); refine V.st ?_)
     exact k.out)
  | fail) : A := h ⟨k⟩ c1
theorem r2 {A B Z C1 C2 : Prop} (z : Z) (c1 : C1) (c2 : C2) (k : B) (h : Hold B → Z → C1 → C2 → A := by
  first
  | (intro k z c1 c2
     (conv => whnf)
     (try simp only [z])
     repeat ((first | refine V.s1 ?_ | ((try ((with_reducible refine .ext ?_); (conv => whnf); (try simp only [z]))); (with_reducible refine jab (r := ?_) ?_ ?_); rotate_left; (focus (first | exact c1 | (apply c1; done) | exact c2 | (apply c2; done))); (conv => whnf))); (try simp only [z]))
     exact k.out)
  | fail) : A := h ⟨k⟩ z c1 c2
theorem d2 {A Z C1 C2 : Prop} (z : Z) (c1 : C1) (c2 : C2) (h : Z → C1 → C2 → A := by
  first
  | (intro z c1 c2
     (conv => whnf); (try simp only [z])
     repeat' (first | exact V.wk | exact True.intro | ((with_reducible refine And.intro ?_ jaB); (conv => whnf); (try simp only [z])) | ((with_reducible first | refine jav ?_ ?_ | refine jaz ?_ ?_) <;> (conv => whnf); (try simp only [z])) | ((first | refine V.s1 ?_ | ((with_reducible refine jao ?_ ?_); (focus ((conv => whnf); (try simp only [z]); (repeat ((first | refine V.s1 ?_); (try simp only [z]))); exact ⟨rfl⟩)); (conv => whnf)) | ((try ((with_reducible refine .ext ?_); (conv => whnf); (try simp only [z]))); (with_reducible refine jab (r := ?_) ?_ ?_); rotate_left; (focus (first | exact c1 | (apply c1; done) | exact c2 | (apply c2; done))); (conv => whnf))); (try simp only [z])) | (refine And.intro ?_ ?_ <;> (conv => whnf); (try simp only [z]))))
  | fail) : A := h z c1 c2
theorem q2 {A B C1 C2 : Prop} (c1 : C1) (c2 : C2) (k : B) (h : Hold B → C1 → C2 → A := by
  first
  | (intro k c1 c2
     repeat ((try ((with_reducible refine .ext ?_); (conv => whnf))); (with_reducible refine jab (r := ?_) ?_ ?_); rotate_left; (focus (first | exact c1 | (apply c1; done) | exact c2 | (apply c2; done))); (conv => whnf); refine V.st ?_)
     exact k.out)
  | fail) : A := h ⟨k⟩ c1 c2
theorem r3 {A B Z C1 C2 C3 : Prop} (z : Z) (c1 : C1) (c2 : C2) (c3 : C3) (k : B) (h : Hold B → Z → C1 → C2 → C3 → A := by
  first
  | (intro k z c1 c2 c3
     (conv => whnf)
     (try simp only [z])
     repeat ((first | refine V.s1 ?_ | ((try ((with_reducible refine .ext ?_); (conv => whnf); (try simp only [z]))); (with_reducible refine jab (r := ?_) ?_ ?_); rotate_left; (focus (first | exact c1 | (apply c1; done) | exact c2 | (apply c2; done) | exact c3 | (apply c3; done))); (conv => whnf))); (try simp only [z]))
     exact k.out)
  | fail) : A := h ⟨k⟩ z c1 c2 c3
theorem d3 {A Z C1 C2 C3 : Prop} (z : Z) (c1 : C1) (c2 : C2) (c3 : C3) (h : Z → C1 → C2 → C3 → A := by
  first
  | (intro z c1 c2 c3
     (conv => whnf); (try simp only [z])
     repeat' (first | exact V.wk | exact True.intro | ((with_reducible refine And.intro ?_ jaB); (conv => whnf); (try simp only [z])) | ((with_reducible first | refine jav ?_ ?_ | refine jaz ?_ ?_) <;> (conv => whnf); (try simp only [z])) | ((first | refine V.s1 ?_ | ((with_reducible refine jao ?_ ?_); (focus ((conv => whnf); (try simp only [z]); (repeat ((first | refine V.s1 ?_); (try simp only [z]))); exact ⟨rfl⟩)); (conv => whnf)) | ((try ((with_reducible refine .ext ?_); (conv => whnf); (try simp only [z]))); (with_reducible refine jab (r := ?_) ?_ ?_); rotate_left; (focus (first | exact c1 | (apply c1; done) | exact c2 | (apply c2; done) | exact c3 | (apply c3; done))); (conv => whnf))); (try simp only [z])) | (refine And.intro ?_ ?_ <;> (conv => whnf); (try simp only [z]))))
  | fail) : A := h z c1 c2 c3
theorem q3 {A B C1 C2 C3 : Prop} (c1 : C1) (c2 : C2) (c3 : C3) (k : B) (h : Hold B → C1 → C2 → C3 → A := by
  first
  | (intro k c1 c2 c3
     repeat ((try ((with_reducible refine .ext ?_); (conv => whnf))); (with_reducible refine jab (r := ?_) ?_ ?_); rotate_left; (focus (first | exact c1 | (apply c1; done) | exact c2 | (apply c2; done) | exact c3 | (apply c3; done))); (conv => whnf); refine V.st ?_)
     exact k.out)
  | fail) : A := h ⟨k⟩ c1 c2 c3
theorem r4 {A B Z C1 C2 C3 C4 : Prop} (z : Z) (c1 : C1) (c2 : C2) (c3 : C3) (c4 : C4) (k : B) (h : Hold B → Z → C1 → C2 → C3 → C4 → A := by
  first
  | (intro k z c1 c2 c3 c4
     (conv => whnf)
     (try simp only [z])
     repeat ((first | refine V.s1 ?_ | ((try ((with_reducible refine .ext ?_); (conv => whnf); (try simp only [z]))); (with_reducible refine jab (r := ?_) ?_ ?_); rotate_left; (focus (first | exact c1 | (apply c1; done) | exact c2 | (apply c2; done) | exact c3 | (apply c3; done) | exact c4 | (apply c4; done))); (conv => whnf))); (try simp only [z]))
     exact k.out)
  | fail) : A := h ⟨k⟩ z c1 c2 c3 c4
theorem d4 {A Z C1 C2 C3 C4 : Prop} (z : Z) (c1 : C1) (c2 : C2) (c3 : C3) (c4 : C4) (h : Z → C1 → C2 → C3 → C4 → A := by
  first
  | (intro z c1 c2 c3 c4
     (conv => whnf); (try simp only [z])
     repeat' (first | exact V.wk | exact True.intro | ((with_reducible refine And.intro ?_ jaB); (conv => whnf); (try simp only [z])) | ((with_reducible first | refine jav ?_ ?_ | refine jaz ?_ ?_) <;> (conv => whnf); (try simp only [z])) | ((first | refine V.s1 ?_ | ((with_reducible refine jao ?_ ?_); (focus ((conv => whnf); (try simp only [z]); (repeat ((first | refine V.s1 ?_); (try simp only [z]))); exact ⟨rfl⟩)); (conv => whnf)) | ((try ((with_reducible refine .ext ?_); (conv => whnf); (try simp only [z]))); (with_reducible refine jab (r := ?_) ?_ ?_); rotate_left; (focus (first | exact c1 | (apply c1; done) | exact c2 | (apply c2; done) | exact c3 | (apply c3; done) | exact c4 | (apply c4; done))); (conv => whnf))); (try simp only [z])) | (refine And.intro ?_ ?_ <;> (conv => whnf); (try simp only [z]))))
  | fail) : A := h z c1 c2 c3 c4
theorem r5 {A B Z C1 C2 C3 C4 C5 : Prop} (z : Z) (c1 : C1) (c2 : C2) (c3 : C3) (c4 : C4) (c5 : C5) (k : B) (h : Hold B → Z → C1 → C2 → C3 → C4 → C5 → A := by
  first
  | (intro k z c1 c2 c3 c4 c5
     (conv => whnf)
     (try simp only [z])
     repeat ((first | refine V.s1 ?_ | ((try ((with_reducible refine .ext ?_); (conv => whnf); (try simp only [z]))); (with_reducible refine jab (r := ?_) ?_ ?_); rotate_left; (focus (first | exact c1 | (apply c1; done) | exact c2 | (apply c2; done) | exact c3 | (apply c3; done) | exact c4 | (apply c4; done) | exact c5 | (apply c5; done))); (conv => whnf))); (try simp only [z]))
     exact k.out)
  | fail) : A := h ⟨k⟩ z c1 c2 c3 c4 c5
theorem d5 {A Z C1 C2 C3 C4 C5 : Prop} (z : Z) (c1 : C1) (c2 : C2) (c3 : C3) (c4 : C4) (c5 : C5) (h : Z → C1 → C2 → C3 → C4 → C5 → A := by
  first
  | (intro z c1 c2 c3 c4 c5
     (conv => whnf); (try simp only [z])
     repeat' (first | exact V.wk | exact True.intro | ((with_reducible refine And.intro ?_ jaB); (conv => whnf); (try simp only [z])) | ((with_reducible first | refine jav ?_ ?_ | refine jaz ?_ ?_) <;> (conv => whnf); (try simp only [z])) | ((first | refine V.s1 ?_ | ((with_reducible refine jao ?_ ?_); (focus ((conv => whnf); (try simp only [z]); (repeat ((first | refine V.s1 ?_); (try simp only [z]))); exact ⟨rfl⟩)); (conv => whnf)) | ((try ((with_reducible refine .ext ?_); (conv => whnf); (try simp only [z]))); (with_reducible refine jab (r := ?_) ?_ ?_); rotate_left; (focus (first | exact c1 | (apply c1; done) | exact c2 | (apply c2; done) | exact c3 | (apply c3; done) | exact c4 | (apply c4; done) | exact c5 | (apply c5; done))); (conv => whnf))); (try simp only [z])) | (refine And.intro ?_ ?_ <;> (conv => whnf); (try simp only [z]))))
  | fail) : A := h z c1 c2 c3 c4 c5
theorem r6 {A B Z C1 C2 C3 C4 C5 C6 : Prop} (z : Z) (c1 : C1) (c2 : C2) (c3 : C3) (c4 : C4) (c5 : C5) (c6 : C6) (k : B) (h : Hold B → Z → C1 → C2 → C3 → C4 → C5 → C6 → A := by
  first
  | (intro k z c1 c2 c3 c4 c5 c6
     (conv => whnf)
     (try simp only [z])
     repeat ((first | refine V.s1 ?_ | ((try ((with_reducible refine .ext ?_); (conv => whnf); (try simp only [z]))); (with_reducible refine jab (r := ?_) ?_ ?_); rotate_left; (focus (first | exact c1 | (apply c1; done) | exact c2 | (apply c2; done) | exact c3 | (apply c3; done) | exact c4 | (apply c4; done) | exact c5 | (apply c5; done) | exact c6 | (apply c6; done))); (conv => whnf))); (try simp only [z]))
     exact k.out)
  | fail) : A := h ⟨k⟩ z c1 c2 c3 c4 c5 c6
theorem d6 {A Z C1 C2 C3 C4 C5 C6 : Prop} (z : Z) (c1 : C1) (c2 : C2) (c3 : C3) (c4 : C4) (c5 : C5) (c6 : C6) (h : Z → C1 → C2 → C3 → C4 → C5 → C6 → A := by
  first
  | (intro z c1 c2 c3 c4 c5 c6
     (conv => whnf); (try simp only [z])
     repeat' (first | exact V.wk | exact True.intro | ((with_reducible refine And.intro ?_ jaB); (conv => whnf); (try simp only [z])) | ((with_reducible first | refine jav ?_ ?_ | refine jaz ?_ ?_) <;> (conv => whnf); (try simp only [z])) | ((first | refine V.s1 ?_ | ((with_reducible refine jao ?_ ?_); (focus ((conv => whnf); (try simp only [z]); (repeat ((first | refine V.s1 ?_); (try simp only [z]))); exact ⟨rfl⟩)); (conv => whnf)) | ((try ((with_reducible refine .ext ?_); (conv => whnf); (try simp only [z]))); (with_reducible refine jab (r := ?_) ?_ ?_); rotate_left; (focus (first | exact c1 | (apply c1; done) | exact c2 | (apply c2; done) | exact c3 | (apply c3; done) | exact c4 | (apply c4; done) | exact c5 | (apply c5; done) | exact c6 | (apply c6; done))); (conv => whnf))); (try simp only [z])) | (refine And.intro ?_ ?_ <;> (conv => whnf); (try simp only [z]))))
  | fail) : A := h z c1 c2 c3 c4 c5 c6
theorem r7 {A B Z C1 C2 C3 C4 C5 C6 C7 : Prop} (z : Z) (c1 : C1) (c2 : C2) (c3 : C3) (c4 : C4) (c5 : C5) (c6 : C6) (c7 : C7) (k : B) (h : Hold B → Z → C1 → C2 → C3 → C4 → C5 → C6 → C7 → A := by
  first
  | (intro k z c1 c2 c3 c4 c5 c6 c7
     (conv => whnf)
     (try simp only [z])
     repeat ((first | refine V.s1 ?_ | ((try ((with_reducible refine .ext ?_); (conv => whnf); (try simp only [z]))); (with_reducible refine jab (r := ?_) ?_ ?_); rotate_left; (focus (first | exact c1 | (apply c1; done) | exact c2 | (apply c2; done) | exact c3 | (apply c3; done) | exact c4 | (apply c4; done) | exact c5 | (apply c5; done) | exact c6 | (apply c6; done) | exact c7 | (apply c7; done))); (conv => whnf))); (try simp only [z]))
     exact k.out)
  | fail) : A := h ⟨k⟩ z c1 c2 c3 c4 c5 c6 c7
theorem d7 {A Z C1 C2 C3 C4 C5 C6 C7 : Prop} (z : Z) (c1 : C1) (c2 : C2) (c3 : C3) (c4 : C4) (c5 : C5) (c6 : C6) (c7 : C7) (h : Z → C1 → C2 → C3 → C4 → C5 → C6 → C7 → A := by
  first
  | (intro z c1 c2 c3 c4 c5 c6 c7
     (conv => whnf); (try simp only [z])
     repeat' (first | exact V.wk | exact True.intro | ((with_reducible refine And.intro ?_ jaB); (conv => whnf); (try simp only [z])) | ((with_reducible first | refine jav ?_ ?_ | refine jaz ?_ ?_) <;> (conv => whnf); (try simp only [z])) | ((first | refine V.s1 ?_ | ((with_reducible refine jao ?_ ?_); (focus ((conv => whnf); (try simp only [z]); (repeat ((first | refine V.s1 ?_); (try simp only [z]))); exact ⟨rfl⟩)); (conv => whnf)) | ((try ((with_reducible refine .ext ?_); (conv => whnf); (try simp only [z]))); (with_reducible refine jab (r := ?_) ?_ ?_); rotate_left; (focus (first | exact c1 | (apply c1; done) | exact c2 | (apply c2; done) | exact c3 | (apply c3; done) | exact c4 | (apply c4; done) | exact c5 | (apply c5; done) | exact c6 | (apply c6; done) | exact c7 | (apply c7; done))); (conv => whnf))); (try simp only [z])) | (refine And.intro ?_ ?_ <;> (conv => whnf); (try simp only [z]))))
  | fail) : A := h z c1 c2 c3 c4 c5 c6 c7
theorem r8 {A B Z C1 C2 C3 C4 C5 C6 C7 C8 : Prop} (z : Z) (c1 : C1) (c2 : C2) (c3 : C3) (c4 : C4) (c5 : C5) (c6 : C6) (c7 : C7) (c8 : C8) (k : B) (h : Hold B → Z → C1 → C2 → C3 → C4 → C5 → C6 → C7 → C8 → A := by
  first
  | (intro k z c1 c2 c3 c4 c5 c6 c7 c8
     (conv => whnf)
     (try simp only [z])
     repeat ((first | refine V.s1 ?_ | ((try ((with_reducible refine .ext ?_); (conv => whnf); (try simp only [z]))); (with_reducible refine jab (r := ?_) ?_ ?_); rotate_left; (focus (first | exact c1 | (apply c1; done) | exact c2 | (apply c2; done) | exact c3 | (apply c3; done) | exact c4 | (apply c4; done) | exact c5 | (apply c5; done) | exact c6 | (apply c6; done) | exact c7 | (apply c7; done) | exact c8 | (apply c8; done))); (conv => whnf))); (try simp only [z]))
     exact k.out)
  | fail) : A := h ⟨k⟩ z c1 c2 c3 c4 c5 c6 c7 c8
theorem d8 {A Z C1 C2 C3 C4 C5 C6 C7 C8 : Prop} (z : Z) (c1 : C1) (c2 : C2) (c3 : C3) (c4 : C4) (c5 : C5) (c6 : C6) (c7 : C7) (c8 : C8) (h : Z → C1 → C2 → C3 → C4 → C5 → C6 → C7 → C8 → A := by
  first
  | (intro z c1 c2 c3 c4 c5 c6 c7 c8
     (conv => whnf); (try simp only [z])
     repeat' (first | exact V.wk | exact True.intro | ((with_reducible refine And.intro ?_ jaB); (conv => whnf); (try simp only [z])) | ((with_reducible first | refine jav ?_ ?_ | refine jaz ?_ ?_) <;> (conv => whnf); (try simp only [z])) | ((first | refine V.s1 ?_ | ((with_reducible refine jao ?_ ?_); (focus ((conv => whnf); (try simp only [z]); (repeat ((first | refine V.s1 ?_); (try simp only [z]))); exact ⟨rfl⟩)); (conv => whnf)) | ((try ((with_reducible refine .ext ?_); (conv => whnf); (try simp only [z]))); (with_reducible refine jab (r := ?_) ?_ ?_); rotate_left; (focus (first | exact c1 | (apply c1; done) | exact c2 | (apply c2; done) | exact c3 | (apply c3; done) | exact c4 | (apply c4; done) | exact c5 | (apply c5; done) | exact c6 | (apply c6; done) | exact c7 | (apply c7; done) | exact c8 | (apply c8; done))); (conv => whnf))); (try simp only [z])) | (refine And.intro ?_ ?_ <;> (conv => whnf); (try simp only [z]))))
  | fail) : A := h z c1 c2 c3 c4 c5 c6 c7 c8
end Go.V
end
section
open Go Go.RowKit
namespace Go.V
def pubOf (w : World) : Pub := fun b o => w.cell? ⟨b, o, none⟩
theorem jeK (w : World) (hg : GlW w) : Agree (pubOf w) w := ⟨fun _ _ _ e => e, fun g vs h i v hv => by
 obtain ⟨_, T, f, h2⟩ := hg.1 g vs h
 unfold pubOf
 rw [cell_of_row w g i _ T f h2]
 simpa using hv, hg, fun g h => by
 obtain ⟨tp, p, T, f, h2⟩ := hg.2 g h
 exact ⟨.iface tp p, by unfold pubOf; rw [cell_of_row w g 0 _ T f h2]; rfl⟩⟩
theorem Called.walk {P : Program} {f : Nat} {ds : List D} (c : Called P f ds (.bool true)) (w : World) {vs : List Value} (hd : DenL Env.dummy (pubOf w) ds vs) (hg : GlW w := by first | exact ⟨fun _ _ h => absurd h List.not_mem_nil, fun _ h => absurd h List.not_mem_nil⟩ | fail) :
  Calls P f vs.toArray w fun e w' => e = .returned (.bool true) ∧ Below w.heap.size w w' := by
 refine (c.call (pubOf w) w vs (jeK w hg) hd).mono fun e w' ⟨v, h', he, hv, _, _, hb, _⟩ => ?_
 simp only [Den] at hv
 subst hv
 exact ⟨he, hb⟩
end Go.V
end
