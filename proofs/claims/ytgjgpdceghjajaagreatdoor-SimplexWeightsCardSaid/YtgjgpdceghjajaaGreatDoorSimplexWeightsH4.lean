/- Laws of a small interpreter over plain values, part 4. No condition. -/
import Derived.Test.YtgjgpdceghjajaaGreatDoorSimplexWeightsH3
import Derived.Test.YtgjgpdceghjajaaGreatDoorSimplexWeightsH2
import Derived.Carry
import Derived.OpenShut
import Derived.SizedLaws
import Derived.ChangeSlices
set_option linter.unusedSimpArgs false
set_option linter.unusedVariables false
set_option maxHeartbeats 8000000
set_option maxRecDepth 100000
section
namespace Go.V
open Go Go.RowKit
theorem cnd_to {P:Program}{tb:Tb}{inl:Inl}{N off:Nat}{a b:Code}{yl:Yl}{x:Bool}{L:Sl}{H:Hp}{K:K3}(L1:Sl)(H1:Hp)
  (h:CondB x (RunC P tb inl N a yl off L H (jn off L1 H1 K)) (RunC P tb inl N b yl off L H (jn off L1 H1 K))) (k:K .normal L1 H1) :
  Cnd off x (RunC P tb inl N a yl off L H) (RunC P tb inl N b yl off L H) K := .join _ _ h k
abbrev tk (l:List Nat)(p:Plan):Plan:=l.foldr Plan.take p
abbrev e1 (j:Nat)(q:List Nat)(p:Plan):Plan := .ev (.cons j q p .nil)
theorem pok {P:Program}{all:List Oper}{ns:List Nd}{p:Plan}(a:P.follows .mixedOrders=true:=by kernel_rfl)(b:textB all=true:=by kernel_rfl)
  (c:planB all (ancs all) ns (List.range all.length) [] p=true:=by kernel_rfl) (d:ns.all (fun nd => !nd.plan.isGo && planB all (ancs all) ns nd.rem nd.pend nd.plan)=true:=by kernel_rfl):PlanOk P all ns p:=⟨a,b,c,d⟩
theorem br {P:Program}{tb:Tb}{inl:Inl}{N off:Nat}{a b:Code}{yl:Yl}{x:Bool}{L:Sl}{H:Hp}{K:K3}
  (h1:x=true→RunC P tb inl N a yl off L H K) (h2:x=false→RunC P tb inl N b yl off L H K):Cnd off x (RunC P tb inl N a yl off L H) (RunC P tb inl N b yl off L H) K:=Cnd.split (CondB.mk h1 h2)
theorem en {P:Program}{tb:Tb}{f:Nat}{fn:Func}{c:Code}{ds:List D}{r:D}(htb:TbOk P tb)(hf:P.funcs[f]? = some fn)(hh:RunF P tb (inlN P tb 6) (fun _ _ _ _ _=>False) fn c ds 0 [] (outK r))
  (hb:fn.body=some c:=by rfl) (hn:(fn.name == "runtime.NumGoroutine")=false:=by rfl) (hl:ds.length≤fn.ntmps:=by exact jiE rfl):Called P f ds r:=jgh htb 6 ⟨hf,hb,hn,hl⟩ hh
abbrev sl2 (n:Nat)(l:List D):D := .slf 2 n (fun j=>List.take 2 (List.drop (j*2) l))
theorem a2 {A B:Prop}(a:A)(b:B):A∧B:=⟨a,b⟩
theorem a3 {A B C:Prop}(a:A)(b:B)(c:C):A∧B∧C:=⟨a,b,c⟩
theorem a4 {A B C D:Prop}(a:A)(b:B)(c:C)(d:D):A∧B∧C∧D:=⟨a,b,c,d⟩
theorem a5 {A B C D E:Prop}(a:A)(b:B)(c:C)(d:D)(e:E):A∧B∧C∧D∧E:=⟨a,b,c,d,e⟩
theorem a7 {A B C D E F G:Prop}(a:A)(b:B)(c:C)(d:D)(e:E)(f:F)(g:G):A∧B∧C∧D∧E∧F∧G:=⟨a,b,c,d,e,f,g⟩
theorem a8 {A B C D E F G I:Prop}(a:A)(b:B)(c:C)(d:D)(e:E)(f:F)(g:G)(i:I):A∧B∧C∧D∧E∧F∧G∧I:=⟨a,b,c,d,e,f,g,i⟩
theorem r0 {A B Z : Prop} (z : Z)  (k : B) (h : Hold B → Z → A := by
  first
  | (intro k z
     (conv => whnf)
     (try simp only [z])
     repeat ((first | refine V.s1 ?_); (try simp only [z]))
     exact k.out)
  | fail) : A := h ⟨k⟩ z
theorem d0 {A Z : Prop} (z : Z)  (h : Z → A := by
  first
  | (intro z
     (conv => whnf); (try simp only [z])
     repeat' (first | exact V.wk | exact True.intro | ((with_reducible refine And.intro ?_ jay); (conv => whnf); (try simp only [z])) | ((with_reducible first | refine jaq ?_ ?_ | refine jau ?_ ?_) <;> (conv => whnf); (try simp only [z])) | ((first | refine V.s1 ?_ | ((with_reducible refine jak ?_ ?_); (focus ((conv => whnf); (try simp only [z]); (repeat ((first | refine V.s1 ?_); (try simp only [z]))); exact ⟨rfl⟩)); (conv => whnf))); (try simp only [z])) | (refine And.intro ?_ ?_ <;> (conv => whnf); (try simp only [z]))))
  | fail) : A := h z
theorem r1 {A B Z C1 : Prop} (z : Z) (c1 : C1) (k : B) (h : Hold B → Z → C1 → A := by
  first
  | (intro k z c1
     (conv => whnf)
     (try simp only [z])
     repeat ((first | refine V.s1 ?_ | ((try ((with_reducible refine .ext ?_); (conv => whnf); (try simp only [z]))); (with_reducible refine jaa (r := ?_) ?_ ?_); rotate_left; (focus (first | exact c1 | (apply c1; done))); (conv => whnf))); (try simp only [z]))
     exact k.out)
  | fail) : A := h ⟨k⟩ z c1
theorem d1 {A Z C1 : Prop} (z : Z) (c1 : C1) (h : Z → C1 → A := by
  first
  | (intro z c1
     (conv => whnf); (try simp only [z])
     repeat' (first | exact V.wk | exact True.intro | ((with_reducible refine And.intro ?_ jay); (conv => whnf); (try simp only [z])) | ((with_reducible first | refine jaq ?_ ?_ | refine jau ?_ ?_) <;> (conv => whnf); (try simp only [z])) | ((first | refine V.s1 ?_ | ((with_reducible refine jak ?_ ?_); (focus ((conv => whnf); (try simp only [z]); (repeat ((first | refine V.s1 ?_); (try simp only [z]))); exact ⟨rfl⟩)); (conv => whnf)) | ((try ((with_reducible refine .ext ?_); (conv => whnf); (try simp only [z]))); (with_reducible refine jaa (r := ?_) ?_ ?_); rotate_left; (focus (first | exact c1 | (apply c1; done))); (conv => whnf))); (try simp only [z])) | (refine And.intro ?_ ?_ <;> (conv => whnf); (try simp only [z]))))
  | fail) : A := h z c1
theorem q1 {A B C1 : Prop} (c1 : C1) (k : B) (h : Hold B → C1 → A := by
  first
  | (intro k c1
     repeat ((try ((with_reducible refine .ext ?_); (conv => whnf))); (with_reducible refine jaa (r := ?_) ?_ ?_); rotate_left; (focus (first | exact c1 | (apply c1; done))); (conv => whnf); refine V.st ?_)
     exact k.out)
  | fail) : A := h ⟨k⟩ c1
theorem r2 {A B Z C1 C2 : Prop} (z : Z) (c1 : C1) (c2 : C2) (k : B) (h : Hold B → Z → C1 → C2 → A := by
  first
  | (intro k z c1 c2
     (conv => whnf)
     (try simp only [z])
     repeat ((first | refine V.s1 ?_ | ((try ((with_reducible refine .ext ?_); (conv => whnf); (try simp only [z]))); (with_reducible refine jaa (r := ?_) ?_ ?_); rotate_left; (focus (first | exact c1 | (apply c1; done) | exact c2 | (apply c2; done))); (conv => whnf))); (try simp only [z]))
     exact k.out)
  | fail) : A := h ⟨k⟩ z c1 c2
theorem d2 {A Z C1 C2 : Prop} (z : Z) (c1 : C1) (c2 : C2) (h : Z → C1 → C2 → A := by
  first
  | (intro z c1 c2
     (conv => whnf); (try simp only [z])
     repeat' (first | exact V.wk | exact True.intro | ((with_reducible refine And.intro ?_ jay); (conv => whnf); (try simp only [z])) | ((with_reducible first | refine jaq ?_ ?_ | refine jau ?_ ?_) <;> (conv => whnf); (try simp only [z])) | ((first | refine V.s1 ?_ | ((with_reducible refine jak ?_ ?_); (focus ((conv => whnf); (try simp only [z]); (repeat ((first | refine V.s1 ?_); (try simp only [z]))); exact ⟨rfl⟩)); (conv => whnf)) | ((try ((with_reducible refine .ext ?_); (conv => whnf); (try simp only [z]))); (with_reducible refine jaa (r := ?_) ?_ ?_); rotate_left; (focus (first | exact c1 | (apply c1; done) | exact c2 | (apply c2; done))); (conv => whnf))); (try simp only [z])) | (refine And.intro ?_ ?_ <;> (conv => whnf); (try simp only [z]))))
  | fail) : A := h z c1 c2
theorem q2 {A B C1 C2 : Prop} (c1 : C1) (c2 : C2) (k : B) (h : Hold B → C1 → C2 → A := by
  first
  | (intro k c1 c2
     repeat ((try ((with_reducible refine .ext ?_); (conv => whnf))); (with_reducible refine jaa (r := ?_) ?_ ?_); rotate_left; (focus (first | exact c1 | (apply c1; done) | exact c2 | (apply c2; done))); (conv => whnf); refine V.st ?_)
     exact k.out)
  | fail) : A := h ⟨k⟩ c1 c2
theorem r3 {A B Z C1 C2 C3 : Prop} (z : Z) (c1 : C1) (c2 : C2) (c3 : C3) (k : B) (h : Hold B → Z → C1 → C2 → C3 → A := by
  first
  | (intro k z c1 c2 c3
     (conv => whnf)
     (try simp only [z])
     repeat ((first | refine V.s1 ?_ | ((try ((with_reducible refine .ext ?_); (conv => whnf); (try simp only [z]))); (with_reducible refine jaa (r := ?_) ?_ ?_); rotate_left; (focus (first | exact c1 | (apply c1; done) | exact c2 | (apply c2; done) | exact c3 | (apply c3; done))); (conv => whnf))); (try simp only [z]))
     exact k.out)
  | fail) : A := h ⟨k⟩ z c1 c2 c3
theorem d3 {A Z C1 C2 C3 : Prop} (z : Z) (c1 : C1) (c2 : C2) (c3 : C3) (h : Z → C1 → C2 → C3 → A := by
  first
  | (intro z c1 c2 c3
     (conv => whnf); (try simp only [z])
     repeat' (first | exact V.wk | exact True.intro | ((with_reducible refine And.intro ?_ jay); (conv => whnf); (try simp only [z])) | ((with_reducible first | refine jaq ?_ ?_ | refine jau ?_ ?_) <;> (conv => whnf); (try simp only [z])) | ((first | refine V.s1 ?_ | ((with_reducible refine jak ?_ ?_); (focus ((conv => whnf); (try simp only [z]); (repeat ((first | refine V.s1 ?_); (try simp only [z]))); exact ⟨rfl⟩)); (conv => whnf)) | ((try ((with_reducible refine .ext ?_); (conv => whnf); (try simp only [z]))); (with_reducible refine jaa (r := ?_) ?_ ?_); rotate_left; (focus (first | exact c1 | (apply c1; done) | exact c2 | (apply c2; done) | exact c3 | (apply c3; done))); (conv => whnf))); (try simp only [z])) | (refine And.intro ?_ ?_ <;> (conv => whnf); (try simp only [z]))))
  | fail) : A := h z c1 c2 c3
theorem q3 {A B C1 C2 C3 : Prop} (c1 : C1) (c2 : C2) (c3 : C3) (k : B) (h : Hold B → C1 → C2 → C3 → A := by
  first
  | (intro k c1 c2 c3
     repeat ((try ((with_reducible refine .ext ?_); (conv => whnf))); (with_reducible refine jaa (r := ?_) ?_ ?_); rotate_left; (focus (first | exact c1 | (apply c1; done) | exact c2 | (apply c2; done) | exact c3 | (apply c3; done))); (conv => whnf); refine V.st ?_)
     exact k.out)
  | fail) : A := h ⟨k⟩ c1 c2 c3
theorem r4 {A B Z C1 C2 C3 C4 : Prop} (z : Z) (c1 : C1) (c2 : C2) (c3 : C3) (c4 : C4) (k : B) (h : Hold B → Z → C1 → C2 → C3 → C4 → A := by
  first
  | (intro k z c1 c2 c3 c4
     (conv => whnf)
     (try simp only [z])
     repeat ((first | refine V.s1 ?_ | ((try ((with_reducible refine .ext ?_); (conv => whnf); (try simp only [z]))); (with_reducible refine jaa (r := ?_) ?_ ?_); rotate_left; (focus (first | exact c1 | (apply c1; done) | exact c2 | (apply c2; done) | exact c3 | (apply c3; done) | exact c4 | (apply c4; done))); (conv => whnf))); (try simp only [z]))
     exact k.out)
  | fail) : A := h ⟨k⟩ z c1 c2 c3 c4
theorem d4 {A Z C1 C2 C3 C4 : Prop} (z : Z) (c1 : C1) (c2 : C2) (c3 : C3) (c4 : C4) (h : Z → C1 → C2 → C3 → C4 → A := by
  first
  | (intro z c1 c2 c3 c4
     (conv => whnf); (try simp only [z])
     repeat' (first | exact V.wk | exact True.intro | ((with_reducible refine And.intro ?_ jay); (conv => whnf); (try simp only [z])) | ((with_reducible first | refine jaq ?_ ?_ | refine jau ?_ ?_) <;> (conv => whnf); (try simp only [z])) | ((first | refine V.s1 ?_ | ((with_reducible refine jak ?_ ?_); (focus ((conv => whnf); (try simp only [z]); (repeat ((first | refine V.s1 ?_); (try simp only [z]))); exact ⟨rfl⟩)); (conv => whnf)) | ((try ((with_reducible refine .ext ?_); (conv => whnf); (try simp only [z]))); (with_reducible refine jaa (r := ?_) ?_ ?_); rotate_left; (focus (first | exact c1 | (apply c1; done) | exact c2 | (apply c2; done) | exact c3 | (apply c3; done) | exact c4 | (apply c4; done))); (conv => whnf))); (try simp only [z])) | (refine And.intro ?_ ?_ <;> (conv => whnf); (try simp only [z]))))
  | fail) : A := h z c1 c2 c3 c4
theorem q4 {A B C1 C2 C3 C4 : Prop} (c1 : C1) (c2 : C2) (c3 : C3) (c4 : C4) (k : B) (h : Hold B → C1 → C2 → C3 → C4 → A := by
  first
  | (intro k c1 c2 c3 c4
     repeat ((try ((with_reducible refine .ext ?_); (conv => whnf))); (with_reducible refine jaa (r := ?_) ?_ ?_); rotate_left; (focus (first | exact c1 | (apply c1; done) | exact c2 | (apply c2; done) | exact c3 | (apply c3; done) | exact c4 | (apply c4; done))); (conv => whnf); refine V.st ?_)
     exact k.out)
  | fail) : A := h ⟨k⟩ c1 c2 c3 c4
theorem r5 {A B Z C1 C2 C3 C4 C5 : Prop} (z : Z) (c1 : C1) (c2 : C2) (c3 : C3) (c4 : C4) (c5 : C5) (k : B) (h : Hold B → Z → C1 → C2 → C3 → C4 → C5 → A := by
  first
  | (intro k z c1 c2 c3 c4 c5
     (conv => whnf)
     (try simp only [z])
     repeat ((first | refine V.s1 ?_ | ((try ((with_reducible refine .ext ?_); (conv => whnf); (try simp only [z]))); (with_reducible refine jaa (r := ?_) ?_ ?_); rotate_left; (focus (first | exact c1 | (apply c1; done) | exact c2 | (apply c2; done) | exact c3 | (apply c3; done) | exact c4 | (apply c4; done) | exact c5 | (apply c5; done))); (conv => whnf))); (try simp only [z]))
     exact k.out)
  | fail) : A := h ⟨k⟩ z c1 c2 c3 c4 c5
theorem r6 {A B Z C1 C2 C3 C4 C5 C6 : Prop} (z : Z) (c1 : C1) (c2 : C2) (c3 : C3) (c4 : C4) (c5 : C5) (c6 : C6) (k : B) (h : Hold B → Z → C1 → C2 → C3 → C4 → C5 → C6 → A := by
  first
  | (intro k z c1 c2 c3 c4 c5 c6
     (conv => whnf)
     (try simp only [z])
     repeat ((first | refine V.s1 ?_ | ((try ((with_reducible refine .ext ?_); (conv => whnf); (try simp only [z]))); (with_reducible refine jaa (r := ?_) ?_ ?_); rotate_left; (focus (first | exact c1 | (apply c1; done) | exact c2 | (apply c2; done) | exact c3 | (apply c3; done) | exact c4 | (apply c4; done) | exact c5 | (apply c5; done) | exact c6 | (apply c6; done))); (conv => whnf))); (try simp only [z]))
     exact k.out)
  | fail) : A := h ⟨k⟩ z c1 c2 c3 c4 c5 c6
theorem r7 {A B Z C1 C2 C3 C4 C5 C6 C7 : Prop} (z : Z) (c1 : C1) (c2 : C2) (c3 : C3) (c4 : C4) (c5 : C5) (c6 : C6) (c7 : C7) (k : B) (h : Hold B → Z → C1 → C2 → C3 → C4 → C5 → C6 → C7 → A := by
  first
  | (intro k z c1 c2 c3 c4 c5 c6 c7
     (conv => whnf)
     (try simp only [z])
     repeat ((first | refine V.s1 ?_ | ((try ((with_reducible refine .ext ?_); (conv => whnf); (try simp only [z]))); (with_reducible refine jaa (r := ?_) ?_ ?_); rotate_left; (focus (first | exact c1 | (apply c1; done) | exact c2 | (apply c2; done) | exact c3 | (apply c3; done) | exact c4 | (apply c4; done) | exact c5 | (apply c5; done) | exact c6 | (apply c6; done) | exact c7 | (apply c7; done))); (conv => whnf))); (try simp only [z]))
     exact k.out)
  | fail) : A := h ⟨k⟩ z c1 c2 c3 c4 c5 c6 c7
theorem r8 {A B Z C1 C2 C3 C4 C5 C6 C7 C8 : Prop} (z : Z) (c1 : C1) (c2 : C2) (c3 : C3) (c4 : C4) (c5 : C5) (c6 : C6) (c7 : C7) (c8 : C8) (k : B) (h : Hold B → Z → C1 → C2 → C3 → C4 → C5 → C6 → C7 → C8 → A := by
  first
  | (intro k z c1 c2 c3 c4 c5 c6 c7 c8
     (conv => whnf)
     (try simp only [z])
     repeat ((first | refine V.s1 ?_ | ((try ((with_reducible refine .ext ?_); (conv => whnf); (try simp only [z]))); (with_reducible refine jaa (r := ?_) ?_ ?_); rotate_left; (focus (first | exact c1 | (apply c1; done) | exact c2 | (apply c2; done) | exact c3 | (apply c3; done) | exact c4 | (apply c4; done) | exact c5 | (apply c5; done) | exact c6 | (apply c6; done) | exact c7 | (apply c7; done) | exact c8 | (apply c8; done))); (conv => whnf))); (try simp only [z]))
     exact k.out)
  | fail) : A := h ⟨k⟩ z c1 c2 c3 c4 c5 c6 c7 c8
end Go.V
end
section
open Go Go.RowKit
namespace Go.V
def pubOf (w:World):Pub:=fun b o=>w.cell? ⟨b,o,none⟩
theorem je8 (w:World)(hg:GlW w):Agree (pubOf w) w:=⟨fun _ _ _ e=>e,fun g vs h i v hv=>by
 obtain⟨_,T,f,h2⟩:=hg.1 g vs h
 unfold pubOf
 rw[cell_of_row w g i _ T f h2]
 simpa using hv,hg,fun g h=>by
 obtain⟨tp,p,T,f,h2⟩:=hg.2 g h
 exact⟨.iface tp p,by unfold pubOf;rw[cell_of_row w g 0 _ T f h2];rfl⟩⟩
theorem Called.walk {P:Program}{f:Nat}{ds:List D}(c:Called P f ds (.bool true))(w:World){vs:List Value}(hd:DenL Env.dummy (pubOf w) ds vs)(hg:GlW w:=by first|exact⟨fun _ _ h=>absurd h List.not_mem_nil,fun _ h=>absurd h List.not_mem_nil⟩|fail) :
  Calls P f vs.toArray w fun e w'=>e = .returned (.bool true)∧Below w.heap.size w w':=by
 refine(c.call (pubOf w) w vs (je8 w hg) hd).mono fun e w' ⟨v,h',he,hv,_,_,hb,_⟩=>?_
 simp only[Den] at hv
 subst hv
 exact⟨he,hb⟩
end Go.V
end
section
open Go Go.RowKit
namespace Go.V
inductive Lf where
  | bool
  | int (k : IntKind)
  | ints (k : IntKind)
  | str
def leafOk (w:World):Lf→Value→Prop
 | .bool,v => ∃ b,v = .bool b
 | .int k,v => ∃ n,v = .int k n∧InR k n
 | .ints k,v => ∃ zs,jaM (pubOf w) k zs v
 | .str,v => ∃ s:List UInt8,v = .string ⟨s.toArray⟩∧s.length≤281474976710656
def leavesOk (w:World):List Lf→List Value→Prop
 | [],vs=>vs=[]
 | l::ls,vs => ∃ v vs',vs=v::vs'∧leafOk w l v∧leavesOk w ls vs'
theorem leavesOk.app {w:World} : ∀ {a b:List Lf} {xs ys:List Value},leavesOk w a xs→leavesOk w b ys→leavesOk w (a++b) (xs++ys)
 | [],_,_,_,h,k=>by simp only[leavesOk] at h;subst h;exact k
 | _::a,b,_,ys,⟨v,vs',rfl,h1,h2⟩,k=>⟨v,vs'++ys,rfl,h1,leavesOk.app h2 k⟩
def rep (l:List Lf):Nat→List Lf
 | 0=>[]
 | n+1=>l++rep l n
def jdR (P:Program)(g:TypeId→Option (List Lf)):List Field→Nat→Option (List Lf)
 | [],_=>some []
 | fd::fds,off=>if fd.offset=off then (g fd.type).bind fun l=>if P.cellsOf fd.type=l.length then (jdR P g fds (off+l.length)).map (l ++ ·) else none else none
def leaves (P:Program):Nat→TypeId→Option (List Lf)
 | 0,_=>none
 | f+1,t=>match P.underlying t with
  | some .bool=>some [.bool]
  | some (.int k)=>some [.int k]
  | some .string=>some [.str]
  | some (.slice e)=>match P.underlying e with
   | some (.int k)=>if P.cellsOf e=1∧1≤P.bytesOf e then some [.ints k] else none
   | _=>none
  | some (.struct fs)=>(jdR P (leaves P f) fs.toList 0).bind fun l=>if P.cellsOf t=l.length then some l else none
  | some (.array n e)=>(leaves P f e).bind fun l=>if P.cellsOf e=l.length∧P.cellsOf t=(rep l n).length then some (rep l n) else none
  | _=>none
def jd5 (v:Value):Prop := ∀ a len cap,v = .slice (some a) len cap→a.spot=none
theorem jc7 {P : Program} {w : World} {r : Reach} {base : Nat} {t : TypeId} {v : Value} (h : Cell.okWide P w r base t v) : jd5 v := by
  intro a len cap e
  subst e
  unfold Cell.okWide at h
  split at h
  all_goals first
    | (rename_i h1; simp at h1; done)
    | skip
  unfold Cell.ok at h
  split at h <;> simp_all [World.has]
theorem spotOk_of {P : Program} {w : World} {r : Reach} {base : Nat} {t : TypeId} {v : Value} (h : Value.okWide P w r base t v) : ∀ c ∈ v.cells.toList, jd5 c := by
  unfold Value.okWide at h
  split at h
  · obtain ⟨cs, rfl, _, ts, _, _, h3⟩ := h
    intro c hc
    obtain ⟨i, hi, rfl⟩ := List.mem_iff_getElem.1 hc
    obtain ⟨u, _, hu⟩ := h3 i _ (by simp only [Value.cells] at hi ⊢; exact Array.getElem?_eq_getElem (by simpa using hi))
    exact jc7 hu
  · obtain ⟨cs, rfl, _, ts, _, _, h3⟩ := h
    intro c hc
    obtain ⟨i, hi, rfl⟩ := List.mem_iff_getElem.1 hc
    obtain ⟨u, _, hu⟩ := h3 i _ (by simp only [Value.cells] at hi ⊢; exact Array.getElem?_eq_getElem (by simpa using hi))
    exact jc7 hu
  · intro c hc
    have : c = v ∨ ∃ cs, v = .agg cs := by
      cases v <;> simp_all [Value.cells]
    rcases this with rfl | ⟨cs, rfl⟩
    · exact jc7 h
    · exfalso
      unfold Cell.okWide at h
      split at h
      all_goals first
        | (rename_i h1; simp at h1; done)
        | skip
      unfold Cell.ok at h
      split at h <;> simp_all
section
variable {H : Type} {enc : TypeId × Value → H} {P : Program} {w : World} {base : Nat} {spare : Nat → Bool} {held : Bool}
theorem inR_wf {k:IntKind}{n:Int}(h:(Lit.int k n).wf=true):InR k n:=by
 cases k<;>simp[Lit.wf,IntKind.min,IntKind.max,IntKind.signed,IntKind.bits] at h<;>simp[InR,lo,hi]<;>omega
theorem leaf_ints {t e:TypeId}{k:IntKind}{fuel:Nat}{cs:List Value}{x:DataW H×List MemPlace}(ht:P.underlying t=some (.slice e))(he:P.underlying e=some (.int k))(hc:P.cellsOf e=1)(hb:1≤P.bytesOf e)
  (h:DataW.trod enc P w base spare held fuel t cs=some x) (hz:(x.1.weights P t).all (· ≤ reachBytes)=true) (hs:∀ v∈cs,jd5 v):leavesOk w [.ints k] cs:=by
 rcases Go.ChangeShapes.open_ints ht he hc h with⟨rfl,_⟩|⟨a,len,cap,zs,rfl,_,hl,hm,hzl,rfl,hcell,hwf⟩
 ·exact⟨_,[],rfl,⟨[],none,0,rfl,jiL _,by decide,by simp,rfl,rfl⟩,rfl⟩
 ·have hsp:a.spot=none:=hs _ (by simp) a len cap rfl
  have hlz:len≤zs.length:=by rw[hzl];split<;>omega
  have hw:zs.length≤reachBytes:=by
   simp only[DataW.weights,ht,List.all_cons,jiD,decide_eq_true_eq,ChangeShapes.lits,List.length_map,jjk,jjx] at hz
   have h1:=hz.1
   have e1:min len zs.length+(zs.length-len)=zs.length:=by omega
   rw[e1] at h1
   exact jiS (Nat.le_mul_of_pos_right _ hb) h1
  have hr:reachBytes≤281474976710656:=by decide
  have htl:(zs.take len).length=len:=by rw[jjk];omega
  refine⟨_,[],rfl,⟨zs.take len,some a,cap,by rw[htl],by omega,by omega,fun n hn=>inR_wf (hwf n (jjp hn)),hsp,fun i n hi=>?_⟩,rfl⟩
  have hi2:i<len:=by
   have:=(jjn.1 hi).1
   omega
  have hg:zs[i]? = some n:=by rw[← hi,jjy hi2]
  have:=hcell i (by omega)
  rw[jje,hg] at this
  have ea:a.add i=⟨a.block,a.off+i,none⟩:=by
   obtain⟨b,o,s⟩:=a
   subst hsp
   unfold Addr.add
   split
   ·rename_i h0
    subst h0
    rfl
   ·rfl
  rw[ea] at this
  exact this
theorem leavesF_ok {g:TypeId→Option (List Lf)}{n:Nat}{cs:List Value}
  (ih:∀ (t:TypeId) (ls:List Lf) (cs:List Value) (x:DataW H×List MemPlace),g t=some ls→DataW.trod enc P w base spare held n t cs=some x→(x.1.weights P t).all (· ≤ reachBytes)=true→(∀ v∈cs,jd5 v)→leavesOk w ls cs)
  (hs:∀ v∈cs,jd5 v) :
  ∀ (fds:List Field) (off:Nat) (ls:List Lf) (xs:List (DataW H×List MemPlace)),jdR P g fds off=some ls→xs.length=fds.length →
   (∀ (i:Nat) (f:Field),fds[i]? = some f→DataW.trod enc P w base spare held n f.type ((cs.drop f.offset).take (P.cellsOf f.type))=xs[i]?) →
   (DataW.weightsEach P (fds.map (·.type)) (xs.map (·.1))).all (· ≤ reachBytes)=true→leavesOk w ls ((cs.drop off).take ls.length):=by
 intro fds
 induction fds with
 | nil=>
  intro off ls xs h _ _ _
  simp only[jdR,Option.some.injEq] at h
  subst h
  rfl
 | cons fd fds ihf=>
  intro off ls xs h hl hx hz
  cases xs with
  | nil=>simp at hl
  | cons x xs=>
   simp only[jdR] at h
   split at h
   case isFalse=>cases h
   case isTrue ho=>
    cases hg:g fd.type with
    | none=>rw[hg] at h;cases h
    | some l=>
     rw[hg] at h
     simp only[Option.bind_some] at h
     split at h
     case isFalse=>cases h
     case isTrue hc=>
      obtain⟨r,hr,rfl⟩:=Option.map_eq_some_iff.1 h
      simp only[List.map_cons,DataW.weightsEach,List.all_append,jiD] at hz
      have h1:=ih _ _ _ _ hg (hx 0 fd rfl) hz.1 (fun v hv=>hs v (jjo (jjp hv)))
      have h2:=ihf (off+l.length) r xs hr (by simpa using hl) (fun i f hf=>hx (i+1) f hf) hz.2
      rw[hc,ho] at h1
      rw[jjj,List.take_add,List.drop_drop]
      exact h1.app h2
theorem leavesA_ok {l:List Lf}{e:TypeId}{n:Nat}{cs:List Value}
  (ih:∀ (cs:List Value) (x:DataW H×List MemPlace),DataW.trod enc P w base spare held n e cs=some x→(x.1.weights P e).all (· ≤ reachBytes)=true→(∀ v∈cs,jd5 v)→leavesOk w l cs)
  (hs:∀ v∈cs,jd5 v) :
  ∀ (m off:Nat) (xs:List (DataW H×List MemPlace)),xs.length=m →
   (∀ (i:Nat),i<m→DataW.trod enc P w base spare held n e ((cs.drop (off+i*l.length)).take l.length)=xs[i]?) →
   (DataW.weightsAll P e (xs.map (·.1))).all (· ≤ reachBytes)=true→leavesOk w (rep l m) ((cs.drop off).take (rep l m).length):=by
 intro m
 induction m with
 | zero=>intro off xs _ _ _;rfl
 | succ m ihm=>
  intro off xs hl hx hz
  cases xs with
  | nil=>simp at hl
  | cons x xs=>
   simp only[List.map_cons,DataW.weightsAll,List.all_append,jiD] at hz
   have h1:=ih _ _ (hx 0 (by omega)) hz.1 (fun v hv=>hs v (jjo (jjp hv)))
   have h2:=ihm (off+l.length) xs (by simpa using hl) (fun i hi=>by
    have:=hx (i+1) (by omega)
    rw[Nat.add_mul,Nat.one_mul,Nat.add_comm (i*l.length),← Nat.add_assoc] at this
    exact this) hz.2
   rw[Nat.zero_mul,Nat.add_zero] at h1
   rw[rep,jjj,List.take_add,List.drop_drop]
   exact h1.app h2
theorem leaves_ok:∀ (f:Nat) (n:Nat) (t:TypeId) (ls:List Lf) (cs:List Value) (x:DataW H×List MemPlace),leaves P f t=some ls→DataW.trod enc P w base spare held n t cs=some x →
  (x.1.weights P t).all (· ≤ reachBytes)=true→(∀ v∈cs,jd5 v)→leavesOk w ls cs:=by
 intro f
 induction f with
 | zero=>intro n t ls cs x h;simp[leaves] at h
 | succ f ih=>
  intro n t ls cs x h hd hz hs
  unfold leaves at h
  split at h
  ·rename_i ht
   cases h
   obtain⟨b,rfl,_⟩:=DataW.trod_bool ht hd
   exact⟨_,[],rfl,⟨b,rfl⟩,rfl⟩
  ·rename_i k ht
   cases h
   obtain⟨n,rfl,_,hwf⟩:=DataW.trod_int ht hd
   exact⟨_,[],rfl,⟨n,rfl,inR_wf hwf⟩,rfl⟩
  ·rename_i ht
   cases h
   obtain⟨s,rfl,hx,hwf⟩:=DataW.trod_string ht hd
   subst hx
   have hr:reachBytes≤281474976710656:=by decide
   refine⟨_,[],rfl,⟨s.data.toList,rfl,?_⟩,rfl⟩
   simp only[DataW.weights,ht,List.all_cons,List.all_nil,jiV,decide_eq_true_eq] at hz
   omega
  ·rename_i e ht
   split at h
   ·rename_i k he
    split at h
    ·rename_i hc
     cases h
     exact leaf_ints ht he hc.1 hc.2 hd hz hs
    ·cases h
   ·cases h
  ·rename_i fs ht
   cases hg:jdR P (leaves P f) fs.toList 0 with
   | none=>rw[hg] at h;cases h
   | some l=>
    rw[hg] at h
    simp only[Option.bind_some] at h
    split at h
    case isFalse=>cases h
    case isTrue hc=>
     cases h
     obtain⟨xs,m,_,rfl,hcl,hxl,hx⟩:=DataW.trod_struct ht hd
     simp only[DataW.weights,ht] at hz
     have:=leavesF_ok (P:=P) (enc:=enc) (base:=base) (spare:=spare) (held:=held) (n:=m) (fun t ls cs x h1 h2 h3 h4=>ih m t ls cs x h1 h2 h3 h4) hs fs.toList 0 _ xs hg (by simpa using hxl) (fun i f hf=>hx i f (by simpa using hf)) hz
     rw[List.drop_zero,jjr (by omega)] at this
     exact this
  ·rename_i m e ht
   cases hg:leaves P f e with
   | none=>rw[hg] at h;cases h
   | some l=>
    rw[hg] at h
    simp only[Option.bind_some] at h
    split at h
    case isFalse=>cases h
    case isTrue hc=>
     cases h
     obtain⟨xs,m',_,rfl,hcl,hxl,hx⟩:=DataW.trod_array ht hd
     simp only[DataW.weights,ht] at hz
     have:=leavesA_ok (P:=P) (enc:=enc) (base:=base) (spare:=spare) (held:=held) (n:=m') (fun cs x h2 h3 h4=>ih m' e l cs x hg h2 h3 h4) hs m 0 xs hxl (fun i hi=>by
      have:=hx i hi
      rw[hc.1] at this
      rw[jiI]
      exact this) hz
     rw[List.drop_zero,jjr (by omega)] at this
     exact this
  ·cases h
theorem read_arg {r:Reach}{b0 f:Nat}{t:TypeId}{v:Value}{d:DataW H}{ps:List MemPlace}{ls:List Lf}(hl:leaves P f t=some ls)(hv:Value.okWide P w r b0 t v)(hd:DataW.Trod enc P w base spare held t v d ps)
  (hz:(d.weights P t).all (· ≤ reachBytes)=true):leavesOk w ls v.cells.toList:=by
 obtain⟨n,hn⟩:=hd
 exact leaves_ok f n t ls _ _ hl hn hz (spotOk_of hv)
end
end Go.V
end
