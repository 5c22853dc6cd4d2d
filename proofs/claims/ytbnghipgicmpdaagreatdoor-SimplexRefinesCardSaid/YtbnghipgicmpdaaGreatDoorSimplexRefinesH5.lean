/- Laws of a small interpreter over plain values, part 5. No condition. -/
import Derived.Test.YtbnghipgicmpdaaGreatDoorSimplexRefinesH4
import Derived.OpenShut
import Derived.SizedLaws
import Derived.ChangeSlices
import Derived.JoinedOf
set_option linter.unusedSimpArgs false
set_option linter.unusedVariables false
set_option maxHeartbeats 8000000
set_option maxRecDepth 100000
section
open Go Go.RowKit
namespace Go.V
inductive L0 where
  | bool
  | int (k : IntKind)
  | str
def l0Ok:L0→Value→Prop
 | .bool,v => ∃ b,v = .bool b
 | .int k,v => ∃ n,v = .int k n∧InR k n
 | .str,v => ∃ s:List UInt8,v = .string ⟨s.toArray⟩∧s.length≤281474976710656
def l0sOk:List L0→List Value→Prop
 | [],vs=>vs=[]
 | l::ls,vs => ∃ v vs',vs=v::vs'∧l0Ok l v∧l0sOk ls vs'
def l0D:L0→D→Prop
 | .bool,d => ∃ b,d = .bool b
 | .int k,d => ∃ n,d = .int k n∧InR k n
 | .str,d => ∃ s:List UInt8,d = .str s∧s.length≤281474976710656
def l0sD:List L0→List D→Prop
 | [],ds=>ds=[]
 | l::ls,ds => ∃ d ds',ds=d::ds'∧l0D l d∧l0sD ls ds'
theorem l0s_den {h:Pub} : ∀ {ls:List L0} {vs:List Value},l0sOk ls vs → ∃ ds,DenL Env.dummy h ds vs∧l0sD ls ds∧(∀ v∈vs,v.oneCell'=true)∧vs.length=ls.length
 | [],vs,H=>⟨[],by simp only[l0sOk] at H;subst H;exact⟨rfl,rfl,fun v hv=>by simp at hv,rfl⟩⟩
 | l::ls,vs,⟨v,vs',e,h1,h2⟩=>by
  subst e
  obtain⟨ds,k1,k2,k3,k4⟩:=l0s_den h2
  have:∃ d,Den Env.dummy h d v∧l0D l d∧v.oneCell'=true:=by
   cases l with
   | bool=>obtain⟨b,rfl⟩:=h1;exact⟨.bool b,rfl,⟨b,rfl⟩,rfl⟩
   | int k=>obtain⟨n,rfl,hn⟩:=h1;exact⟨.int k n,⟨rfl,hn⟩,⟨n,rfl,hn⟩,rfl⟩
   | str=>obtain⟨s,rfl,hs⟩:=h1;exact⟨.str s,⟨rfl,hs⟩,⟨s,rfl,hs⟩,rfl⟩
  obtain⟨d,j1,j2,j3⟩:=this
  exact⟨d::ds,⟨v,vs',rfl,j1,k1⟩,⟨d,ds,rfl,j2,k2⟩,fun u hu=>by
   rcases jjH.1 hu with rfl|hu
   ·exact j3
   ·exact k3 u hu,by simp[k4]⟩
inductive Lf where
  | bool
  | int (k : IntKind)
  | ints (k : IntKind)
  | str
  | recs (ls : List L0)
def leafOk (w:World):Lf→Value→Prop
 | .bool,v => ∃ b,v = .bool b
 | .int k,v => ∃ n,v = .int k n∧InR k n
 | .ints k,v => ∃ zs,jaP (pubOf w) k zs v
 | .str,v => ∃ s:List UInt8,v = .string ⟨s.toArray⟩∧s.length≤281474976710656
 | .recs ls,v => ∃ n f,Den Env.dummy (pubOf w) (.slf ls.length n f) v∧n≤140737488355328 ∧ ∀ j,j<n→l0sD ls (f j)
def Lf.l0:Lf→Option L0
 | .bool=>some .bool
 | .int k=>some (.int k)
 | .str=>some .str
 | _=>none
def lf0s:List Lf→Option (List L0)
 | []=>some []
 | l::ls=>match l.l0,lf0s ls with|some x,some xs=>some (x::xs)|_,_=>none
def leavesOk (w:World):List Lf→List Value→Prop
 | [],vs=>vs=[]
 | l::ls,vs => ∃ v vs',vs=v::vs'∧leafOk w l v∧leavesOk w ls vs'
theorem leavesOk.app {w:World} : ∀ {a b:List Lf} {xs ys:List Value},leavesOk w a xs→leavesOk w b ys→leavesOk w (a++b) (xs++ys)
 | [],_,_,_,h,k=>by simp only[leavesOk] at h;subst h;exact k
 | _::a,b,_,ys,⟨v,vs',rfl,h1,h2⟩,k=>⟨v,vs'++ys,rfl,h1,leavesOk.app h2 k⟩
theorem l0s_of {w:World} : ∀ {ls:List Lf} {l0:List L0} {vs:List Value},lf0s ls=some l0→leavesOk w ls vs→l0sOk l0 vs
 | [],l0,vs,h,H=>by cases h;exact H
 | l::ls,l0,vs,h,⟨v,vs',e,h1,h2⟩=>by
  unfold lf0s at h
  split at h
  ·rename_i x xs e1 e2
   cases h
   refine⟨v,vs',e,?_,l0s_of e2 h2⟩
   cases l<;>cases e1<;>exact h1
  ·cases h
def rep (l:List Lf):Nat→List Lf
 | 0=>[]
 | n+1=>l++rep l n
def jcV (P:Program)(g:TypeId→Option (List Lf)):List Field→Nat→Option (List Lf)
 | [],_=>some []
 | fd::fds,off=>if fd.offset=off then (g fd.type).bind fun l=>if P.cellsOf fd.type=l.length then (jcV P g fds (off+l.length)).map (l ++ ·) else none else none
def leaf0 (P:Program)(t:TypeId):Option (List Lf):=match P.underlying t with
 | some .bool=>some [.bool]
 | some (.int k)=>some [.int k]
 | some .string=>some [.str]
 | _=>none
def leaves (P:Program):Nat→TypeId→Option (List Lf)
 | 0,_=>none
 | f+1,t=>match P.underlying t with
  | some .bool=>some [.bool]
  | some (.int k)=>some [.int k]
  | some .string=>some [.str]
  | some (.slice e)=>match P.underlying e with
   | some (.int k)=>if P.cellsOf e=1∧1≤P.bytesOf e then some [.ints k] else none
   | some (.struct fs)=>match jcV P (leaf0 P) fs.toList 0 with
    | some l=>match lf0s l with
     | some l0=>if P.cellsOf e=l.length∧1≤P.bytesOf e then some [.recs l0] else none
     | none=>none
    | none=>none
   | _=>none
  | some (.struct fs)=>(jcV P (leaves P f) fs.toList 0).bind fun l=>if P.cellsOf t=l.length then some l else none
  | some (.array n e)=>(leaves P f e).bind fun l=>if P.cellsOf e=l.length∧P.cellsOf t=(rep l n).length then some (rep l n) else none
  | _=>none
def jfG (v:Value):Prop := ∀ a len cap,v = .slice (some a) len cap→a.spot=none
theorem jdl {P : Program} {w : World} {r : Reach} {base : Nat} {t : TypeId} {v : Value} (h : Cell.okWide P w r base t v) : jfG v := by
  intro a len cap e
  subst e
  unfold Cell.okWide at h
  split at h
  all_goals first
    | (rename_i h1; simp at h1; done)
    | skip
  unfold Cell.ok at h
  split at h <;> simp_all [World.has]
theorem spotOk_of {P : Program} {w : World} {r : Reach} {base : Nat} {t : TypeId} {v : Value} (h : Value.okWide P w r base t v) : ∀ c ∈ v.cells.toList, jfG c := by
  unfold Value.okWide at h
  split at h
  · obtain ⟨cs, rfl, _, ts, _, _, h3⟩ := h
    intro c hc
    obtain ⟨i, hi, rfl⟩ := List.mem_iff_getElem.1 hc
    obtain ⟨u, _, hu⟩ := h3 i _ (by simp only [Value.cells] at hi ⊢; exact Array.getElem?_eq_getElem (by simpa using hi))
    exact jdl hu
  · obtain ⟨cs, rfl, _, ts, _, _, h3⟩ := h
    intro c hc
    obtain ⟨i, hi, rfl⟩ := List.mem_iff_getElem.1 hc
    obtain ⟨u, _, hu⟩ := h3 i _ (by simp only [Value.cells] at hi ⊢; exact Array.getElem?_eq_getElem (by simpa using hi))
    exact jdl hu
  · intro c hc
    have : c = v ∨ ∃ cs, v = .agg cs := by
      cases v <;> simp_all [Value.cells]
    rcases this with rfl | ⟨cs, rfl⟩
    · exact jdl h
    · exfalso
      unfold Cell.okWide at h
      split at h
      all_goals first
        | (rename_i h1; simp at h1; done)
        | skip
      unfold Cell.ok at h
      split at h <;> simp_all
section
variable {H : Type} {enc : TypeId × Value → H} {P : Program} {w : World} {base : Nat} {spare : Nat → Bool} {held : Bool}
theorem inR_wf {k:IntKind}{n:Int}(h:(Lit.int k n).wf=true):InR k n:=by
 cases k<;>simp[Lit.wf,IntKind.min,IntKind.max,IntKind.signed,IntKind.bits] at h<;>simp[InR,lo,hi]<;>omega
theorem leaf_ints {t e:TypeId}{k:IntKind}{fuel:Nat}{cs:List Value}{x:DataW H×List MemPlace}(ht:P.underlying t=some (.slice e))(he:P.underlying e=some (.int k))(hc:P.cellsOf e=1)(hb:1≤P.bytesOf e)
  (h:DataW.trod enc P w base spare held fuel t cs=some x) (hz:(x.1.weights P t).all (· ≤ reachBytes)=true) (hs:∀ v∈cs,jfG v):leavesOk w [.ints k] cs:=by
 rcases Go.ChangeShapes.open_ints ht he hc h with⟨rfl,_⟩|⟨a,len,cap,zs,rfl,_,hl,hm,hzl,rfl,hcell,hwf⟩
 ·exact⟨_,[],rfl,⟨[],none,0,rfl,jjc _,by decide,by simp,rfl,rfl⟩,rfl⟩
 ·have hsp:a.spot=none:=hs _ (by simp) a len cap rfl
  have hlz:len≤zs.length:=by rw[hzl];split<;>omega
  have hw:zs.length≤reachBytes:=by
   simp only[DataW.weights,ht,List.all_cons,ji0,decide_eq_true_eq,ChangeShapes.lits,List.length_map,jjM,jj0] at hz
   have h1:=hz.1
   have e1:min len zs.length+(zs.length-len)=zs.length:=by omega
   rw[e1] at h1
   exact jjd (Nat.le_mul_of_pos_right _ hb) h1
  have hr:reachBytes≤281474976710656:=by decide
  have htl:(zs.take len).length=len:=by rw[jjM];omega
  refine⟨_,[],rfl,⟨zs.take len,some a,cap,by rw[htl],by omega,by omega,fun n hn=>inR_wf (hwf n (jjR hn)),hsp,fun i n hi=>?_⟩,rfl⟩
  have hi2:i<len:=by
   have:=(jjP.1 hi).1
   omega
  have hg:zs[i]? = some n:=by rw[← hi,jj4 hi2]
  have:=hcell i (by omega)
  rw[jjF,hg] at this
  have ea:a.add i=⟨a.block,a.off+i,none⟩:=by
   obtain⟨b,o,s⟩:=a
   subst hsp
   unfold Addr.add
   split
   ·rename_i h0
    subst h0
    rfl
   ·rfl
  rw[ea] at this
  exact this
theorem jf5 {g:TypeId→Option (List Lf)}{n:Nat}{cs:List Value}{S:Value→Prop}
  (ih:∀ (t:TypeId) (ls:List Lf) (cs:List Value) (x:DataW H×List MemPlace),g t=some ls→DataW.trod enc P w base spare held n t cs=some x→(x.1.weights P t).all (· ≤ reachBytes)=true→(∀ v∈cs,S v)→leavesOk w ls cs)
  (hs:∀ v∈cs,S v) :
  ∀ (fds:List Field) (off:Nat) (ls:List Lf) (xs:List (DataW H×List MemPlace)),jcV P g fds off=some ls→xs.length=fds.length →
   (∀ (i:Nat) (f:Field),fds[i]? = some f→DataW.trod enc P w base spare held n f.type ((cs.drop f.offset).take (P.cellsOf f.type))=xs[i]?) →
   (DataW.weightsEach P (fds.map (·.type)) (xs.map (·.1))).all (· ≤ reachBytes)=true→leavesOk w ls ((cs.drop off).take ls.length):=by
 intro fds
 induction fds with
 | nil=>
  intro off ls xs h _ _ _
  simp only[jcV,Option.some.injEq] at h
  subst h
  rfl
 | cons fd fds ihf=>
  intro off ls xs h hl hx hz
  cases xs with
  | nil=>simp at hl
  | cons x xs=>
   simp only[jcV] at h
   split at h
   case isFalse=>cases h
   case isTrue ho=>
    cases hg:g fd.type with
    | none=>rw[hg] at h;cases h
    | some l=>
     rw[hg] at h
     simp only[Option.bind_some] at h
     split at h
     case isFalse=>cases h
     case isTrue hc=>
      obtain⟨r,hr,rfl⟩:=Option.map_eq_some_iff.1 h
      simp only[List.map_cons,DataW.weightsEach,List.all_append,ji0] at hz
      have h1:=ih _ _ _ _ hg (hx 0 fd rfl) hz.1 (fun v hv=>hs v (jjQ (jjR hv)))
      have h2:=ihf (off+l.length) r xs hr (by simpa using hl) (fun i f hf=>hx (i+1) f hf) hz.2
      rw[hc,ho] at h1
      rw[jjL,List.take_add,List.drop_drop]
      exact h1.app h2
theorem leaf0_ok {n:Nat}{t:TypeId}{ls:List Lf}{cs:List Value}{x:DataW H×List MemPlace}(h:leaf0 P t=some ls)(hd:DataW.trod enc P w base spare held n t cs=some x)
  (hz:(x.1.weights P t).all (· ≤ reachBytes)=true):leavesOk w ls cs:=by
 unfold leaf0 at h
 split at h
 ·rename_i ht
  cases h
  obtain⟨b,rfl,_⟩:=DataW.trod_bool ht hd
  exact⟨_,[],rfl,⟨b,rfl⟩,rfl⟩
 ·rename_i k ht
  cases h
  obtain⟨n,rfl,_,hwf⟩:=DataW.trod_int ht hd
  exact⟨_,[],rfl,⟨n,rfl,inR_wf hwf⟩,rfl⟩
 ·rename_i ht
  cases h
  obtain⟨s,rfl,hx,hwf⟩:=DataW.trod_string ht hd
  subst hx
  have hr:reachBytes≤281474976710656:=by decide
  refine⟨_,[],rfl,⟨s.data.toList,rfl,?_⟩,rfl⟩
  simp only[DataW.weights,ht,List.all_cons,List.all_nil,Bool.and_true,decide_eq_true_eq] at hz
  omega
 ·cases h
theorem jdu {e:TypeId} : ∀ {l:List (DataW H)} {i:Nat} {y:DataW H},(DataW.weightsAll P e l).all (· ≤ reachBytes)=true→l[i]? = some y→(y.weights P e).all (· ≤ reachBytes)=true
 | [],_,_,_,h=>by simp at h
 | x::l,0,y,hz,h=>by
  simp only[DataW.weightsAll,List.all_append,ji0] at hz
  simp at h;subst h;exact hz.1
 | x::l,i+1,y,hz,h=>by
  simp only[DataW.weightsAll,List.all_append,ji0] at hz
  exact jdu hz.2 (by simpa using h)
theorem leaf_recs {t e:TypeId}{fs:Array Field}{l:List Lf}{l0:List L0}{fuel:Nat}{cs:List Value}{x:DataW H×List MemPlace}(ht:P.underlying t=some (.slice e))(he:P.underlying e=some (.struct fs))
  (hl:jcV P (leaf0 P) fs.toList 0=some l) (h0:lf0s l=some l0) (hc:P.cellsOf e=l.length) (hb:1≤P.bytesOf e)
  (h:DataW.trod enc P w base spare held fuel t cs=some x) (hz:(x.1.weights P t).all (· ≤ reachBytes)=true) (hs:∀ v∈cs,jfG v):leavesOk w [.recs l0] cs:=by
 rcases DataW.trod_slice ht h with⟨rfl,_⟩|⟨a,len,cap,elems,rest,n,_,rfl,rfl,_,hle,hm,hlen,hel,_⟩
 ·exact⟨_,[],rfl,⟨0,fun _=>[],⟨none,0,rfl,jjc _,by decide,rfl,rfl⟩,by decide,fun j hj=>absurd hj (Nat.not_lt_zero _)⟩,rfl⟩
 ·have hsp:a.spot=none:=hs _ (by simp) a len cap rfl
  simp only[DataW.weights,ht,List.all_cons,List.all_append,ji0,decide_eq_true_eq,List.length_map] at hz
  have hw:len≤140737488355328:=by
   have h1:=hz.1
   have h2:elems.length+rest.length≤(elems.length+rest.length)*P.bytesOf e:=Nat.le_mul_of_pos_right _ hb
   have hr:reachBytes≤140737488355328:=by decide
   omega
  have hll:l0.length=l.length:=by
   clear hl hc
   induction l generalizing l0 with
   | nil=>cases h0;rfl
   | cons y l ihl=>
    unfold lf0s at h0
    split at h0
    ·rename_i x xs e1 e2
     cases h0
     simp[ihl e2]
    ·cases h0
  have each:∀ j,j<len → ∃ ds:List D,(∃ vs,DenL Env.dummy (pubOf w) ds vs∧vs.length=l0.length∧(∀ v∈vs,v.oneCell'=true) ∧ ∀ (i:Nat) v,vs[i]? = some v→pubOf w a.block (a.off+j*l0.length+i)=some v)∧l0sD l0 ds:=by
   intro j hj
   have hej:=hel j hj
   have hy:elems[j]? = some (elems[j]'(by omega)):=jjI (by omega)
   rw[hy,Option.bind_eq_some_iff] at hej
   obtain⟨cs',hcs,hd⟩:=hej
   obtain⟨_,hcl,hce⟩:=World.cells?_some hcs
   have hwy:=jdu (l:=elems.map (·.1)) (i:=j) hz.2.1 (by rw[List.getElem?_map,hy];rfl)
   obtain⟨xs,m,_,hx,hcl2,hxl,hxf⟩:=DataW.trod_struct he hd
   rw[hx] at hwy
   simp only[DataW.weights,he] at hwy
   have lv:=jf5 (P:=P) (enc:=enc) (base:=base) (spare:=spare) (held:=held) (n:=m) (S:=fun _=>True) (fun t ls cs x h1 h2 h3 _=>leaf0_ok h1 h2 h3) (fun _ _=>trivial) fs.toList 0 _ xs hl (by simpa using hxl) (fun i f hf=>hxf i f (by simpa using hf)) hwy
   rw[jj1,jjW (by omega)] at lv
   obtain⟨ds,k1,k2,k3,k4⟩:=l0s_den (h:=pubOf w) (l0s_of h0 lv)
   refine⟨ds,⟨cs',k1,k4,k3,fun i v hv=>?_⟩,k2⟩
   have hi:i<P.cellsOf e:=by
    have:=(jjP.1 hv).1
    omega
   have hcell:=hce i hi
   rw[hv] at hcell
   have ea:(a.add (j*P.cellsOf e)).add i=⟨a.block,a.off+j*l0.length+i,none⟩:=by
    obtain⟨b,o,s⟩:=a
    subst hsp
    rw[hc,← hll]
    unfold Addr.add
    simp only[]
    by_cases hz0:j*l0.length=0
    ·rw[if_pos hz0]
     by_cases hi0:i=0
     ·simp[hz0,hi0]
     ·simp[hz0,hi0]
    ·rw[if_neg hz0]
     by_cases hi0:i=0
     ·simp[hi0]
     ·simp[hi0]
   rw[ea] at hcell
   exact hcell
  classical
  refine⟨_,[],rfl,⟨len,fun j=>if h:j<len then (each j h).choose else [],?_,hw,fun j hj=>?_⟩,rfl⟩
  ·refine⟨some a,cap,rfl,hle,by omega,hsp,fun j hj=>?_⟩
   show ∃ vs,DenL Env.dummy (pubOf w) (if h:j<len then (each j h).choose else []) vs∧_
   rw[dif_pos hj]
   exact(each j hj).choose_spec.1
  ·show l0sD l0 (if h:j<len then (each j h).choose else [])
   rw[dif_pos hj]
   exact(each j hj).choose_spec.2
theorem leavesA_ok {l:List Lf}{e:TypeId}{n:Nat}{cs:List Value}
  (ih:∀ (cs:List Value) (x:DataW H×List MemPlace),DataW.trod enc P w base spare held n e cs=some x→(x.1.weights P e).all (· ≤ reachBytes)=true→(∀ v∈cs,jfG v)→leavesOk w l cs)
  (hs:∀ v∈cs,jfG v) :
  ∀ (m off:Nat) (xs:List (DataW H×List MemPlace)),xs.length=m →
   (∀ (i:Nat),i<m→DataW.trod enc P w base spare held n e ((cs.drop (off+i*l.length)).take l.length)=xs[i]?) →
   (DataW.weightsAll P e (xs.map (·.1))).all (· ≤ reachBytes)=true→leavesOk w (rep l m) ((cs.drop off).take (rep l m).length):=by
 intro m
 induction m with
 | zero=>intro off xs _ _ _;rfl
 | succ m ihm=>
  intro off xs hl hx hz
  cases xs with
  | nil=>simp at hl
  | cons x xs=>
   simp only[List.map_cons,DataW.weightsAll,List.all_append,ji0] at hz
   have h1:=ih _ _ (hx 0 (by omega)) hz.1 (fun v hv=>hs v (jjQ (jjR hv)))
   have h2:=ihm (off+l.length) xs (by simpa using hl) (fun i hi=>by
    have:=hx (i+1) (by omega)
    rw[ji7,Nat.one_mul,Nat.add_comm (i*l.length),← Nat.add_assoc] at this
    exact this) hz.2
   rw[Nat.zero_mul,ji9] at h1
   rw[rep,jjL,List.take_add,List.drop_drop]
   exact h1.app h2
theorem leaves_ok:∀ (f:Nat) (n:Nat) (t:TypeId) (ls:List Lf) (cs:List Value) (x:DataW H×List MemPlace),leaves P f t=some ls→DataW.trod enc P w base spare held n t cs=some x →
  (x.1.weights P t).all (· ≤ reachBytes)=true→(∀ v∈cs,jfG v)→leavesOk w ls cs:=by
 intro f
 induction f with
 | zero=>intro n t ls cs x h;simp[leaves] at h
 | succ f ih=>
  intro n t ls cs x h hd hz hs
  unfold leaves at h
  split at h
  ·rename_i ht
   cases h
   obtain⟨b,rfl,_⟩:=DataW.trod_bool ht hd
   exact⟨_,[],rfl,⟨b,rfl⟩,rfl⟩
  ·rename_i k ht
   cases h
   obtain⟨n,rfl,_,hwf⟩:=DataW.trod_int ht hd
   exact⟨_,[],rfl,⟨n,rfl,inR_wf hwf⟩,rfl⟩
  ·rename_i ht
   cases h
   obtain⟨s,rfl,hx,hwf⟩:=DataW.trod_string ht hd
   subst hx
   have hr:reachBytes≤281474976710656:=by decide
   refine⟨_,[],rfl,⟨s.data.toList,rfl,?_⟩,rfl⟩
   simp only[DataW.weights,ht,List.all_cons,List.all_nil,Bool.and_true,decide_eq_true_eq] at hz
   omega
  ·rename_i e ht
   split at h
   ·rename_i k he
    split at h
    ·rename_i hc
     cases h
     exact leaf_ints ht he hc.1 hc.2 hd hz hs
    ·cases h
   ·rename_i fs he
    split at h
    ·rename_i l hl
     split at h
     ·rename_i l0 h0
      split at h
      ·rename_i hc
       cases h
       exact leaf_recs ht he hl h0 hc.1 hc.2 hd hz hs
      ·cases h
     ·cases h
    ·cases h
   ·cases h
  ·rename_i fs ht
   cases hg:jcV P (leaves P f) fs.toList 0 with
   | none=>rw[hg] at h;cases h
   | some l=>
    rw[hg] at h
    simp only[Option.bind_some] at h
    split at h
    case isFalse=>cases h
    case isTrue hc=>
     cases h
     obtain⟨xs,m,_,rfl,hcl,hxl,hx⟩:=DataW.trod_struct ht hd
     simp only[DataW.weights,ht] at hz
     have:=jf5 (P:=P) (enc:=enc) (base:=base) (spare:=spare) (held:=held) (n:=m) (fun t ls cs x h1 h2 h3 h4=>ih m t ls cs x h1 h2 h3 h4) hs fs.toList 0 _ xs hg (by simpa using hxl) (fun i f hf=>hx i f (by simpa using hf)) hz
     rw[jj1,jjW (by omega)] at this
     exact this
  ·rename_i m e ht
   cases hg:leaves P f e with
   | none=>rw[hg] at h;cases h
   | some l=>
    rw[hg] at h
    simp only[Option.bind_some] at h
    split at h
    case isFalse=>cases h
    case isTrue hc=>
     cases h
     obtain⟨xs,m',_,rfl,hcl,hxl,hx⟩:=DataW.trod_array ht hd
     simp only[DataW.weights,ht] at hz
     have:=leavesA_ok (P:=P) (enc:=enc) (base:=base) (spare:=spare) (held:=held) (n:=m') (fun cs x h2 h3 h4=>ih m' e l cs x hg h2 h3 h4) hs m 0 xs hxl (fun i hi=>by
      have:=hx i hi
      rw[hc.1] at this
      rw[ji8]
      exact this) hz
     rw[jj1,jjW (by omega)] at this
     exact this
  ·cases h
theorem read_arg {r:Reach}{b0 f:Nat}{t:TypeId}{v:Value}{d:DataW H}{ps:List MemPlace}{ls:List Lf}(hl:leaves P f t=some ls)(hv:Value.okWide P w r b0 t v)(hd:DataW.Trod enc P w base spare held t v d ps)
  (hz:(d.weights P t).all (· ≤ reachBytes)=true):leavesOk w ls v.cells.toList:=by
 obtain⟨n,hn⟩:=hd
 exact leaves_ok f n t ls _ _ hl hn hz (spotOk_of hv)
end
def jA (P:Program)(f:FuncId)(fn:Func)(s:ChangeSpec)(c:OpenClaim):Bool:=c.wf (OpenSpec.ofChange s) && laidOutB P && mapsRowed P && fn.params.all (P.readableRec ·) && namedTie P c.named s.vars && (c.stops == []) && (P.stops == []) && (c.knobs == []) && (P.stopKnobs == [])
def jB (P:Program)(f:FuncId)(fn:Func)(s:ChangeSpec)(c:OpenClaim):Bool:=(c.inPlace == P.inPlace f)
def jC (P:Program)(f:FuncId)(fn:Func)(s:ChangeSpec)(c:OpenClaim):Bool:=(c.unfollowed == P.unfollowed f)
def jD (P:Program)(f:FuncId)(fn:Func)(s:ChangeSpec)(c:OpenClaim):Bool:=(c.recurses == P.recurses f)
def jE (P:Program)(f:FuncId)(fn:Func)(s:ChangeSpec)(c:OpenClaim):Bool:=(c.named == P.varsNamed f)
def jF (P:Program)(f:FuncId)(fn:Func)(s:ChangeSpec)(c:OpenClaim):Bool:=(c.maps == (fn.params.toList++s.plain.varTypes P).any (P.mapsRec ·)) && (c.ifaces == (fn.params.toList++s.plain.varTypes P).any (P.ifacesRec ·)) && (c.mapsOut == P.mapsAmong fn.resultTypes.toList) && (c.loops == (fn.params.toList++s.plain.varTypes P).any (P.loopsFrom ·)) && (c.wideKeys == (fn.params.toList++s.plain.varTypes P++fn.resultTypes.toList).any (P.wideKeysFrom ·)) && s.vars.all (P.varReadable ·) && fn.resultTypes.all (fun t=>P.readableRec t && decide (t<P.types.size)) && (c.ifacesOut == fn.resultTypes.toList.any (P.ifacesRec ·)) && (c.loopsOut == fn.resultTypes.toList.any (P.loopsFrom ·)) && (c.plainKeys == P.plainKeys) && c.shortTexts.isNone && P.stopsHeard && P.mayEnter
def jG (P:Program)(f:FuncId)(fn:Func)(s:ChangeSpec)(c:OpenClaim):Bool:=(c.lifted == P.liftsFinal)
def jH (P:Program)(f:FuncId)(fn:Func)(s:ChangeSpec)(c:OpenClaim):Bool:=(P.make == some c.make)
def jI (P:Program)(f:FuncId)(fn:Func)(s:ChangeSpec)(c:OpenClaim):Bool:=(c.kinds == (if c.domain.isEmpty then [] else fn.params.toList.map fun t=>match P.underlying t with|some (.int k)=>some k|_=>none)) && (c.pinned == c.pinnedBy) && (c.veiled == (fn.params.toList++s.plain.varTypes P++fn.resultTypes.toList).any (P.veiledRec ·)) && c.veiledFits P fn.params.toList (fn.params.toList++s.plain.varTypes P++fn.resultTypes.toList)
theorem joined_of {P:Program}{f:FuncId}{fn:Func}{s:ChangeSpec}{c:OpenClaim}(ha:jA P f fn s c=true)(hb:jB P f fn s c=true)(hc:jC P f fn s c=true)(hd:jD P f fn s c=true)(he:jE P f fn s c=true)(hf:jF P f fn s c=true)(hg:jG P f fn s c=true)(hh:jH P f fn s c=true)(hi:jI P f fn s c=true):joinedFacts P f fn s c=true:=by
 unfold jA jB jC jD jE jF jG jH jI at *
 simp only[ji0] at *
 obtain⟨⟨⟨⟨⟨⟨⟨⟨k0,k1⟩,k2⟩,k3⟩,k4⟩,k5⟩,k6⟩,k7⟩,k8⟩:=ha
 have k9:=hb
 have k10:=hc
 have k11:=hd
 have k12:=he
 obtain⟨⟨⟨⟨⟨⟨⟨⟨⟨⟨⟨⟨k13,k14⟩,k15⟩,k16⟩,k17⟩,k18⟩,k19⟩,k20⟩,k21⟩,k22⟩,k23⟩,k24⟩,k25⟩:=hf
 have k26:=hg
 have k27:=hh
 obtain⟨⟨⟨k28,k29⟩,k30⟩,k31⟩:=hi
 unfold joinedFacts
 simp only[ji0]
 exact⟨⟨⟨⟨⟨⟨⟨⟨⟨⟨⟨⟨⟨⟨⟨⟨⟨⟨⟨⟨⟨⟨⟨⟨⟨⟨⟨⟨⟨⟨⟨k0,k1⟩,k2⟩,k3⟩,k4⟩,k5⟩,k6⟩,k7⟩,k8⟩,k9⟩,k10⟩,k11⟩,k12⟩,k13⟩,k14⟩,k15⟩,k16⟩,k17⟩,k18⟩,k19⟩,k20⟩,k21⟩,k22⟩,k23⟩,k24⟩,k25⟩,k26⟩,k27⟩,k28⟩,k29⟩,k30⟩,k31⟩
end Go.V
end
