/- What functions of the program answer at given values, part 14. Conditions: those that each theorem names. -/
import Derived.Test.YtpkdedncgclblaaGreatDoorProgramChecksH13
import Derived.Test.YtpkdedncgclblaaGreatDoorProgramChecksH11
import Derived.Test.YtpkdedncgclblaaGreatDoorProgramChecksH10
import Derived.Test.YtpkdedncgclblaaGreatDoorProgramChecksH6
import Derived.Shelf.RegionOpenPlain
import Derived.Deep.LoopGhost
import Derived.Deep.RegionLaw
import Derived.Lib.Walk
import Derived.Lib.SliceRun
import Derived.Lib.JoinLaws
import Derived.Lib.AppendZeros
import Derived.Laws.IdiomCopy
import Derived.Lib.AppendZerosOnto
import Derived.Lib.Overlaps
import Derived.Laws.Externs
set_option linter.unusedSimpArgs false
set_option linter.unusedVariables false
set_option maxHeartbeats 8000000
set_option maxRecDepth 100000
section
namespace Go.Proofs.YtpkdedncgclblaaGreatDoor
open Go Go.V Go.Nb
def prB (r:Int×Int×Int):(Int×Int)×Int:=((r.1,r.2.1),r.2.2)
def opB (c:Int):List (Int×Int)→(Int×Int)×Int
 | [u]=>if c=8 then prB (mk (0-u.2) (0-u.1)) else if c=9 then prB (mk (max (max u.1 (0-u.2)) 0) (max (0-u.1) u.2)) else prB (min (max u.1 0) 1000000000000,min (max u.2 0) 1000000000000,0)
 | [u,v]=>if c=3 then prB (mk (u.1+v.1) (u.2+v.2)) else if c=4 then prB (mk (u.1-v.2) (u.2-v.1)) else if c=5 then prB (mulR u.1 u.2 v.1 v.2) else if c=6 then prB (min u.1 v.1,min u.2 v.2,0) else prB (max u.1 v.1,max u.2 v.2,0)
 | [u,v,w]=>if 0≤w.1 then (u,0) else if w.2<0 then (v,0) else prB (min u.1 v.1,max u.2 v.2,0)
 | _=>((0,0),0)
def mB:Mc (Int×Int):=⟨fun n=>(n*1000000,n*1000000),opB⟩
abbrev okB (b:Int×Int):Prop:=vb b.1 b.2=true
def goodB (r:Int×Int×Int):Prop:=(r.2.2=0→vb r.1 r.2.1=true)∧0≤r.2.2∧r.2.2<1000
theorem jeB {a b:Int}(h:vb a b=true):goodB (a,b,0):=⟨fun _=>h,Int.le_refl _,by show (0:Int)<1000;decide⟩
theorem jeC (a b:Int):goodB (mk a b):=by
 unfold mk
 split
 ·rename_i h;exact jeB h
 ·exact⟨fun h=>absurd h (by decide),by decide,by decide⟩
theorem cmin_B {u v:Int×Int}(hu:okB u)(hv:okB v):Cl 103 [bA u.1 u.2,bA v.1 v.2] (bD (min u.1 v.1,min u.2 v.2,0)):=by
 have c:=min_b u.1 u.2 v.1 v.2
 rw[if_pos ⟨hu,hv⟩] at c
 have a:=jaA.1 hu
 have b:=jaA.1 hv
 split at c
 ·rename_i g;rw[show min u.1 v.1=u.1 by omega,show min u.2 v.2=u.2 by omega];exact c
 ·rw[if_neg (by omega)] at c;exact c
theorem cmax_B {u v:Int×Int}(hu:okB u)(hv:okB v):Cl 104 [bA u.1 u.2,bA v.1 v.2] (bD (max u.1 v.1,max u.2 v.2,0)):=by
 have c:=max_b u.1 u.2 v.1 v.2
 rw[if_pos ⟨hu,hv⟩] at c
 have a:=jaA.1 hu
 have b:=jaA.1 hv
 split at c
 ·rename_i g;rw[show max u.1 v.1=u.1 by omega,show max u.2 v.2=u.2 by omega];exact c
 ·rw[if_neg (by omega)] at c;exact c
theorem chull_B {u v:Int×Int}(hu:okB u)(hv:okB v):Cl 109 [bA u.1 u.2,bA v.1 v.2] (bD (min u.1 v.1,max u.2 v.2,0)):=by
 have c:=hull_b u.1 u.2 v.1 v.2
 rw[if_pos ⟨hu,hv⟩] at c
 have a:=jaA.1 hu
 have b:=jaA.1 hv
 split at c
 ·rename_i g;rw[show min u.1 v.1=u.1 by omega,show max u.2 v.2=u.2 by omega];exact c
 ·rw[if_neg (by omega)] at c;exact c
def hpE_B (x:List (Int×Int)):List (Int×Int)→Hp
 | []=>hpB0 x
 | q::l=>hpB x (q::l).length (bcl (q::l))
theorem jcj (x l:List (Int×Int))(q:Int×Int):hpE_B x (l++[q])=hpB x (l.length+1) (bcl l++[.int .i64 q.1,.int .i64 q.2]):=by
 have e:hpE_B x (l++[q])=hpB x (l++[q]).length (bcl (l++[q])):=by cases l<;>rfl
 rw[e,jaN,jin]
 rfl
theorem jfZ (x l t:List (Int×Int))(h:0<t.length):hpE_B x (l++t)=hpB x (l.length+t.length) (bcl (l++t)):=by
 rw[← jin]
 cases l with
 | nil=>cases t with
  | nil=>simp at h
  | cons q t=>rfl
 | cons q l=>rfl
theorem jbE {l m:List (Int×Int)}{P:Int×Int→Prop}(h:∀ q∈l++m,P q):(∀ q∈l,P q) ∧ ∀ q∈m,P q:=⟨fun q hq=>h q (List.mem_append_left _ hq),fun q hq=>h q (List.mem_append_right _ hq)⟩
theorem jcT {l:List (Int×Int)}{P:Int×Int→Prop}{q:Int×Int}(h:∀ q∈l,P q)(hq:P q):∀ r∈l++[q],P r:=fun r hr=>by
 rcases List.mem_append.1 hr with h1|h1
 ·exact h r h1
 ·rw[List.mem_singleton.1 h1];exact hq
abbrev rndB (p:List (Int×Int))(k:Nat)(H:Hp)(K:K3):Prop:=RunC Tryz.prog tb (inlN Tryz.prog tb 6) 42 ((jaw (Tryz.f52.body.getD .skip)).getD .skip) (fun _ _ _ _ _=>False) 103 (slM p k) H K
section
variable {p : List (Int × Int)} {x l : List (Int × Int)} {k : Nat} {a : Int} {K : K3}
theorem st_B {c : Int} {t : List (Int × Int)} {r : Int × Int × Int} {m : List (Int × Int)} (hl : l = m ++ t) (hlen : 0 < t.length) (h1 : c ≠ 1) (h2 : c ≠ 2) (h3 : c ≠ 11) (ht : (tkn c).toNat = t.length) (hr : opB c t = prB r) (gd : goodB r)
    (rd : ∀ (hok : r.2.2 = 0 → ∀ L H, Wk 103 L H (slM p (k + 1)) (hpB x (m.length + 1) (bcl m ++ [.int .i64 r.1, .int .i64 r.2.1])) → K .normal L H)
      (hpan : r.2.2 ≠ 0 → ∀ L H, Wk 103 L H slE hpE → K (pnc r.2.2) L H), rndB p k (hpB x (m.length + t.length) (bcl (m ++ t))) K)
    (hok : ∀ l', stM mB x (c, a) l = .ok l' → (∀ q ∈ l', okB q) → ∀ L H, Wk 103 L H (slM p (k + 1)) (hpE_B x l') → K .normal L H)
    (hpan : ∀ e, (0 < e ∧ e < 1000) → stM mB x (c, a) l = .error e → ∀ L H, Wk 103 L H slE hpE → K (pnc e) L H) (okl : ∀ q ∈ l, okB q) : rndB p k (hpE_B x l) K := by
  subst hl
  have hs : stM mB x (c, a) (m ++ t) = putM m (prB r) := by rw [jfc mB x m t c a h1 h2 h3 ht, ← hr]; rfl
  rw [hs] at hok hpan
  rw [jfZ x m t hlen]
  refine rd (fun he L H w => ?_) (fun he L H w => ?_)
  · have e : putM m (prB r) = .ok (m ++ [(r.1, r.2.1)]) := by unfold putM prB; rw [if_pos he]
    rw [e] at hok
    refine hok (m ++ [(r.1, r.2.1)]) rfl (jcT (jbE okl).1 (gd.1 he)) L H ?_
    rw [jcj]; exact w
  · have e : putM m (prB r) = .error r.2.2 := by unfold putM prB; rw [if_neg he]
    rw [e] at hpan
    exact hpan r.2.2 (by have := gd.2; omega) rfl L H w
end
theorem step_B {p:List (Int×Int)}{x l:List (Int×Int)}{k:Nat}{s s':Int×Int}{K:K3}(hk:k<p.length)(hp:p.length≤40)(hs:svS x.length s (p.getD k (0,0))=some s')(hl:s.1=(l.length:Int))(h16:s.1≤16)(okx:∀ q∈x,okB q)(okl:∀ q∈l,okB q)
  (hok:∀ l',stM mB x (p.getD k (0,0)) l = .ok l'→(∀ q∈l',okB q) → ∀ L H,Wk 103 L H (slM p (k+1)) (hpE_B x l')→K .normal L H)
  (hpan:∀ e,(0<e∧e<1000)→stM mB x (p.getD k (0,0)) l = .error e → ∀ L H,Wk 103 L H slE hpE→K (pnc e) L H):rndB p k (hpE_B x l) K:=by
 obtain⟨c,a,hca⟩:∃ c a,p.getD k (0,0)=(c,a):=⟨_,_,rfl⟩
 rw[hca] at hs hok hpan
 unfold svS at hs
 split at hs
 case isFalse=>cases hs
 rename_i hc
 clear hs
 obtain⟨g1,g2,g3,g4,g5⟩:=hc
 dsimp only at g1 g2 g3 g4 g5
 unfold tkb at g1
 simp only[decide_eq_true_eq] at g1
 have hl16:l.length≤16:=by omega
 have cs:c=1∨c=2∨c=11∨c=3∨c=4∨c=5∨c=6∨c=7∨c=8∨c=9∨c=12∨c=10:=by omega
 have okd:∀ (y:List (Int×Int)) (n:Nat),n<y.length→(∀ q∈y,okB q)→okB (y.getD n (0,0)):=fun y n hn h=>by
  rw[jij,jim hn];exact h _ (List.getElem_mem hn)
 rcases cs with rfl|rfl|rfl|h2
 ·have ha:0≤a∧a<x.length:=by simp[loA,hiA] at g3 g4;omega
  have st:stM mB x (1,a) l = .ok (l++[x.getD a.toNat (0,0)]):=rfl
  have w1:∀ L H,Wk 103 L H (slM p (k+1)) (hpE_B x (l++[x.getD a.toNat (0,0)]))→K .normal L H:=fun L H w=>hok _ st (jcT okl (okd x a.toNat (by omega) okx)) L H w
  rw[jcj] at w1
  cases l with
  | nil=>exact rdB_in0 p x k a hk hp hca ha w1
  | cons q l=>exact rdB_in1 p x (q::l) k a hk hp hca ha hl16 w1
 ·have ha : -1000000000≤a∧a≤1000000000:=by simp[loA,hiA] at g3 g4;omega
  have st:stM mB x (2,a) l = .ok (l++[(a*1000000,a*1000000)]):=rfl
  have w1:∀ L H,Wk 103 L H (slM p (k+1)) (hpE_B x (l++[(a*1000000,a*1000000)]))→K .normal L H:=fun L H w=>hok _ st (jcT okl (jaA.2 (by dsimp only;omega))) L H w
  have nu:=numB_c a ha
  rw[jcj] at w1
  cases l with
  | nil=>exact rdB_num0 p x _ _ k a hk hp hca nu w1
  | cons q l=>exact rdB_num1 p x (q::l) _ _ k a hk hp hca nu hl16 w1
 ·have ha:0≤a∧a≤s.1-1:=by simp[loA,hiA] at g3 g4;omega
  obtain⟨j,hj⟩:∃ j,j=l.length-1-a.toNat:=⟨_,rfl⟩
  have hjl:j<l.length:=by omega
  have st:stM mB x (11,a) l = .ok (l++[l.getD j (0,0)]):=by rw[hj];rfl
  have w1:∀ L H,Wk 103 L H (slM p (k+1)) (hpE_B x (l++[l.getD j (0,0)]))→K .normal L H:=fun L H w=>hok _ st (jcT okl (okd l j hjl okl)) L H w
  rw[jcj] at w1
  have hd:∀ K,dropK (bcl l) (j*2) K=K (.int .i64 (l.getD j (0,0)).1 :: .int .i64 (l.getD j (0,0)).2::bcl (l.drop (j+1))):=fun K=>by
   have e:l=l.take j++(l.getD j (0,0)::l.drop (j+1)):=by
    rw[jij,jim hjl]
    simp
   have d:=jaQ (l.getD j (0,0)::l.drop (j+1)) K (l.take j)
   rw[← e,jio,Nat.min_eq_left (by omega)] at d
   exact d
  have r:=rdB_copy p x l (l.getD j (0,0)) _ j k a hk hp hca hl16 (by omega) hjl hd w1
  cases l with
  | nil=>simp at hjl
  | cons q l=>exact r
 ·rcases h2 with rfl|rfl|rfl|rfl|rfl|h2
  ·obtain⟨m,u,v,rfl⟩:=snoc2 l (by have:tkn 3=2:=rfl;omega)
   have o2:=(jbE okl).2
   have hu:=o2 u (by simp)
   have hv:=o2 v (by simp)
   have cf:=add_b u.1 u.2 v.1 v.2
   rw[if_pos ⟨hu,hv⟩] at cf
   have gd:=jeC (u.1+v.1) (u.2+v.2)
   exact st_B (a:=a) rfl (Nat.succ_pos _) (by decide) (by decide) (by decide) rfl rfl gd (fun h1 h2=>rdB_add p x m u v k a _ _ _ hk hp hca (by simp at hl16;omega) cf h1 h2) hok hpan okl
  ·obtain⟨m,u,v,rfl⟩:=snoc2 l (by have:tkn 4=2:=rfl;omega)
   have o2:=(jbE okl).2
   have hu:=o2 u (by simp)
   have hv:=o2 v (by simp)
   have cf:=sub_b u.1 u.2 v.1 v.2
   rw[if_pos ⟨hu,hv⟩] at cf
   have gd:=jeC (u.1-v.2) (u.2-v.1)
   exact st_B (a:=a) rfl (Nat.succ_pos _) (by decide) (by decide) (by decide) rfl rfl gd (fun h1 h2=>rdB_sub p x m u v k a _ _ _ hk hp hca (by simp at hl16;omega) cf h1 h2) hok hpan okl
  ·obtain⟨m,u,v,rfl⟩:=snoc2 l (by have:tkn 5=2:=rfl;omega)
   have o2:=(jbE okl).2
   have hu:=o2 u (by simp)
   have hv:=o2 v (by simp)
   have cf:=mul_b u.1 u.2 v.1 v.2
   rw[if_pos ⟨hu,hv⟩] at cf
   have gd:=jeC (mn4 (flo (u.1*v.1) 1000000000000) (flo (u.1*v.2) 1000000000000) (flo (u.2*v.1) 1000000000000) (flo (u.2*v.2) 1000000000000)) (mx4 (cei (u.1*v.1) 1000000000000) (cei (u.1*v.2) 1000000000000) (cei (u.2*v.1) 1000000000000) (cei (u.2*v.2) 1000000000000))
   exact st_B (a:=a) rfl (Nat.succ_pos _) (by decide) (by decide) (by decide) rfl rfl gd (fun h1 h2=>rdB_mul p x m u v k a _ _ _ hk hp hca (by simp at hl16;omega) cf h1 h2) hok hpan okl
  ·obtain⟨m,u,v,rfl⟩:=snoc2 l (by have:tkn 6=2:=rfl;omega)
   have o2:=(jbE okl).2
   have hu:=o2 u (by simp)
   have hv:=o2 v (by simp)
   have cf:=cmin_B hu hv
   have gd:goodB (min u.1 v.1,min u.2 v.2,0):=jeB (jaA.2 (by unfold okB at hu hv;rw[jaA] at hu hv;omega))
   exact st_B (a:=a) rfl (Nat.succ_pos _) (by decide) (by decide) (by decide) rfl rfl gd (fun h1 h2=>rdB_min p x m u v k a _ _ _ hk hp hca (by simp at hl16;omega) cf h1 h2) hok hpan okl
  ·obtain⟨m,u,v,rfl⟩:=snoc2 l (by have:tkn 7=2:=rfl;omega)
   have o2:=(jbE okl).2
   have hu:=o2 u (by simp)
   have hv:=o2 v (by simp)
   have cf:=cmax_B hu hv
   have gd:goodB (max u.1 v.1,max u.2 v.2,0):=jeB (jaA.2 (by unfold okB at hu hv;rw[jaA] at hu hv;omega))
   exact st_B (a:=a) rfl (Nat.succ_pos _) (by decide) (by decide) (by decide) rfl rfl gd (fun h1 h2=>rdB_max p x m u v k a _ _ _ hk hp hca (by simp at hl16;omega) cf h1 h2) hok hpan okl
  ·rcases h2 with rfl|rfl|rfl|rfl
   ·obtain⟨m,u,rfl⟩:=snoc1 l (by have:tkn 8=1:=rfl;omega)
    have hu:=(jbE okl).2 u (by simp)
    have cf:=neg_b u.1 u.2
    rw[if_pos hu] at cf
    have gd:=jeC (0-u.2) (0-u.1)
    exact st_B (a:=a) rfl (Nat.succ_pos _) (by decide) (by decide) (by decide) rfl rfl gd (fun h1 h2=>rdB_neg p x m u k a _ _ _ hk hp hca (by simp at hl16;omega) cf h1 h2) hok hpan okl
   ·obtain⟨m,u,rfl⟩:=snoc1 l (by have:tkn 9=1:=rfl;omega)
    have hu:=(jbE okl).2 u (by simp)
    have cf:=abs_b u.1 u.2
    rw[if_pos hu] at cf
    have gd:=jeC (max (max u.1 (0-u.2)) 0) (max (0-u.1) u.2)
    exact st_B (a:=a) rfl (Nat.succ_pos _) (by decide) (by decide) (by decide) rfl rfl gd (fun h1 h2=>rdB_abs p x m u k a _ _ _ hk hp hca (by simp at hl16;omega) cf h1 h2) hok hpan okl
   ·obtain⟨m,u,rfl⟩:=snoc1 l (by have:tkn 12=1:=rfl;omega)
    have hu:=(jbE okl).2 u (by simp)
    have cf:=clB_c u.1 u.2 hu
    have gd:goodB (min (max u.1 0) 1000000000000,min (max u.2 0) 1000000000000,0):=jeB (jaA.2 (by unfold okB at hu;rw[jaA] at hu;omega))
    exact st_B (a:=a) rfl (Nat.succ_pos _) (by decide) (by decide) (by decide) rfl rfl gd (fun h1 h2=>rdB_clamp p x m u k a _ _ _ hk hp hca (by simp at hl16;omega) cf h1 h2) hok hpan okl
   ·obtain⟨m,u,v,w,rfl⟩:=snoc3 l (by have:tkn 10=3:=rfl;omega)
    have o3:=(jbE okl).2
    have hu:=o3 u (by simp)
    have hv:=o3 v (by simp)
    by_cases hs:0≤w.1
    ·have st:stM mB x (10,a) (m++[u,v,w]) = .ok (m++[u]):=by rw[jfc mB x m [u,v,w] 10 a (by decide) (by decide) (by decide) rfl];show putM m (opB 10 [u,v,w])=_;rw[show opB 10 [u,v,w]=(u,0) from if_pos hs];rfl
     have w1:∀ L H,Wk 103 L H (slM p (k+1)) (hpE_B x (m++[u]))→K .normal L H:=fun L H w'=>hok _ st (jcT (jbE okl).1 hu) L H w'
     rw[jcj] at w1
     rw[jfZ x m [u,v,w] (by simp)]
     exact rdB_pick0 p x m u v w k a hk hp hca (by simp at hl16;omega) (decide_eq_true hs) w1
    ·by_cases ht:w.2<0
     ·have st:stM mB x (10,a) (m++[u,v,w]) = .ok (m++[v]):=by rw[jfc mB x m [u,v,w] 10 a (by decide) (by decide) (by decide) rfl];show putM m (opB 10 [u,v,w])=_;rw[show opB 10 [u,v,w]=(v,0) from (if_neg hs).trans (if_pos ht)];rfl
      have w1:∀ L H,Wk 103 L H (slM p (k+1)) (hpE_B x (m++[v]))→K .normal L H:=fun L H w'=>hok _ st (jcT (jbE okl).1 hv) L H w'
      rw[jcj] at w1
      rw[jfZ x m [u,v,w] (by simp)]
      exact rdB_pick1 p x m u v w k a hk hp hca (by simp at hl16;omega) (decide_eq_false hs) (decide_eq_true ht) w1
     ·have gd:goodB (min u.1 v.1,max u.2 v.2,0):=jeB (jaA.2 (by unfold okB at hu hv;rw[jaA] at hu hv;omega))
      have cf:=chull_B hu hv
      exact st_B (a:=a) rfl (Nat.succ_pos _) (by decide) (by decide) (by decide) rfl ((if_neg hs).trans (if_neg ht)) gd (fun h1 h2=>rdB_pick2 p x m u v w k a _ _ _ hk hp hca (by simp at hl16;omega) cf (decide_eq_false hs) (decide_eq_false ht) h1 h2) hok hpan okl
theorem lpw {off : Nat} {L : Sl} {H : Hp} {body : Sl → Hp → K3 → Prop} {K : K3}
    (h : ∃ (α : Type) (inv : α → Prop) (sl : α → Sl) (hp : α → Hp) (μ : α → Nat), (∃ x, inv x ∧ Wk off L H (sl x) (hp x)) ∧
    ∀ x, inv x → body (sl x) (hp x) (nrm (fun L' H' => ∃ y, inv y ∧ μ y < μ x ∧ Wk off L' H' (sl y) (hp y)) (fun e L' H' => ∃ L'' H'', Wk off L' H' L'' H'' ∧ K e L'' H''))) : Lp off L H body K :=
  ⟨_, fun _ _ _ h => h, h⟩
theorem fcl_pubL (l:List Rat)(i:Nat)(c:Chunk):pubL i c (fcl l)=fcl l:=by
 induction l with
 | nil=>rfl
 | cons q m ih=>simp only[fcl,pubL,pubD,ih]
theorem fcl_pub (l:List Rat)(i:Nat)(c:Chunk)(K:List D→Prop):pubLK i c (fcl l) K=K (fcl l):=by rw[jba,fcl_pubL]
theorem fcl_bsl (l:List Rat):bslOk (fcl l) 0 l.length 2=true:=by
 have e:∀ m:List Rat,D.pureL (fcl m)=true:=fun m=>by
  induction m with
  | nil=>rfl
  | cons q m ih=>simp only[fcl,D.pureL,D.pure,ih]
 unfold bslOk
 rw[e]
 dsimp only
 rw[jig,jbk];omega
theorem fcl_pubH (x l:List Rat)(K:Hp→Prop):jcA 145 (.box (fcl l)) (hpF x l.length (fcl l)) K=K [(58,.box [sl2 l.length (fcl l),inF x,.fn 76 [] [],.mapr 44]),(145,.box (fcl l)),(44,.mp esF),(114,.mp stepsF),(64,.box [.nil]),(65,.box [.int .i64 0])]:=by
 have e:pubHp 145 (.box (fcl l)) (hpF x l.length (fcl l))=[(58,.box [sl2 l.length (fcl l),inF x,.fn 76 [] [],.mapr 44]),(145,.box (fcl l)),(44,.mp esF),(114,.mp stepsF),(64,.box [.nil]),(65,.box [.int .i64 0])]:=by
  have h:pubD 145 (.box (fcl l)) (.bsl 145 0 l.length 2)=sl2 l.length (fcl l):=by
   show (match bslOk (fcl l) 0 l.length 2 with|true=>D.slf 2 l.length (fun q=>((fcl l).drop (0+q*2)).take 2)|false => .any)=_
   rw[fcl_bsl]
   simp only[jhQ]
  have g2:=fcl_pubL l 145 (.box (fcl l))
  show [(58,Chunk.box (pubD 145 (.box (fcl l)) (.bsl 145 0 l.length 2)::_)),(145,Chunk.box (pubL 145 (.box (fcl l)) (fcl l))),_,_,_,_]=_
  rw[h,g2]
  rfl
 rw[jcE,e]
theorem jgj (i:Nat)(c:Chunk)(K:List D→Prop):pubLK i c [] K=K []:=by rw[jba];rfl
theorem fcheck_f {q:Rat}(h:okF q=true):Cl 47 [.agg [.str (decZ q.num),.str (dec q.den)]] (.int .i64 0):=by
 have o:=jer h
 have b:=h
 unfold okF at b
 simp only[jhK,decide_eq_true_eq] at b
 have c:=fcheck_c (decZ q.num) (dec q.den) (by unfold decZ;split<;>(try simp only[jiv])<;>omega) (by omega)
 rw[o.1] at c
 exact c
theorem runF_c (p:List (Int×Int))(x:List Rat)(o d:Int)(okx:∀ q∈x,okF q=true)(hs:surv p x.length o=some d) :
  Cl 20 [opsD p,inF x,.int .i64 o] (match rnM mF x p [] with | .ok l => .tup [sl2 l.length (fcl l),.int .i64 0] | .error e => .tup [.nil,.int .i64 e]):=by
 have pc:Cl 25 [opsD p,.int .i64 x.length,.int .i64 o] (.int .i64 0):=by
  have c:=jfK p x.length o
  rw[hs] at c
  exact c
 have hb:1≤(x.length:Int)∧(x.length:Int)≤4∧1≤o∧o≤4∧p.length≤40∧svL x.length (0,0) p=some (o,d):=by
  unfold surv at hs
  split at hs
  case isFalse=>cases hs
  rename_i h
  refine⟨h.1,h.2.1,h.2.2.1,h.2.2.2.1,h.2.2.2.2,?_⟩
  split at hs
  case h_2=>cases hs
  rename_i e
  split at hs
  case isFalse=>cases hs
  rename_i n d' e'
  cases hs
  rw[e,e']
 have hx4:x.length≤4:=by omega
 have hp:=hb.2.2.2.2.1
 have fc:∀ k:Nat,k<x.length→Cl 47 [.agg [.str (decZ (x.getD k 0).num),.str (dec (x.getD k 0).den)]] (.int .i64 0):=fun k hk=>fcheck_f (okx _ (by rw[jij,jim hk];exact List.getElem_mem hk))
 have t3:=jga 79
 have t4:=jga 80
 have t5:=jga 81
 have t6:=jga 82
 have t7:=jga 83
 have o8:=oneF_c 85
 have o9:=oneF_c 86
 have o12:=oneF_c 89
 refine jbm (jdG tbOk (inlX_ok tbOk 6)) (jaz Tryz.func20 rfl rfl) ⟨_,_,⟨Tryz.func20,rfl,rfl,jhL rfl⟩,?_⟩
 refine V.r1 @jhR pc ?_
 refine jaj ((0:Nat)) (fun k=>k≤x.length) (fun k=>x.length-k) (fun k=>[(22,.int .i64 k)]) (fun k=>[]) ?_ ?_ ?_
 ·exact V.wk
 ·exact jhM _
 ·intro k hk
  have hkc:((k:Int)+1)=((k+1:Nat):Int):=by omega
  (conv=>whnf)
  refine V.st ?_
  refine V.br (fun hq=>?_) (fun hq=>?_)
  ·simp only[decide_eq_true_eq] at hq
   have f1:=fc k (by omega)
   refine V.r1 (V.a2 @jhR hkc) f1 ?_
   exact⟨k+1,by omega,by omega,V.wk⟩
  ·refine V.r0 @jhR ?_
   refine .inl ?_
   (conv=>whnf)
   refine⟨0,Or.inl ⟨_,_,⟨Tryz.func48,rfl,rfl,jhL rfl⟩,?_⟩⟩
   refine V.r8 @jhR t3 t4 t5 t6 t7 o8 o9 o12 ?_
   refine .inl ?_
   (conv=>whnf)
   refine⟨21,Or.inr ⟨_,_,⟨Tryz.func49,rfl,rfl,jhL rfl⟩,_,_,_,_,_,true,_,_,_,_,rfl,⟨rfl,rfl,rfl,⟨_,rfl⟩,rfl,rfl⟩,?_⟩⟩
   (conv=>whnf)
   refine V.st ?_
   refine DefK.mk 64 65 rfl rfl (by decide) (by decide) (by decide) (by decide) idle_F ?_
   refine V.r0 @jhR ?_
   refine lpw ⟨Nat×List Rat,fun s=>s.1≤p.length∧rnM mF x (p.take s.1) [] = .ok s.2∧(∃ d,svL x.length (0,0) (p.take s.1)=some ((s.2.length:Int),d))∧(∀ q∈s.2,okF q=true),fun s=>slM p s.1,fun s=>hpA x s.2,fun s=>p.length-s.1,⟨(0,[]),⟨jhM _,rfl,⟨0,rfl⟩,fun _ h=>absurd h List.not_mem_nil⟩,V.wk⟩,?_⟩
   rintro⟨k2,l⟩ ⟨hk2,hr,⟨d2,hd2⟩,okl⟩
   dsimp only at hk2 hr hd2 okl ⊢
   have hbd:=svL_bd hd2 (by simp)
   dsimp only at hbd
   by_cases hke:k2=p.length
   ·subst hke
    rw[jiC] at hr hd2
    rw[hr]
    have hlo:(l.length:Int)=o:=by rw[hd2] at hb;have:=hb.2.2.2.2.2;cases this;rfl
    have el:hpA x l=hpF x l.length (fcl l):=by
     cases l with
     | nil=>simp at hlo;omega
     | cons q l=>rfl
    rw[el]
    have pg:=jaV l
    have pb:=fcl_pub l
    have bo:=fcl_bsl l
    dsimp only
    (conv=>whnf)
    (try simp only[decide_eq_true,jhR])
    repeat ((first|refine V.s1 ?_|((try ((with_reducible refine .ext ?_);(conv=>whnf);(try simp only[decide_eq_true,jhR])));(with_reducible refine jaa (r:=?_) ?_ ?_);rotate_left;(focus (first|fail));(conv=>whnf))|(((simp only[pg];(conv=>whnf)));(conv=>whnf)));(try simp only[decide_eq_true,jhR]))
    refine⟨_,_,Wk.refl,?_⟩
    (conv=>whnf)
    (try simp only[jhR])
    repeat ((first|refine V.s1 ?_|((try ((with_reducible refine .ext ?_);(conv=>whnf);(try simp only[jhR])));(with_reducible refine jaa (r:=?_) ?_ ?_);rotate_left;(focus (first|fail));(conv=>whnf))|(((simp only[pg];(conv=>whnf)));(conv=>whnf)));(try simp only[jhR]))
    rewrite [bo]
    dsimp only
    rewrite [jgj]
    rewrite [fcl_pubH]
    (conv=>whnf)
    rewrite [bo]
    (conv=>whnf)
    refine Fin.of ?_
    simp only[jhQ]
   ·have hkl:k2<p.length:=by omega
    have hsn:=jfy x.length p k2 hkl
    rw[hd2] at hsn
    dsimp only at hsn
    have rs:=rnM_snoc mF x p k2 hkl
    rw[hr] at rs
    dsimp only at rs
    cases hss:svS x.length ((l.length:Int),d2) (p.getD k2 (0,0)) with
    | none=>rw[hss] at hsn;rw[jdX hsn] at hb;cases hb.2.2.2.2.2
    | some s'=>
     show rndF p k2 (hpA x l) _
     refine step_F hkl hp hss rfl hbd.2.1 okx okl ?_ ?_
     ·intro l' st okl' L H w
      exact⟨(k2+1,l'),⟨by dsimp only;omega,rs.trans st,⟨s'.2,by rw[hsn,hss];exact congrArg some (Prod.ext (stM_len hss rfl st) rfl)⟩,okl'⟩,by dsimp only;omega,w⟩
     ·intro e he st L H w
      refine⟨_,_,w,?_⟩
      rw[rnM_err (rs.trans st)]
      (conv=>whnf)
      refine CatchK.mk _ _ .nil (.int .i64 e) (catch_F e) (fun _ _=>by simp[Den]) (fun _ _=>by simp[Den,InR,V.lo,V.hi];omega) ?_
      refine V.r0 @jhR ?_
      exact Fin.of rfl
theorem bcl_pubL (l:List (Int×Int))(i:Nat)(c:Chunk):pubL i c (bcl l)=bcl l:=by
 induction l with
 | nil=>rfl
 | cons q m ih=>simp only[bcl,pubL,pubD,ih]
theorem jbo (l:List (Int×Int))(i:Nat)(c:Chunk)(K:List D→Prop):pubLK i c (bcl l) K=K (bcl l):=by rw[jba,bcl_pubL]
theorem jbF (l:List (Int×Int)):bslOk (bcl l) 0 l.length 2=true:=by
 have e:∀ m:List (Int×Int),D.pureL (bcl m)=true:=fun m=>by
  induction m with
  | nil=>rfl
  | cons q m ih=>simp only[bcl,D.pureL,D.pure,ih]
 unfold bslOk
 rw[e]
 dsimp only
 rw[jig,jaE];omega
theorem bcl_pubH (x l:List (Int×Int))(K:Hp→Prop):jcA 145 (.box (bcl l)) (hpB x l.length (bcl l)) K=K [(58,.box [sl2 l.length (bcl l),inB x,.fn 97 [] [],.mapr 44]),(145,.box (bcl l)),(44,.mp esB),(114,.mp stepsB),(64,.box [.nil]),(65,.box [.int .i64 0])]:=by
 have e:pubHp 145 (.box (bcl l)) (hpB x l.length (bcl l))=[(58,.box [sl2 l.length (bcl l),inB x,.fn 97 [] [],.mapr 44]),(145,.box (bcl l)),(44,.mp esB),(114,.mp stepsB),(64,.box [.nil]),(65,.box [.int .i64 0])]:=by
  have h:pubD 145 (.box (bcl l)) (.bsl 145 0 l.length 2)=sl2 l.length (bcl l):=by
   show (match bslOk (bcl l) 0 l.length 2 with|true=>D.slf 2 l.length (fun q=>((bcl l).drop (0+q*2)).take 2)|false => .any)=_
   rw[jbF]
   simp only[jhQ]
  have g2:=bcl_pubL l 145 (.box (bcl l))
  show [(58,Chunk.box (pubD 145 (.box (bcl l)) (.bsl 145 0 l.length 2)::_)),(145,Chunk.box (pubL 145 (.box (bcl l)) (bcl l))),_,_,_,_]=_
  rw[h,g2]
  rfl
 rw[jcE,e]
theorem runB_c (p:List (Int×Int))(x:List (Int×Int))(o d:Int)(okx:∀ q∈x,okB q)(hs:surv p x.length o=some d) :
  Cl 22 [opsD p,inB x,.int .i64 o] (match rnM mB x p [] with | .ok l => .tup [sl2 l.length (bcl l),.int .i64 0] | .error e => .tup [.nil,.int .i64 e]):=by
 have pc:Cl 25 [opsD p,.int .i64 x.length,.int .i64 o] (.int .i64 0):=by
  have c:=jfK p x.length o
  rw[hs] at c
  exact c
 have hb:1≤(x.length:Int)∧(x.length:Int)≤4∧1≤o∧o≤4∧p.length≤40∧svL x.length (0,0) p=some (o,d):=by
  unfold surv at hs
  split at hs
  case isFalse=>cases hs
  rename_i h
  refine⟨h.1,h.2.1,h.2.2.1,h.2.2.2.1,h.2.2.2.2,?_⟩
  split at hs
  case h_2=>cases hs
  rename_i e
  split at hs
  case isFalse=>cases hs
  rename_i n d' e'
  cases hs
  rw[e,e']
 have hx4:x.length≤4:=by omega
 have hp:=hb.2.2.2.2.1
 have fc:∀ k:Nat,k<x.length→Cl 50 [.agg [.int .i64 (x.getD k (0,0)).1,.int .i64 (x.getD k (0,0)).2]] (.int .i64 0):=fun k hk=>by
  have o:okB (x.getD k (0,0)):=okx _ (by rw[jij,jim hk];exact List.getElem_mem hk)
  have c:=check_b (x.getD k (0,0)).1 (x.getD k (0,0)).2
  rw[if_pos o] at c
  exact c
 have t3:=jgb 100
 have t4:=jgb 101
 have t5:=jgb 102
 have t6:=jgb 103
 have t7:=jgb 104
 have o8:=oneB_c 106
 have o9:=oneB_c 107
 have o12:=oneB_c 110
 refine jbm (jdG tbOk (inlX_ok tbOk 6)) (jaz Tryz.func22 rfl rfl) ⟨_,_,⟨Tryz.func22,rfl,rfl,jhL rfl⟩,?_⟩
 refine V.r1 @jhR pc ?_
 refine jaj ((0:Nat)) (fun k=>k≤x.length) (fun k=>x.length-k) (fun k=>[(22,.int .i64 k)]) (fun k=>[]) ?_ ?_ ?_
 ·exact V.wk
 ·exact jhM _
 ·intro k hk
  have hkc:((k:Int)+1)=((k+1:Nat):Int):=by omega
  (conv=>whnf)
  refine V.st ?_
  refine V.br (fun hq=>?_) (fun hq=>?_)
  ·simp only[decide_eq_true_eq] at hq
   have f1:=fc k (by omega)
   refine V.r1 (V.a2 @jhR hkc) f1 ?_
   exact⟨k+1,by omega,by omega,V.wk⟩
  ·refine V.r0 @jhR ?_
   refine .inl ?_
   (conv=>whnf)
   refine⟨0,Or.inl ⟨_,_,⟨Tryz.func51,rfl,rfl,jhL rfl⟩,?_⟩⟩
   refine V.r8 @jhR t3 t4 t5 t6 t7 o8 o9 o12 ?_
   refine .inl ?_
   (conv=>whnf)
   refine⟨21,Or.inr ⟨_,_,⟨Tryz.func52,rfl,rfl,jhL rfl⟩,_,_,_,_,_,true,_,_,_,_,rfl,⟨rfl,rfl,rfl,⟨_,rfl⟩,rfl,rfl⟩,?_⟩⟩
   (conv=>whnf)
   refine V.st ?_
   refine DefK.mk 64 65 rfl rfl (by decide) (by decide) (by decide) (by decide) idle_B ?_
   refine V.r0 @jhR ?_
   refine lpw ⟨Nat×List (Int×Int),fun s=>s.1≤p.length∧rnM mB x (p.take s.1) [] = .ok s.2∧(∃ d,svL x.length (0,0) (p.take s.1)=some ((s.2.length:Int),d))∧(∀ q∈s.2,okB q),fun s=>slM p s.1,fun s=>hpE_B x s.2,fun s=>p.length-s.1,⟨(0,[]),⟨jhM _,rfl,⟨0,rfl⟩,fun _ h=>absurd h List.not_mem_nil⟩,V.wk⟩,?_⟩
   rintro⟨k2,l⟩ ⟨hk2,hr,⟨d2,hd2⟩,okl⟩
   dsimp only at hk2 hr hd2 okl ⊢
   have hbd:=svL_bd hd2 (by simp)
   dsimp only at hbd
   by_cases hke:k2=p.length
   ·subst hke
    rw[jiC] at hr hd2
    rw[hr]
    have hlo:(l.length:Int)=o:=by rw[hd2] at hb;have:=hb.2.2.2.2.2;cases this;rfl
    have el:hpE_B x l=hpB x l.length (bcl l):=by
     cases l with
     | nil=>simp at hlo;omega
     | cons q l=>rfl
    rw[el]
    have pg:=jas l
    have pb:=jbo l
    have bo:=jbF l
    dsimp only
    (conv=>whnf)
    (try simp only[decide_eq_true,jhR])
    repeat ((first|refine V.s1 ?_|((try ((with_reducible refine .ext ?_);(conv=>whnf);(try simp only[decide_eq_true,jhR])));(with_reducible refine jaa (r:=?_) ?_ ?_);rotate_left;(focus (first|fail));(conv=>whnf))|(((simp only[pg];(conv=>whnf)));(conv=>whnf)));(try simp only[decide_eq_true,jhR]))
    refine⟨_,_,Wk.refl,?_⟩
    (conv=>whnf)
    (try simp only[jhR])
    repeat ((first|refine V.s1 ?_|((try ((with_reducible refine .ext ?_);(conv=>whnf);(try simp only[jhR])));(with_reducible refine jaa (r:=?_) ?_ ?_);rotate_left;(focus (first|fail));(conv=>whnf))|(((simp only[pg];(conv=>whnf)));(conv=>whnf)));(try simp only[jhR]))
    rewrite [bo]
    dsimp only
    rewrite [jgj]
    rewrite [bcl_pubH]
    (conv=>whnf)
    rewrite [bo]
    (conv=>whnf)
    refine Fin.of ?_
    simp only[jhQ]
   ·have hkl:k2<p.length:=by omega
    have hsn:=jfy x.length p k2 hkl
    rw[hd2] at hsn
    dsimp only at hsn
    have rs:=rnM_snoc mB x p k2 hkl
    rw[hr] at rs
    dsimp only at rs
    cases hss:svS x.length ((l.length:Int),d2) (p.getD k2 (0,0)) with
    | none=>rw[hss] at hsn;rw[jdX hsn] at hb;cases hb.2.2.2.2.2
    | some s'=>
     show rndB p k2 (hpE_B x l) _
     refine step_B hkl hp hss rfl hbd.2.1 okx okl ?_ ?_
     ·intro l' st okl' L H w
      exact⟨(k2+1,l'),⟨by dsimp only;omega,rs.trans st,⟨s'.2,by rw[hsn,hss];exact congrArg some (Prod.ext (stM_len hss rfl st) rfl)⟩,okl'⟩,by dsimp only;omega,w⟩
     ·intro e he st L H w
      refine⟨_,_,w,?_⟩
      rw[rnM_err (rs.trans st)]
      (conv=>whnf)
      refine CatchK.mk _ _ .nil (.int .i64 e) (catch_B e) (fun _ _=>by simp[Den]) (fun _ _=>by simp[Den,InR,V.lo,V.hi];omega) ?_
      refine V.r0 @jhR ?_
      exact Fin.of rfl
theorem jeF {e n:Nat}{f g:Nat→List D}(h:∀ j,j<n→g j=f j):Fin (.slf e n f) (.slf e n g):=⟨fun hp v hv=>by
 simp only[Den] at hv ⊢
 obtain⟨a,cap,h1,h2,h3,h4⟩:=hv
 refine⟨a,cap,h1,h2,h3,?_⟩
 cases a with
 | none=>exact h4
 | some ad=>
  refine⟨h4.1,fun j hj=>?_⟩
  have:=h4.2 j hj
  rw[h j hj] at this
  exact this⟩
theorem jdI (e:Nat)(f:Nat→List D):Fin (.slf e 0 f) .nil:=⟨fun hp v hv=>by
 simp only[Den] at hv ⊢
 refine⟨none,0,hv,?_⟩
 simp⟩
theorem arg3 {f:Nat}{a b c a' b' c' r:D}(h:Cl f [a,b,c] r)(A:Fin a a')(B:Fin b b')(C:Fin c c'):Cl f [a',b',c'] r:=Called.arg (show FinL [a,b,c] [a',b',c'] from ⟨A,B,C,trivial⟩) h
theorem jeY:∀ (l:List (Int×Int)) (j:Nat),j<l.length→List.take 2 (List.drop (j*2) (bcl l))=[.int .i64 (l.getD j (0,0)).1,.int .i64 (l.getD j (0,0)).2]
 | q::l,0,_=>rfl
 | q::l,j+1,h=>by
  rw[show (j+1)*2=j*2+1+1 by omega]
  exact jeY l j (by simpa using h)
theorem fcl_at:∀ (l:List Rat) (j:Nat),j<l.length→List.take 2 (List.drop (j*2) (fcl l))=[.str (decZ (l.getD j 0).num),.str (dec (l.getD j 0).den)]
 | q::l,0,_=>rfl
 | q::l,j+1,h=>by
  rw[show (j+1)*2=j*2+1+1 by omega]
  exact fcl_at l j (by simpa using h)
abbrev oL (p:List (Int×Int)):D:=sl2 p.length (bcl p)
abbrev fL (x:List Rat):D:=sl2 x.length (fcl x)
theorem fin_o (p:List (Int×Int)):Fin (opsD p) (oL p):=jeF (jeY p)
theorem fin_f (x:List Rat):Fin (inF x) (fL x):=jeF (fcl_at x)
theorem fin_b (x:List (Int×Int)):Fin (inB x) (oL x):=jeF (jeY x)
theorem jeS (p:List (Int×Int))(i o:Int):Cl 25 [oL p,.int .i64 i,.int .i64 o] (.int .i64 (if (surv p i o).isSome then 0 else 120)):=
 arg3 (jfK p i o) (fin_o p) (Fin.same _) (Fin.same _)
theorem jeJ (p:List (Int×Int))(i o:Int):Cl 27 [oL p,.int .i64 i,.int .i64 o] (.tup [.int .i64 ((surv p i o).getD 0),.int .i64 (if (surv p i o).isSome then 0 else 120)]):=
 arg3 (pdepth_c p i o) (fin_o p) (Fin.same _) (Fin.same _)
def resF (r:Except Int (List Rat)):D:=match r with | .ok l => .tup [fL l,.int .i64 0] | .error e => .tup [.nil,.int .i64 e]
def resB (r:Except Int (List (Int×Int))):D:=match r with | .ok l => .tup [oL l,.int .i64 0] | .error e => .tup [.nil,.int .i64 e]
theorem run_o (p:List (Int×Int))(x:List Rat)(o d:Int)(okx:∀ q∈x,okF q=true)(hs:surv p x.length o=some d):Cl 20 [oL p,fL x,.int .i64 o] (resF (rnM mF x p [])):=by
 have c:=arg3 (runF_c p x o d okx hs) (fin_o p) (fin_f x) (Fin.same _)
 cases h:rnM mF x p [] with
 | ok l=>rw[h] at c;exact c
 | error e=>rw[h] at c;exact c
theorem bands_o (p x:List (Int×Int))(o d:Int)(okx:∀ q∈x,okB q)(hs:surv p x.length o=some d):Cl 22 [oL p,oL x,.int .i64 o] (resB (rnM mB x p [])):=by
 have c:=arg3 (runB_c p x o d okx hs) (fin_o p) (fin_b x) (Fin.same _)
 cases h:rnM mB x p [] with
 | ok l=>rw[h] at c;exact c
 | error e=>rw[h] at c;exact c
theorem eq_f (n:Nat)(X:Nat→List UInt8×List UInt8)(hn:n≤40):Cl 29 [.slf 2 n (fun j=>[.str (X j).1,.str (X j).2]),.slf 2 n (fun j=>[.str (X j).1,.str (X j).2])] (.bool true):=by
 refine V.en tbOk Tryz.func29 ?_
 (conv=>whnf)
 (conv=>whnf)
 (try simp only[])
 repeat ((first|refine V.s1 ?_);(try simp only[]))
 refine Cnd.no (decide_eq_false (fun h=>h rfl)) ?_
 (conv=>whnf)
 (try simp only[])
 repeat ((first|refine V.s1 ?_);(try simp only[]))
 refine jaj ((0:Nat)) (fun k=>k≤n) (fun k=>n-k) (fun k=>[(13,.int .i64 k)]) (fun k=>[]) ?_ ?_ ?_
 ·exact V.wk
 ·exact jhM _
 intro k hk
 have hkc:((k:Int)+1)=((k+1:Nat):Int):=by omega
 by_cases hkn:k<n
 ·have hlt:decide ((k:Int)<n)=true:=decide_eq_true (by omega)
  refine V.r0 (V.a2 hlt @jhR) ?_
  refine⟨Pq9z,[],V.pok,?_⟩
  refine ja6 [(24,.bool false)] [] ?_ ?_
  ·exact V.d0 (V.a4 @jhR @decide_true @Bool.and_self @Bool.not_true)
  refine V.r0 (V.a2 hkc @jhR) ?_
  exact⟨k+1,by omega,by omega,V.wk⟩
 ·have hlt:decide ((k:Int)<n)=false:=decide_eq_false (by omega)
  refine V.r0 hlt ?_
  exact Fin.of rfl
theorem eq_b (n:Nat)(X:Nat→Int×Int)(hn:n≤40):Cl 38 [.slf 2 n (fun j=>[.int .i64 (X j).1,.int .i64 (X j).2]),.slf 2 n (fun j=>[.int .i64 (X j).1,.int .i64 (X j).2])] (.bool true):=by
 refine V.en tbOk Tryz.func38 ?_
 (conv=>whnf)
 (conv=>whnf)
 (try simp only[])
 repeat ((first|refine V.s1 ?_);(try simp only[]))
 refine Cnd.no (decide_eq_false (fun h=>h rfl)) ?_
 (conv=>whnf)
 (try simp only[])
 repeat ((first|refine V.s1 ?_);(try simp only[]))
 refine jaj ((0:Nat)) (fun k=>k≤n) (fun k=>n-k) (fun k=>[(13,.int .i64 k)]) (fun k=>[]) ?_ ?_ ?_
 ·exact V.wk
 ·exact jhM _
 intro k hk
 have hkc:((k:Int)+1)=((k+1:Nat):Int):=by omega
 by_cases hkn:k<n
 ·have hlt:decide ((k:Int)<n)=true:=decide_eq_true (by omega)
  refine V.r0 (V.a2 hlt @jhR) ?_
  refine⟨Pq9z,[],V.pok,?_⟩
  refine ja6 [(24,.bool false)] [] ?_ ?_
  ·exact V.d0 (V.a4 @jhR @decide_true @Bool.and_self @Bool.not_true)
  refine V.r0 (V.a2 hkc @jhR) ?_
  exact⟨k+1,by omega,by omega,V.wk⟩
 ·have hlt:decide ((k:Int)<n)=false:=decide_eq_false (by omega)
  refine V.r0 hlt ?_
  exact Fin.of rfl
theorem jdP {n m:Int}(hn : -9223372036854775807≤n∧n≤9223372036854775807)(hm:1≤m∧m≤9223372036854775807):Cl 12 [.int .i64 n,.int .i64 m] (frT (Rat.divInt n m)):=by
 have c:=y_rof hn hm
 unfold frT at *
 generalize Rat.divInt n m=q at *
 refine V.en tbOk Tryz.func12 ?_
 (conv=>whnf)
 refine V.st ?_
 repeat ((try ((with_reducible refine .ext ?_);(conv=>whnf)));(with_reducible refine jaa (r:=?_) ?_ ?_);rotate_left;(focus (first|exact(c)));(conv=>whnf);refine V.st ?_)
 exact Fin.of rfl
abbrev halfP:List (Int×Int):=[(1,0),(1,1),(3,0),(2,500000),(5,0)]
abbrev signP:List (Int×Int):=[(2,1000000),(2,0),(1,0),(10,0)]
theorem half_c:Cl 32 [] (oL halfP):=by
 refine V.en tbOk Tryz.func32 ?_
 refine V.r0 @jhQ ?_
 exact Fin.of rfl
theorem sign_c12:Cl 39 [] (oL signP):=by
 refine V.en tbOk Tryz.func39 ?_
 refine V.r0 @jhQ ?_
 exact Fin.of rfl
theorem arg2 {f:Nat}{a b a' b' r:D}(h:Cl f [a,b] r)(A:Fin a a')(B:Fin b b'):Cl f [a',b'] r:=Called.arg (show FinL [a,b] [a',b'] from ⟨A,B,trivial⟩) h
theorem eqL_f (x:List Rat)(h:x.length≤40):Cl 29 [fL x,fL x] (.bool true):=
 arg2 (eq_f x.length (fun j=>(decZ (x.getD j 0).num,dec (x.getD j 0).den)) h) (fin_f x) (fin_f x)
theorem eqL_b (x:List (Int×Int))(h:x.length≤40):Cl 38 [oL x,oL x] (.bool true):=
 arg2 (eq_b x.length (fun j=>x.getD j (0,0)) h) (fin_b x) (fin_b x)
theorem runs_c (p:List (Int×Int))(x:List Rat)(y:Rat)(d:Int)(okx:∀ q∈x,okF q=true)(hs:surv p x.length 1=some d)(hr:rnM mF x p [] = .ok [y]):Cl 16 [oL p,frT y,fL x] (.bool true):=by
 have r:Cl 20 [oL p,fL x,.int .i64 1] (.tup [sl2 1 [.str (decZ y.num),.str (dec y.den)],.int .i64 0]):=by
  have r:=run_o p x 1 d okx hs
  rw[hr] at r
  exact r
 have e:Cl 29 [sl2 1 [.str (decZ y.num),.str (dec y.den)],sl2 1 [.str (decZ y.num),.str (dec y.den)]] (.bool true):=eqL_f [y] (Nat.succ_le_succ (jhM _))
 unfold frT
 clear hr hs okx
 generalize decZ y.num=S at *
 generalize dec y.den=T at *
 refine V.en tbOk Tryz.func16 ?_
 refine V.r2 @jhQ r e ?_
 exact Fin.of rfl
theorem okF_l {n m:Int}(hn : -9223372036854775807≤n∧n≤9223372036854775807)(hm:1≤m∧m≤9223372036854775807):okF (Rat.divInt n m)=true:=(jec hn hm).ok (by omega) (by omega)
theorem wakes_c:Cl 11 [] (.bool true):=by
 have o38:=jdP (n:=3) (m:=8) (by omega) (by omega)
 have o12:=jdP (n:=1) (m:=2) (by omega) (by omega)
 have o14:=jdP (n:=1) (m:=4) (by omega) (by omega)
 have o11:=jdP (n:=1) (m:=1) (by omega) (by omega)
 have o01:=jdP (n:=0) (m:=1) (by omega) (by omega)
 have o17:=jdP (n := -1) (m:=7) (by omega) (by omega)
 have o31:=jdP (n:=3) (m:=1) (by omega) (by omega)
 have o3n:=jdP (n := -3) (m:=1) (by omega) (by omega)
 have k1:∀ (n m:Int),(-9223372036854775807≤n∧n≤9223372036854775807)→(1≤m∧m≤9223372036854775807) → ∀ q∈[Rat.divInt n m],okF q=true:=fun n m h1 h2 q hq=>by rw[List.mem_singleton.1 hq];exact okF_l h1 h2
 have r1:Cl 16 [oL halfP,frT (Rat.divInt 3 8),fL [Rat.divInt 1 2,Rat.divInt 1 4]] (.bool true):=
  runs_c halfP _ _ 2 (fun q hq=>by
   rcases jil.1 hq with e|h
   ·rw[e];exact okF_l (by omega) (by omega)
   ·exact k1 1 4 (by omega) (by omega) q h) (by kernel_rfl) (by kernel_rfl)
 have r2:Cl 16 [oL signP,frT (Rat.divInt 1 1),fL [Rat.divInt 0 1]] (.bool true):=runs_c signP _ _ 3 (k1 0 1 (by omega) (by omega)) (by kernel_rfl) (by kernel_rfl)
 have r3:Cl 16 [oL signP,frT (Rat.divInt 0 1),fL [Rat.divInt (-1) 7]] (.bool true):=runs_c signP _ _ 3 (k1 (-1) 7 (by omega) (by omega)) (by kernel_rfl) (by kernel_rfl)
 have r4:Cl 16 [oL [(1,0),(11,0),(8,0),(7,0)],frT (Rat.divInt 3 1),fL [Rat.divInt (-3) 1]] (.bool true):=runs_c _ _ _ 2 (k1 (-3) 1 (by omega) (by omega)) (by kernel_rfl) (by kernel_rfl)
 have b1:Cl 22 [oL signP,oL [(-1000000000000,1000000000000)],.int .i64 1] (.tup [oL [(0,1000000000000)],.int .i64 0]):=by
  have c:=bands_o signP [(-1000000000000,1000000000000)] 1 3 (fun q hq=>by rw[List.mem_singleton.1 hq];exact jaA.2 (by omega)) (by kernel_rfl)
  rw[show rnM mB [(-1000000000000,1000000000000)] signP [] = .ok [(0,1000000000000)] by kernel_rfl] at c
  exact c
 have b2:Cl 22 [oL signP,oL [(1000000000000,2000000000000)],.int .i64 1] (.tup [oL [(1000000000000,1000000000000)],.int .i64 0]):=by
  have c:=bands_o signP [(1000000000000,2000000000000)] 1 3 (fun q hq=>by rw[List.mem_singleton.1 hq];exact jaA.2 (by omega)) (by kernel_rfl)
  rw[show rnM mB [(1000000000000,2000000000000)] signP [] = .ok [(1000000000000,1000000000000)] by kernel_rfl] at c
  exact c
 have d1:Cl 27 [oL halfP,.int .i64 2,.int .i64 1] (.tup [.int .i64 2,.int .i64 0]):=by
  have c:=jeJ halfP 2 1
  rw[show surv halfP 2 1=some 2 by kernel_rfl] at c
  exact c
 have c1:Cl 25 [oL halfP,.int .i64 1,.int .i64 1] (.int .i64 120):=by
  have c:=jeS halfP 1 1
  rw[show surv halfP 1 1=none by kernel_rfl] at c
  exact c
 have e1:=eqL_b [(0,1000000000000)] (by decide)
 have e2:=eqL_b [(1000000000000,1000000000000)] (by decide)
 have hf:=half_c
 have sg:=sign_c12
 clear k1
 simp only[oL,fL,halfP,signP,bcl,fcl,frT,jiv,List.length_nil,Nat.reduceAdd] at *
 generalize decZ (Rat.divInt 3 8).num=s38 at *
 generalize dec (Rat.divInt 3 8).den=t38 at *
 generalize decZ (Rat.divInt 1 2).num=s12 at *
 generalize dec (Rat.divInt 1 2).den=t12 at *
 generalize decZ (Rat.divInt 1 4).num=s14 at *
 generalize dec (Rat.divInt 1 4).den=t14 at *
 generalize decZ (Rat.divInt 1 1).num=s11 at *
 generalize dec (Rat.divInt 1 1).den=t11 at *
 generalize decZ (Rat.divInt 0 1).num=s01 at *
 generalize dec (Rat.divInt 0 1).den=t01 at *
 generalize decZ (Rat.divInt (-1) 7).num=s17 at *
 generalize dec (Rat.divInt (-1) 7).den=t17 at *
 generalize decZ (Rat.divInt 3 1).num=s31 at *
 generalize dec (Rat.divInt 3 1).den=t31 at *
 generalize decZ (Rat.divInt (-3) 1).num=s3n at *
 generalize dec (Rat.divInt (-3) 1).den=t3n at *
 refine V.en tbOk Tryz.func11 ?_
 (conv=>whnf)
 (conv=>whnf)
 (try simp only[jhQ,decide_true])
 repeat ((first|refine V.s1 ?_|((try ((with_reducible refine .ext ?_);(conv=>whnf);(try simp only[jhQ,decide_true])));(with_reducible refine jaa (r:=?_) ?_ ?_);rotate_left;(focus (first|exact(hf)|exact(sg)|exact(d1)|exact(b1)|exact(b2)|exact(c1)|exact(e1)|exact(e2)|exact(o38)|exact(o12)|exact(o14)|exact(o11)|exact(o01)|exact(o17)|exact(o31)|exact(o3n)|exact(r1)|exact(r2)|exact(r3)|exact(r4)));(conv=>whnf))|(((with_reducible refine .ext ?_));(conv=>whnf)));(try simp only[jhQ,decide_true]))
 exact Fin.of rfl
end Go.Proofs.YtpkdedncgclblaaGreatDoor
end
section
namespace Go.V
open Go Go.RowKit
theorem Wk.renS {off:Nat}{L:Sl}{H:Hp}{L2:Sl}{H2:Hp}(i j t n e:Nat){es:List D}(hij:i≠j)(hoff:off≤j)(hfr:D.freeL j es=true)(hi:lookH H i=some (.box es))(ht:look L t = .bsl i 0 n e)
  (h:Wk off ((t,.bsl j 0 n e)::purge j L) ((j,.box es)::(i,.gone)::jaC j H) L2 H2):Wk off L H L2 H2:=by
 refine⟨fun cx E h' a w e' S=>?_⟩
 subst e'
 have S1:=S.renBx hij hoff hfr hi
 have hv:=S.knows t
 rw[ht] at hv
 refine h.out cx (E.alias2 i j) h' a w rfl (S1.reslot ?_)
 simp only[Den,Env.alias2,if_true] at hv ⊢
 exact hv
end Go.V
namespace Go.Proofs.YtpkdedncgclblaaGreatDoor
open Go Go.V Go.Nb
theorem jgK (p:List (Int×Int))(K:List D→Prop):∀ (n:Nat) (acc:List D),n≤p.length→catF 2 (fun j=>List.take 2 (List.drop (j*2) (bcl p))) n acc K=K (bcl (p.take n)++acc)
 | 0,acc,_=>rfl
 | n+1,acc,h=>by
  unfold catF
  rw[jeY p n (by omega)]
  show (match Nat.beq (acc.length+1+1) (acc.length+2) with|true=>catF 2 (fun j=>List.take 2 (List.drop (j*2) (bcl p))) n (.int .i64 (p.getD n (0,0)).1 :: .int .i64 (p.getD n (0,0)).2::acc) K|false=>False)=_
  rw[Nat.beq_refl]
  dsimp only
  rw[jgK p K n _ (by omega),jcc p n (0,0) (by omega),jaN]
  simp[bcl]
theorem jd8 (l:List (Int×Int)):D.pureL (bcl l)=true:=by
 induction l with
 | nil=>rfl
 | cons q m ih=>simp only[bcl,D.pureL,D.pure,ih]
theorem jeW (l:List (Int×Int))(i:Nat):D.freeL i (bcl l)=true:=by
 induction l with
 | nil=>rfl
 | cons q m ih=>simp only[bcl,D.freeL,D.free];exact ih
end Go.Proofs.YtpkdedncgclblaaGreatDoor
end
section
namespace Go.Proofs.YtpkdedncgclblaaGreatDoor
open Go Go.V Go.RowKit Go.Proofs Go.Shelf Go.Lib
set_option maxHeartbeats 4000000
set_option maxRecDepth 1000000
theorem opSl:Tryz.prog.underlying 36=some (.slice 33):=by kernel_rfl
theorem jdj:(Tryz.prog.info? 33).map (fun i=>(i.zero,i.size,i.bytes))=some (some (.agg #[.int .i64 0,.int .i64 0]),2,16):=by kernel_rfl
theorem jck {w:World}{b o:Nat}{cs:Array Value}{T:TypeId}(hb:w.heap[b]? = some (.cells cs T (0,0))):w.frozen? ⟨b,o,none⟩=false:=by
 unfold World.frozen?
 rw[hb]
 simp
theorem ja0 (b:Nat)(vs:List Value)(o:Nat)(w:World)(h:∀ j,j<vs.length→(w.cell? ⟨b,o+j,none⟩).isSome=true)(k:Nat)(hk:(w.cell? ⟨b,k,none⟩).isSome=true):((w.setCells b o vs).cell? ⟨b,k,none⟩).isSome=true:=by
 by_cases hin:o≤k∧k<o+vs.length
 ·have:=World.cell?_setCells_in b vs o w h (k-o) (by omega)
  rw[show o+(k-o)=k by omega] at this
  rw[this];rfl
 ·rw[World.cell?_setCells_out b vs o w ⟨b,k,none⟩ (fun _ _=>by show k<o∨o+vs.length≤k;omega)]
  exact hk
theorem jdU {P:Program}{ops:Array Oper}{o:Oper}{a:Act}{w:World}{K:Act→World→Prop}{Q:Exit→Act→World→Prop}{E:Prop}
  (hg:o.guard=none) (d x:Operand) (dT sT:TypeId) (hop:o.op=Op.call { callee:=Callee.builtin Builtin.append,args := #[d,x],argTypes := #[dT,sT] })
  (v u:Value) (hd:a.eval d=v) (hx:a.eval x=u) {v':Value} {w':World} (hr:(Builtin.append_ #[dT,sT] o.type #[v,u]).run P w = .ok v' w') (hK:K (a.put o.dst v') w') :
  if Region.wanted o (yielded ops a.tmps)=true then Oper.wp P o a w K Q else E:=by
 have hw:Region.wanted o (yielded ops a.tmps)=true:=by simp[Region.wanted,hg]
 rw[if_pos hw]
 unfold Oper.wp
 simp[execOp,hop,resolve,invoke,builtin,hd,hx,hr,Result.andThen]
 exact hK
theorem jgi (w:World)(ty:TypeId)(b o c:Nat)(hc:∀ j,j<2→(w.cell? ⟨b,o+j,none⟩).isSome=true)(hf:∀ j,j<2→w.frozen? ⟨b,o+j,none⟩=false) :
  (Builtin.clear_ #[36] ty #[.slice (some ⟨b,o,none⟩) 1 c]).run Tryz.prog w = .ok (.tuple #[]) (w.setCells b o [.int .i64 0,.int .i64 0]):=by
 have hst:=run_storeCells_cells (P:=Tryz.prog) b o [.int .i64 0,.int .i64 0] 0 w (by simpa using hc) (by simpa using hf) (by intro v hv;simp at hv;subst hv;rfl)
 simp only[Nat.add_zero] at hst
 have hz:(zeroValue 33).run Tryz.prog w = .ok (.agg #[.int .i64 0,.int .i64 0]) w:=by
  obtain⟨i0,hi0,hz0,_,_⟩:=info_parts jdj
  simp[zeroValue,typeInfo,hi0,hz0]
 have hzc:(Builtin.zeroCells (Value.agg #[.int .i64 0,.int .i64 0]).cells 1).toList=[.int .i64 0,.int .i64 0]:=by kernel_rfl
 simp[Builtin.clear_,run_underlying opSl,hz,hzc,hst]
theorem del_run (i n cap b:Nat)(us rest:List Value)(T:TypeId)(w:World)(hb:w.heap[b]? = some (.cells (us++rest).toArray T (0,0)))(hl:us.length=n*2)(hi:i<n)(hc:n≤cap)(hbig:n≤1000000)(h1:∀ v∈us,v.oneCell'=true) :
  Calls Tryz.prog 127 #[.slice (some ⟨b,0,none⟩) n cap,.int .i64 i,.int .i64 ((i+1:Nat):Int)] w fun e w'=>e = .returned (.slice (some ⟨b,0,none⟩) (n-1) cap) ∧ ∃ q,w'=((w.drewN q).setCells b (i*2) (us.drop ((i+1)*2))).setCells b ((n-1)*2) [.int .i64 0,.int .i64 0]:=by
 obtain⟨i0,hi0,hz0,hz1,hz2⟩:=info_parts jdj
 have hne:¬ ((i:Int)=((i+1:Nat):Int)):=by omega
 obtain⟨news,hnews⟩:∃ news,news=us.drop ((i+1)*2):=⟨_,rfl⟩
 have hlen:news.length=(n-(i+1))*2:=by rw[hnews,jiA,hl];omega
 have hcell:∀ (j:Nat),j<n*2→(w.drew.cell? ⟨b,j,none⟩).isSome=true:=fun j hj=>by
  show (w.cell? ⟨b,j,none⟩).isSome=true
  rw[jaZ hb (jim (by omega))];rfl
 have hfz:∀ j,w.drew.frozen? ⟨b,j,none⟩=false:=fun j=>jck hb
 obtain⟨A,hA,hsrc⟩:∃ A:Addr,(if cap=i+1 then some (⟨b,0,none⟩:Addr) else some ⟨b,(i+1)*2,none⟩)=some A∧Hid (∀ t u,news[t]? = some u→w.drew.cell? (A.add t)=some u):=by
  by_cases h:cap=i+1
  ·refine⟨⟨b,0,none⟩,by simp[h],fun t u hu=>?_⟩
   have h0:news.length=0:=by rw[hlen];omega
   rw[jik.1 h0] at hu
   simp at hu
  ·refine⟨⟨b,(i+1)*2,none⟩,by simp[h],fun t u hu=>?_⟩
   rw[hnews,List.getElem?_drop] at hu
   rw[Addr.add_lit]
   exact jaZ hb hu
 have hrun:∀ ty,(Builtin.append_ #[36,36] ty #[.slice (some ⟨b,0,none⟩) i cap,.slice (some A) (n-(i+1)) (cap-(i+1))]).run Tryz.prog w.drew = .ok (.slice (some ⟨b,0,none⟩) (i+(n-(i+1))) cap) (w.drew.setCells b (0+i*i0.size) news):=fun ty=>
  run_append_room_cells (P:=Tryz.prog) w.drew 36 ty 33 i0 opSl hi0 b 0 i cap A (n-(i+1)) (cap-(i+1)) news (by rw[hlen,hz1]) hsrc.out (fun u hu=>h1 u (by rw[hnews] at hu;exact jis hu)) (by omega) (fun j hj=>by rw[hz1];exact hcell _ (by omega)) (fun j hj=>hfz _)
 rw[hz1,jhQ] at hrun
 obtain⟨W1,hW1⟩:∃ W1,W1=w.drew.setCells b (i*2) news:=⟨_,rfl⟩
 have hcl:∀ ty,(Builtin.clear_ #[36] ty #[.slice (some ⟨b,(i+(n-(i+1)))*2,none⟩) (n-(i+(n-(i+1)))) (cap-(i+(n-(i+1))))]).run Tryz.prog W1 = .ok (.tuple #[]) (W1.setCells b ((i+(n-(i+1)))*2) [.int .i64 0,.int .i64 0]):=fun ty=>by
  rw[show n-(i+(n-(i+1)))=1 by omega]
  exact jgi W1 ty b _ _ (fun j hj=>by rw[hW1];exact ja0 b _ _ _ (fun j hj=>hcell _ (by omega)) _ (hcell _ (by omega))) (fun j hj=>by rw[hW1,World.frozen?_setCells];exact hfz _)
 rw[← hW1] at hrun
 have mixed:Tryz.prog.follows .mixedOrders=true:=by kernel_rfl
 have hic:i≤cap:=by omega
 have hjc:i+1≤cap:=by omega
 have hb0:(0:Int)≤(i:Int)+1:=by omega
 have hb1:(i:Int)+1≤(n:Int):=by omega
 have hw:Hid (W1=w.drew.setCells b (i*2) news):=hW1
 have hnw:Hid (news=us.drop ((i+1)*2)):=hnews
 clear hW1 hcell hfz hnews hlen hb
 go_enter Tryz.func127,Tryz.ntmps127
 go_wp2_with fail
 go_region_law_o (refine jdU rfl _ _ 36 36 rfl _ _ (by simp[Act.eval,Act.put]) (by simp[Act.eval,Act.put]) (hrun _) ?_)
 go_wp2
 go_ret
 refine⟨by rw[show i+(n-(i+1))=n-1 by omega];rfl,1,?_⟩
 rw[hw.out,hnw.out,show i+(n-(i+1))=n-1 by omega]
 rfl
set_option maxHeartbeats 4000000
set_option maxRecDepth 1000000
theorem jcq (w:World)(ty:TypeId)(b o dLen dCap:Nat)(a:Addr)(sLen sCap:Nat)(cs:List Value)(hn:cs.length=Nat.min sLen dLen*2)
  (hsrc:∀ j v,cs[j]? = some v→w.cell? (a.add j)=some v) (hc:∀ j,j<cs.length→(w.cell? ⟨b,o+j,none⟩).isSome=true) (hf:∀ j,j<cs.length→w.frozen? ⟨b,o+j,none⟩=false) (h1:∀ v∈cs,v.oneCell'=true) :
  (Builtin.copy_ #[36,36] ty #[.slice (some ⟨b,o,none⟩) dLen dCap,.slice (some a) sLen sCap]).run Tryz.prog w = .ok (goInt (Nat.min sLen dLen)) (w.setCells b o cs):=by
 have hl:=run_loadCells_list (P:=Tryz.prog) w a cs hsrc
 have hst:=run_storeCells_cells (P:=Tryz.prog) b o cs 0 w (by simpa using hc) (by simpa using hf) h1
 obtain⟨i,hq,_,hi,_⟩:=info_parts jdj
 rw[hn] at hl
 simp[Builtin.copy_,run_underlying opSl,Builtin.lenOf,Builtin.firstCells,sizeOf,typeInfo,hq,hi,hl,hst]
theorem jbB {P:Program}(w:World){ops:Array Oper}{rest:List Oper}{o:Oper}{a:Act}{Q:Exit→Act→World→Prop}(hgd:o.guard=none)(d s:Operand)(t t':TypeId)
  (ho:o.op = .call { callee := .builtin .copy,args := #[d,s],argTypes := #[t,t'] }) (v u:Value) (hd:a.eval d=v) (hs:a.eval s=u) {v':Value} {w':World}
  (hr:(Builtin.copy_ #[t,t'] o.type #[v,u]).run P w = .ok v' w') (h:wpList P ops Q rest (a.put o.dst v') w'):wpList P ops Q (o::rest) a w:=
 wpList_plain hgd fun _ hK=>by
  unfold Oper.wp execOp
  simp only[ho,resolve,invoke,builtin,Sem.run_bind,Sem.run_pure,Result.andThen_ok,List.map_toArray,List.map_cons,List.map_nil,hd,hs,hr]
  exact hK _ _ h
theorem jcZ {P:Program}{ops:Array Oper}{o:Oper}{a:Act}{w:World}{K:Act→World→Prop}{Q:Exit→Act→World→Prop}{E:Prop}
  (hg:o.guard=none) (d x:Operand) (dT sT:TypeId) (hop:o.op=Op.call { callee:=Callee.builtin Builtin.copy,args := #[d,x],argTypes := #[dT,sT] })
  (v u:Value) (hd:a.eval d=v) (hx:a.eval x=u) {v':Value} {w':World} (hr:(Builtin.copy_ #[dT,sT] o.type #[v,u]).run P w = .ok v' w') (hK:K (a.put o.dst v') w') :
  if Region.wanted o (yielded ops a.tmps)=true then Oper.wp P o a w K Q else E:=by
 have hw:Region.wanted o (yielded ops a.tmps)=true:=by simp[Region.wanted,hg]
 rw[if_pos hw]
 unfold Oper.wp
 simp[execOp,hop,resolve,invoke,builtin,hd,hx,hr,Result.andThen]
 exact hK
theorem jgv (n c i b vb vc : Nat) (us vs : List Value) (w : World) (hi : i < n) (hnc : n ≤ c) (hroom : c < n + 1) (hbig : n ≤ 1000000) (hcl : us.length = n * 2) (hvl : vs.length = 2)
    (hcs : ∀ j v, us[j]? = some v → w.cell? ⟨b, j, none⟩ = some v) (hvs : ∀ j v, vs[j]? = some v → w.cell? ⟨vb, j, none⟩ = some v) (h1c : ∀ v ∈ us, v.oneCell' = true) (h1v : ∀ v ∈ vs, v.oneCell' = true) :
    Calls Tryz.prog 126 #[.slice (some ⟨b, 0, none⟩) n c, .int .i64 i, .slice (some ⟨vb, 0, none⟩) 1 vc] w fun e w' =>
      e = .returned (.slice (some ⟨w.heap.size, 0, none⟩) (n + 1) (grownCap w (n + 1) c 33)) ∧
      w' = (((w.alloc (.cells ((us.take (i * 2)).toArray ++ Builtin.zeroCells (Value.agg #[.int .i64 0, .int .i64 0]).cells (n + 1 - i) ++ Builtin.zeroCells (Value.agg #[.int .i64 0, .int .i64 0]).cells (grownCap w (n + 1) c 33 - (n + 1))) 33)).drew.setCells w.heap.size (i * 2) vs).drew).setCells w.heap.size ((i + 1) * 2) (us.drop (i * 2)) := by
  have mixed : Tryz.prog.follows .mixedOrders = true := by kernel_rfl
  obtain ⟨i0, hi0, hz0, hzs, hzb⟩ := info_parts jdj
  have hz2 : ¬ ((i : Int) = (n : Int)) := by omega
  have hz3 : (c : Int) < (n : Int) + 1 := by omega
  have hbw : b < w.heap.size := block_lt_of_cell (hcs 0 _ (jim (by omega)))
  have hvw : vb < w.heap.size := block_lt_of_cell (hvs 0 _ (jim (by omega)))
  have hkk : (n : Int) + 1 - (i : Int) = ((n + 1 - i : Nat) : Int) := by omega
  have hik : i + (n + 1 - i) = n + 1 := by omega
  have hold : (Builtin.firstCells i0.size i (.slice (some ⟨b, 0, none⟩) i c)).run Tryz.prog w.drew = .ok (us.take (i * 2)).toArray w.drew := by
    rw [hzs]
    exact run_firstCells_some w.drew 2 i ⟨b, 0, none⟩ i c (us.take (i * 2)) (by rw [jio]; omega) (fun j v hj => by
      rw [Addr.add_lit, jhQ]
      rw [List.getElem?_take] at hj
      split at hj
      · exact hcs j v hj
      · cases hj)
  have hrz : ∀ ty, (Builtin.append_ #[36, 3] ty #[.slice (some ⟨b, 0, none⟩) i c, .int .i64 ((n : Int) + 1 - (i : Int))]).run Tryz.prog w =
      .ok (.slice (some ⟨w.heap.size, 0, none⟩) (n + 1) (grownCap w (n + 1) c 33)) (w.drew.alloc (.cells ((us.take (i * 2)).toArray ++ Builtin.zeroCells (Value.agg #[.int .i64 0, .int .i64 0]).cells (n + 1 - i) ++ Builtin.zeroCells (Value.agg #[.int .i64 0, .int .i64 0]).cells (grownCap w (n + 1) c 33 - (n + 1))) 33)) := fun ty => by
    have h := Lib.run_append_grow_zeros w 36 3 ty 33 i0 _ .i64 .i64 opSl Tryz.underlying3 hi0 hz0 (some ⟨b, 0, none⟩) i c (us.take (i * 2)) hold (n + 1 - i) (by omega) (by omega) (by omega) (by omega) (by rw [hzb]; omega) (by rw [hzb, hik]; exact growslice_fits (by omega) (by omega))
    rw [hik] at h
    rw [hkk]
    exact h
  obtain ⟨G, hG⟩ : ∃ G, G = grownCap w (n + 1) c 33 := ⟨_, rfl⟩
  obtain ⟨ROW, hROW⟩ : ∃ ROW : Array Value, ROW = (us.take (i * 2)).toArray ++ Builtin.zeroCells (Value.agg #[.int .i64 0, .int .i64 0]).cells (n + 1 - i) ++ Builtin.zeroCells (Value.agg #[.int .i64 0, .int .i64 0]).cells (G - (n + 1)) := ⟨_, rfl⟩
  rw [← hG] at hrz ⊢
  rw [← hROW] at hrz ⊢
  have hRl : (n + 1) * 2 ≤ ROW.size := by
    rw [hROW]
    simp [Builtin.zeroCells, Value.cells]
    omega
  obtain ⟨W1, hW1⟩ : ∃ W1, W1 = w.drew.alloc (.cells ROW 33) := ⟨_, rfl⟩
  rw [← hW1] at hrz
  have hN : ∀ j, j < (n + 1) * 2 → (W1.cell? ⟨w.heap.size, j, none⟩).isSome = true := fun j hj => by
    rw [hW1, World.cell?_alloc_at (w := w.drew) ROW _ w.heap.size j rfl, Array.getElem?_eq_getElem (by omega)]; rfl
  have hNf : ∀ j, W1.frozen? ⟨w.heap.size, j, none⟩ = false := fun j => by rw [hW1]; exact World.frozen?_alloc_at (w := w.drew) ROW _ w.heap.size j rfl
  have hOb : ∀ j v, w.cell? ⟨b, j, none⟩ = some v → W1.cell? ⟨b, j, none⟩ = some v := fun j v h => by rw [hW1, World.cell?_alloc_past (w := w.drew) _ b j hbw]; exact h
  have hOv : ∀ j v, w.cell? ⟨vb, j, none⟩ = some v → W1.cell? ⟨vb, j, none⟩ = some v := fun j v h => by rw [hW1, World.cell?_alloc_past (w := w.drew) _ vb j hvw]; exact h
  have hcpA : ∀ (W : World), (∀ x, W.cell? x = W1.cell? x) → (∀ x, W.frozen? x = W1.frozen? x) → ∀ ty dc, (Builtin.copy_ #[36, 36] ty #[.slice (some ⟨w.heap.size, i * 2, none⟩) (n + 1 - i) dc, .slice (some ⟨vb, 0, none⟩) 1 vc]).run Tryz.prog W = .ok (goInt (Nat.min 1 (n + 1 - i))) (W.setCells w.heap.size (i * 2) vs) := fun W hWc hWf ty dc =>
    jcq W ty w.heap.size (i * 2) (n + 1 - i) dc ⟨vb, 0, none⟩ 1 vc vs (by rw [hvl]; simp only [Nat.min_def]; split <;> omega)
      (fun j v hj => by rw [Addr.add_lit, hWc, jhQ]; exact hOv _ v (hvs j v hj))
      (fun j hj => by rw [hWc]; exact hN _ (by omega)) (fun j hj => by rw [hWf]; exact hNf _) h1v
  have hGn : n + 1 ≤ G := by rw [hG]; exact grownCap_ge w _ _ _
  have hG63 : G ≤ 9223372036854775807 := by
    have := grownCap_le_maxLen w (n + 1) c 33 (by unfold maxLen; omega)
    rw [← hG] at this
    unfold maxLen at this
    omega
  have hGi : ¬ (G = i) := by omega
  have hGim : ¬ (G = i + 1) := by omega
  have hci : ¬ (c = i) := by omega
  have hbN : b ≠ w.heap.size := by omega
  have hdl : (us.drop (i * 2)).length = (n - i) * 2 := by rw [jiA, hcl]; omega
  have hcpB : ∀ (W : World), (∀ x, W.cell? x = (W1.setCells w.heap.size (i * 2) vs).cell? x) → (∀ x, W.frozen? x = (W1.setCells w.heap.size (i * 2) vs).frozen? x) → ∀ ty dc sc, (Builtin.copy_ #[36, 36] ty #[.slice (some ⟨w.heap.size, (i + 1) * 2, none⟩) (n + 1 - (i + 1)) dc, .slice (some ⟨b, i * 2, none⟩) (n - i) sc]).run Tryz.prog W = .ok (goInt (Nat.min (n - i) (n + 1 - (i + 1)))) (W.setCells w.heap.size ((i + 1) * 2) (us.drop (i * 2))) := fun W hWc hWf ty dc sc =>
    jcq W ty w.heap.size ((i + 1) * 2) (n + 1 - (i + 1)) dc ⟨b, i * 2, none⟩ (n - i) sc (us.drop (i * 2)) (by rw [hdl]; simp only [Nat.min_def]; split <;> omega)
      (fun j v hj => by
        rw [Addr.add_lit, hWc, World.cell?_setCells_out _ _ _ _ _ (fun h _ => absurd h hbN)]
        exact hOb _ v (hcs (i * 2 + j) v (by rwa [List.getElem?_drop] at hj)))
      (fun j hj => by rw [hWc]; exact ja0 _ _ _ _ (fun t ht => hN _ (by omega)) _ (hN _ (by omega)))
      (fun j hj => by rw [hWf, World.frozen?_setCells]; exact hNf _) (fun v hv => h1c v (jis hv))
  subst hW1
  have hE1 : ∀ x, ((w.alloc (.cells ROW 33)).drew).cell? x = (w.drew.alloc (.cells ROW 33)).cell? x := fun x => rfl
  have hE2 : ∀ x, ((w.alloc (.cells ROW 33)).drew).frozen? x = (w.drew.alloc (.cells ROW 33)).frozen? x := fun x => rfl
  have hF1 : ∀ x, (((w.alloc (.cells ROW 33)).drew.setCells w.heap.size (i * 2) vs).drew).cell? x = ((w.drew.alloc (.cells ROW 33)).setCells w.heap.size (i * 2) vs).cell? x := fun x => rfl
  have hF2 : ∀ x, (((w.alloc (.cells ROW 33)).drew.setCells w.heap.size (i * 2) vs).drew).frozen? x = ((w.drew.alloc (.cells ROW 33)).setCells w.heap.size (i * 2) vs).frozen? x := fun x => rfl
  have hdl2 : (i + 1) * 2 + (us.drop (i * 2)).length = (n + 1) * 2 := by rw [hdl]; omega
  have hw1 : IntKind.i64.wrap ((i : Int) + 1) = (i : Int) + 1 := by rw [IntKind.wrap_i64]; omega
  have hb1 : (0 : Int) ≤ (i : Int) + 1 := by omega
  have hin : i ≤ n := by omega
  have htn : ((i : Int) + 1).toNat = i + 1 := by omega
  have hb3 : (i : Int) ≤ (n : Int) := by omega
  clear hkk hik hold hROW hG hRl
  go_enter Tryz.func126, Tryz.ntmps126
  go_wp2_with (first
    | (at_builtin; refine Lib.wpList_append_run _ rfl _ _ _ _ rfl _ _ rfl rfl _ _ (hrz _) ?_)
    | (at_builtin; refine jbB _ rfl _ _ 36 36 rfl _ _ rfl rfl (hcpA _ hE1 hE2 _ _) ?_)
    | (at_builtin; refine jbB _ rfl _ _ 36 36 rfl _ _ rfl rfl (hcpB _ (fun _ => rfl) (fun _ => rfl) _ _ _) ?_))
  go_region_law_o (refine jcZ rfl _ _ 36 36 rfl (.slice (some ⟨w.heap.size, (i + 1) * 2, none⟩) (n + 1 - (i + 1)) (G - (i + 1))) (.slice (some ⟨b, i * 2, none⟩) (n - i) (c - i)) (by simp [Act.eval, Act.put]) (by simp [Act.eval, Act.put]) (hcpB _ hF1 hF2 3 (G - (i + 1)) (c - i)) ?_)
  go_wp2
  go_ret
  exact ⟨rfl, rfl⟩
theorem jfX (n c i b vb vc:Nat)(us vs:List Value)(w:World)(hi:i<n)(hroom:n+1≤c)(hbig:n≤1000000)(hvb:vb≠b)(hcl:us.length=n*2)(hvl:vs.length=2)
  (hcs:∀ j v,us[j]? = some v→w.cell? ⟨b,j,none⟩=some v) (hsp:∀ j,j<(n+1)*2→(w.cell? ⟨b,j,none⟩).isSome=true) (hfz:∀ j,w.frozen? ⟨b,j,none⟩=false)
  (hvs:∀ j v,vs[j]? = some v→w.cell? ⟨vb,j,none⟩=some v) (h1c:∀ v∈us,v.oneCell'=true) (h1v:∀ v∈vs,v.oneCell'=true)
  (tA tB:TypeId) (kA kB:Nat) (hsa:w.shape? vb=some (tA,kA)) (hsb:w.shape? b=some (tB,kB)) (hkB:kB≠0) (hfa:w.frozen? ⟨vb,0,none⟩=false) (hfe:w.frozen? ⟨vb,kA,none⟩=false) :
  Calls Tryz.prog 126 #[.slice (some ⟨b,0,none⟩) n c,.int .i64 i,.slice (some ⟨vb,0,none⟩) 1 vc] w fun e w'=>
   e = .returned (.slice (some ⟨b,0,none⟩) (n+1) c)∧w'=(w.drew.setCells b ((i+1)*2) (us.drop (i*2))).setCells b (i*2) vs:=by
 have mixed:Tryz.prog.follows .mixedOrders=true:=by kernel_rfl
 have hz2:¬ ((i:Int)=(n:Int)):=by omega
 have hsz:∀ w,(Go.sizeOf 33).run Tryz.prog w = .ok 2 w:=fun w=>by
  obtain⟨i0,hi0,_,hzs,_⟩:=info_parts jdj
  simp[sizeOf,typeInfo,hi0,hzs]
 have hov:∀ lb cb,(callFunc 199 #[.slice (some ⟨vb,0,none⟩) 1 vc,.slice (some ⟨b,(i+1)*2,none⟩) lb cb]).run Tryz.prog w = .ok (.value (.bool false)) w:=fun lb cb=>by
  rw[run_callFunc_extern Tryz.func199 (by kernel_rfl) (by kernel_rfl) (by kernel_rfl) (e:=Extern.SlicesOverlaps.overlaps #[36,36] #[4]) (by kernel_rfl),
   Lib.run_overlaps_apart w 36 4 33 opSl 2 hsz ⟨vb,0,none⟩ ⟨b,(i+1)*2,none⟩ 1 vc lb cb hvb tA tB kA kB hsa hsb hkB hfa hfe]
  rfl
 have hdl:(us.drop (i*2)).length=(n-i)*2:=by rw[jiA,hcl];omega
 have hw1:IntKind.i64.wrap ((i:Int)+1)=(i:Int)+1:=by rw[IntKind.wrap_i64];omega
 have hb1:(0:Int)≤(i:Int)+1:=by omega
 have hin:i≤n:=by omega
 have htn:((i:Int)+1).toNat=i+1:=by omega
 have hb2:¬ (c=i+1):=by omega
 have hb3:(i:Int)≤(n:Int)+1:=by omega
 have hb4:¬ (c=i):=by omega
 have hcp1:∀ ty dc sc,(Builtin.copy_ #[36,36] ty #[.slice (some ⟨b,(i+1)*2,none⟩) (n-i) dc,.slice (some ⟨b,i*2,none⟩) (n+1-i) sc]).run Tryz.prog w.drew = .ok (goInt (Nat.min (n+1-i) (n-i))) (w.drew.setCells b ((i+1)*2) (us.drop (i*2))):=fun ty dc sc=>
  jcq w.drew ty b ((i+1)*2) (n-i) dc ⟨b,i*2,none⟩ (n+1-i) sc (us.drop (i*2)) (by rw[hdl];simp only[Nat.min_def];split<;>omega)
   (fun j v hj=>by rw[Addr.add_lit];exact hcs (i*2+j) v (by rwa [List.getElem?_drop] at hj))
   (fun j hj=>hsp _ (by omega)) (fun j hj=>hfz _) (fun v hv=>h1c v (jis hv))
 obtain⟨W1,hW1⟩:∃ W1,W1=w.drew.setCells b ((i+1)*2) (us.drop (i*2)):=⟨_,rfl⟩
 have hsp1:∀ k,k<(n+1)*2→(W1.cell? ⟨b,k,none⟩).isSome=true:=fun k hk=>by
  rw[hW1]
  refine ja0 b (us.drop (i*2)) ((i+1)*2) w.drew (fun j hj=>hsp _ ?_) _ (hsp k hk)
  omega
 have hcp2:∀ (W:World),(∀ x,W.cell? x=W1.cell? x)→(∀ x,W.frozen? x=W1.frozen? x) → ∀ ty dc,(Builtin.copy_ #[36,36] ty #[.slice (some ⟨b,i*2,none⟩) (n+1-i) dc,.slice (some ⟨vb,0,none⟩) 1 vc]).run Tryz.prog W = .ok (goInt (Nat.min 1 (n+1-i))) (W.setCells b (i*2) vs):=fun W hWc hWf ty dc=>
  jcq W ty b (i*2) (n+1-i) dc ⟨vb,0,none⟩ 1 vc vs (by rw[hvl];simp only[Nat.min_def];split<;>omega)
   (fun j v hj=>by
    rw[Addr.add_lit,hWc,hW1,World.cell?_setCells_out b _ _ _ _ (fun h _=>absurd h hvb),jhQ]
    exact hvs j v hj)
   (fun j hj=>by rw[hWc];exact hsp1 _ (by omega)) (fun j hj=>by rw[hWf,hW1,World.frozen?_setCells];exact hfz _) h1v
 rw[← hW1] at hcp1
 go_enter Tryz.func126,Tryz.ntmps126
 go_wp2_with (simp only[hov])
 go_region_law_o (refine jcZ rfl _ _ 36 36 rfl _ _ (by simp[Act.eval,Act.put]) (by simp[Act.eval,Act.put]) (hcp1 _ _ _) ?_)
 go_wp2_with (at_builtin;refine jbB _ rfl _ _ 36 36 rfl _ _ rfl rfl (hcp2 _ (fun _=>rfl) (fun _=>rfl) _ _) ?_)
 go_ret
 first|exact⟨rfl,rfl⟩|exact⟨rfl,by rw[hW1]⟩
set_option maxHeartbeats 4000000
set_option maxRecDepth 1000000
theorem jey (n c b vb vc:Nat)(w w1:World)(v':Value)(hnc:n≤c)(hbig:n≤1000000)(hrun:∀ ty,(Builtin.append_ #[36,36] ty #[.slice (some ⟨b,0,none⟩) n c,.slice (some ⟨vb,0,none⟩) 1 vc]).run Tryz.prog w = .ok v' w1) :
  Calls Tryz.prog 126 #[.slice (some ⟨b,0,none⟩) n c,.int .i64 (n:Int),.slice (some ⟨vb,0,none⟩) 1 vc] w fun e w'=>
   e = .returned v'∧w'=w1:=by
 have mixed:Tryz.prog.follows .mixedOrders=true:=by kernel_rfl
 go_enter Tryz.func126,Tryz.ntmps126
 go_wp2_with (at_builtin;refine Lib.wpList_append_run _ rfl _ _ _ _ rfl _ _ rfl rfl _ _ (hrun _) ?_)
 all_goals (go_ret;first|done|exact⟨rfl,rfl⟩)
set_option maxHeartbeats 4000000
structure Alone (b:Nat)(w w':World):Prop where
 os:w'.os=w.os
 tape:w'.tape=w.tape
 output:w'.output=w.output
 size:w.heap.size≤w'.heap.size
 block:∀ k,k<w.heap.size→k≠b→w'.heap[k]? = w.heap[k]?
theorem Alone.refl (b:Nat)(w:World):Alone b w w:=⟨rfl,rfl,rfl,jhS _,fun _ _ _=>rfl⟩
theorem Alone.drew {b:Nat}{a w:World}(h:Alone b a w):Alone b a w.drew:=⟨h.os,h.tape,h.output,h.size,h.block⟩
theorem Alone.drewN {b:Nat}{a w:World}(h:Alone b a w)(q:Nat):Alone b a (w.drewN q):=⟨h.os,h.tape,h.output,h.size,h.block⟩
theorem Alone.alloc {b:Nat}{a w:World}(h:Alone b a w)(o:Obj):Alone b a (w.alloc o):=
 ⟨h.os,h.tape,h.output,jhT h.size (by simp),fun k hk hb=>by rw[Below.heap_alloc _ _ _ (jhY hk h.size)];exact h.block k hk hb⟩
theorem Alone.setCells {b : Nat} {a : World} (d : Nat) (hd : d = b ∨ a.heap.size ≤ d) : ∀ (vs : List Value) (o : Nat) {w : World}, Alone b a w → Alone b a (w.setCells d o vs)
  | [], _, _, h => h
  | v :: r, o, w, h => Alone.setCells d hd r (o + 1) ⟨h.os, h.tape, h.output, by simpa [World.setCell] using h.size, fun k hk hb => by
      rw [Below.heap_setCell _ _ _ _ (by show k ≠ d; omega)]; exact h.block k hk hb⟩
theorem MS.gave {cx:Cx}{E:Env}{h:Pub}{w w':World}{H:Hp}(M:MS cx E h w H){i b:Nat}{ds:List D}{vals:List Value}(hi:lookH H i=some (.box ds))(ri:E.real i=true)(hb:b=E.blk i∨w.heap.size≤b)
  (ha:Alone (E.blk i) w w') (hcell:∀ (o:Nat) v,vals[o]? = some v→w'.cell? ⟨b,o,none⟩=some v) :
  h.Le (jal vals b h)∧MS cx E (jal vals b h) w' ((i,.gone)::H):=by
 have hun:∀ o,h b o=none:=fun o=>by
  rcases hb with rfl|hb
  ·exact M.mem.unpub i _ hi rfl ri o
  ·cases hv:h b o with
   | none=>rfl
   | some v=>exact absurd (M.agree.lt hv) (by omega)
 have hB:=M.mem.base i _ hi rfl ri
 have hbB:cx.w0.heap.size≤b:=by
  rcases hb with rfl|hb
  ·exact hB
  ·exact jhT M.since.below.size hb
 obtain⟨csi,Ti,fi,hci⟩:=(M.mem.ok i _ hi).cells rfl ri
 have hle:=jaH hun vals
 have live:∀ j c,lookH ((i,.gone)::H) j=some c→c.live=true→j≠i∧lookH H j=some c:=by
  intro j c hc hl
  rw[jad] at hc
  split at hc
  ·cases hc;simp[Chunk.live] at hl
  ·rename_i e;exact⟨Ne.symm e,hc⟩
 have ag:Agree h w':=M.agree.of_blocks fun k ⟨x,v,hv⟩=>ha.block k (M.agree.lt hv) fun e=>by
  rw[e,M.mem.unpub i _ hi rfl ri x] at hv;cases hv
 refine⟨hle,⟨?_,?_,?_,?_⟩,⟨fun k o v hv=>?_,ag.glob.mono hle,ag.blk,fun g hg=>by
  obtain⟨v,hv⟩:=ag.errs g hg
  exact⟨v,hle _ _ _ hv⟩⟩,⟨M.since.below.trans ⟨ha.os,ha.tape,ha.output,ha.size,fun k hk=>ha.block k (jhY hk M.since.below.size) (by omega)⟩,M.since.le.trans hle,fun k hk o=>?_⟩,M.low,fun k q hq=>?_⟩
 ·intro j c hc
  cases hl:c.live with
  | false=>cases c<;>first|trivial|simp[Chunk.live] at hl
  | true=>
   obtain⟨hj,hc⟩:=live j c hc hl
   exact ChunkOk.mono hle ((M.mem.ok j c hc).keep fun hlv hr=>ha.block _ ((M.mem.ok j c hc).lt hlv hr) (M.mem.inj j i c _ hj hc hi hlv rfl hr ri))
 ·exact fun j c hc hl=>M.mem.base j c (live j c hc hl).2 hl
 ·intro j c hc hl hr o
  obtain⟨hj,hc⟩:=live j c hc hl
  unfold jal
  rw[if_neg (fun e=>by
   rcases hb with rfl|hb
   ·exact M.mem.inj j i c _ hj hc hi hl rfl hr ri e
   ·have:=(M.mem.ok j c hc).lt hl hr
    omega)]
  exact M.mem.unpub j c hc hl hr o
 ·exact fun j k c1 c2 hjk h1 h2 l1 l2=>M.mem.inj j k c1 c2 hjk (live j c1 h1 l1).2 (live k c2 h2 l2).2 l1 l2
 ·unfold jal at hv
  split at hv
  ·rename_i e;subst e;exact hcell o v hv
  ·exact ag k o v hv
 ·unfold jal
  rw[if_neg (by omega)]
  exact M.since.old k hk o
 ·obtain⟨h1,h2,h3⟩:=M.objs k q hq
  exact⟨h1,h2,by rw[ha.block k (Array.getElem?_eq_some_iff.1 h3).1 (fun e=>by rw[e,hci] at h3;cases h3;cases h2.1)];exact h3⟩
theorem jdi:∀ {a b:List D},D.pureL a=true→D.pureL b=true→D.pureL (a++b)=true
 | [],_,_,h=>h
 | x::xs,b,h,k=>by
  simp only[jih,D.pureL] at h ⊢
  cases hx:D.pure x with
  | false=>rw[hx] at h;cases h
  | true=>rw[hx] at h;exact jdi h k
theorem jdz:∀ {a:List D} (n:Nat),D.pureL a=true→D.pureL (a.take n)=true
 | [],n,h=>by rw[List.take_nil];exact h
 | x::xs,0,h=>rfl
 | x::xs,n+1,h=>by
  simp only[List.take_succ_cons,D.pureL] at h ⊢
  cases hx:D.pure x with
  | false=>rw[hx] at h;cases h
  | true=>rw[hx] at h;exact jdz n h
theorem jdA:∀ {a:List D} (n:Nat),D.pureL a=true→D.pureL (a.drop n)=true
 | [],n,h=>by rw[List.drop_nil];exact h
 | x::xs,0,h=>h
 | x::xs,n+1,h=>by
  simp only[D.pureL] at h
  cases hx:D.pure x with
  | false=>rw[hx] at h;cases h
  | true=>rw[hx] at h;exact jdA n h
theorem jgU {E:Env}{h h1:Pub}{ds:List D}{vals:List Value}{m cap b:Nat}(hd:DenL E h ds vals)(hp:D.pureL ds=true)(hl:vals.length=m*2)(h1c:∀ v∈vals,v.oneCell'=true)(hle:h.Le h1)(hc:∀ (o:Nat) v,vals[o]? = some v→h1 b o=some v)(hm:m≤cap)(hb:m≤281474976710656) :
  Den E h1 (.slf 2 m (fun t=>(ds.drop (t*2)).take 2)) (.slice (some ⟨b,0,none⟩) m cap):=by
 simp only[Den]
 refine⟨some ⟨b,0,none⟩,cap,rfl,hm,hb,rfl,fun j hj=>⟨(vals.drop (j*2)).take 2,DenL.mono hle ((DenL.pure (E':=Env.dummy) hp hd).drop (j*2) |>.take 2),by rw[jio,jiA,hl];omega,fun v hv=>h1c v (jis (jit hv)),fun i v hv=>?_⟩⟩
 rw[List.getElem?_take] at hv
 split at hv
 ·rw[List.getElem?_drop] at hv
  exact hc _ v (by rw[jhQ];exact hv)
 ·cases hv
theorem ins_vals (us vs:List Value)(j n:Nat)(hj:j≤n)(hl:us.length=n*2)(hv:vs.length=2)(c:Nat→Option Value)(h1:∀ o,o<j*2→c o=us[o]?)(h2:∀ t,t<2→c (j*2+t)=vs[t]?)(h3:∀ t,t<(n-j)*2→c ((j+1)*2+t)=(us.drop (j*2))[t]?) :
  ∀ (o:Nat) v,(us.take (j*2)++vs++us.drop (j*2))[o]? = some v→c o=some v:=by
 intro o v ho
 have hlt:(us.take (j*2)).length=j*2:=by rw[jio,hl];omega
 rcases jhZ o (j*2) with a|a
 ·rw[h1 o a,← ho,jip,jiq (by omega),List.getElem?_take,if_pos a]
 ·rcases jhZ o (j*2+2) with b|b
  ·have:=h2 (o-j*2) (by omega)
   rw[show j*2+(o-j*2)=o by omega] at this
   rw[this,← ho,jip,jiy (by omega),hlt,jiq (by omega)]
  ·have hlen:o<(us.take (j*2)++vs++us.drop (j*2)).length:=(jir.1 ho).1
   simp only[jin,hlt,hv,jiA,hl] at hlen
   have:=h3 (o-(j*2+2)) (by omega)
   rw[show (j+1)*2+(o-(j*2+2))=o by omega] at this
   rw[this,← ho,jiy (by simp only[jin,hlt,hv];omega)]
   simp only[jin,hlt,hv]
def insO:Inl:=fun _ g ds _ H K _=>g=126 ∧ ∃ (i n j k:Nat) (vs news:List D),ds=[.bsl i 0 n 2,.int .i64 j,.bsl k 0 1 2]∧i≠k∧lookH H i=some (.box vs)∧lookH H k=some (.box news)∧vs.length=n*2∧news.length=2∧D.pureL vs=true∧D.pureL news=true∧j≤n∧n≤1000000 ∧
 K (.slf 2 (n+1) (fun t=>((vs.take (j*2)++news++vs.drop (j*2)).drop (t*2)).take 2)) ((i,.gone)::H)
def delO:Inl:=fun _ g ds _ H K _=>g=127 ∧ ∃ (i n j:Nat) (vs:List D),ds=[.bsl i 0 n 2,.int .i64 j,.int .i64 ((j+1:Nat):Int)]∧lookH H i=some (.box vs)∧vs.length=n*2∧D.pureL vs=true∧j<n∧n≤1000000 ∧
 K (.slf 2 (n-1) (fun t=>((vs.take (j*2)++vs.drop ((j+1)*2)).drop (t*2)).take 2)) ((i,.gone)::H)
theorem DenL.three {E:Env}{h:Pub}{a b c:D}{vs:List Value}(H:DenL E h [a,b,c] vs):∃ x y z,vs=[x,y,z]∧Den E h a x∧Den E h b y∧Den E h c z:=by
 simp only[DenL] at H
 obtain⟨x,_,rfl,hx,y,_,rfl,hy,z,_,rfl,hz,rfl⟩:=H
 exact⟨x,y,z,rfl,hx,hy,hz⟩
theorem delO_ok:InlOk Tryz.prog delO:=by
 intro yl g ds off H K KP hh cx E h w vs hoff hds hyl M hv
 obtain⟨rfl,i,n,j,us,rfl,hi,hul,hpu,hj,hn,hK⟩:=hh
 refine⟨jaz Tryz.func127 rfl rfl,callsIn_wide.2 ?_⟩
 obtain⟨x,y,z,rfl,hx,hy,hz⟩:=DenL.three hv
 simp only[Den] at hx hy hz
 obtain⟨ri,cap,rfl,hc1,hc2,hc3⟩:=hx
 obtain⟨_,uv,rest,T,hb,hd,hone,hsz⟩:=M.mem.ok i _ hi
 have hul2:uv.length=n*2:=by rw[hd.length,hul]
 refine(show Calls Tryz.prog _ #[.slice (some ⟨E.blk i,0,none⟩) n cap,y,z] w _ by rw[hy.1,hz.1];exact del_run j n cap (E.blk i) uv rest T w hb hul2 hj hc1 hn hone).mono ?_
 rintro e w' ⟨rfl,q,rfl⟩
 have hcell:∀ t,t<n*2→((w.drewN q).cell? ⟨E.blk i,t,none⟩).isSome=true:=fun t ht=>by
  show (w.cell? ⟨E.blk i,t,none⟩).isSome=true
  rw[jaZ hb (jim (by omega))];rfl
 have hdl:(uv.drop ((j+1)*2)).length=(n-(j+1))*2:=by rw[jiA,hul2];omega
 have al:Alone (E.blk i) w (((w.drewN q).setCells (E.blk i) (j*2) (uv.drop ((j+1)*2))).setCells (E.blk i) ((n-1)*2) [.int .i64 0,.int .i64 0]):=
  Alone.setCells _ (.inl rfl) _ _ (Alone.setCells _ (.inl rfl) _ _ ((Alone.refl _ w).drewN q))
 have hvals:∀ (o:Nat) v,(uv.take (j*2)++uv.drop ((j+1)*2))[o]? = some v→(((w.drewN q).setCells (E.blk i) (j*2) (uv.drop ((j+1)*2))).setCells (E.blk i) ((n-1)*2) [.int .i64 0,.int .i64 0]).cell? ⟨E.blk i,o,none⟩=some v:=by
  intro o v ho
  have hlt:(uv.take (j*2)).length=j*2:=by rw[jio,hul2];omega
  have hlen:=(jir.1 ho).1
  simp only[jin,hlt,hdl] at hlen
  rw[World.cell?_setCells_out _ _ _ _ _ (fun _ _=>by show o<_∨_;left;omega)]
  rcases jhZ o (j*2) with a|a
  ·rw[World.cell?_setCells_out _ _ _ _ _ (fun _ _=>by show o<_∨_;left;omega)]
   rw[jiq (by omega),List.getElem?_take,if_pos a] at ho
   exact jaZ hb ho
  ·rw[jiy (by omega),hlt] at ho
   have:=World.cell?_setCells_in (E.blk i) (uv.drop ((j+1)*2)) (j*2) (w.drewN q) (fun t ht=>hcell _ (by omega)) (o-j*2) (by omega)
   rw[show j*2+(o-j*2)=o by omega] at this
   rw[this,← ho,jim]
 obtain⟨hle,M'⟩:=MS.gave M hi ri (.inl rfl) al hvals
 refine .inl ⟨_,_,E,_,_,rfl,hK,jgU ((hd.take (j*2)).append (hd.drop ((j+1)*2))) ?_ (by rw[jin,jio,hul2,hdl];omega) ?_ hle (fun o v ho=>by unfold jal;rw[if_pos rfl];exact ho) (by omega) (by omega),M'⟩
 ·exact jdi (jdz _ hpu) (jdA _ hpu)
 ·intro v hv
  rcases List.mem_append.1 hv with hv|hv
  ·exact hone v (jit hv)
  ·exact hone v (jis hv)
theorem insO_ok:InlOk Tryz.prog insO:=by
 intro yl g ds off H K KP hh cx E h w vs hoff hds hyl M hv
 obtain⟨rfl,i,n,j,k,us,ns,rfl,hik,hi,hk,hul,hnl,hpu,hpn,hj,hn,hK⟩:=hh
 refine⟨jaz Tryz.func126 rfl rfl,callsIn_wide.2 ?_⟩
 obtain⟨x,y,z,rfl,hx,hy,hz⟩:=DenL.three hv
 simp only[Den] at hx hy hz
 obtain⟨ri,cap,rfl,hc1,hc2,hc3⟩:=hx
 obtain⟨rk,vc,rfl,hv1,hv2,hv3⟩:=hz
 obtain⟨_,uv,rest,T,hb,hd,hone,hsz⟩:=M.mem.ok i _ hi
 obtain⟨_,nv,rest2,T2,hb2,hd2,hone2,hsz2⟩:=M.mem.ok k _ hk
 have hul2:uv.length=n*2:=by rw[hd.length,hul]
 have hnl2:nv.length=2:=by rw[hd2.length,hnl]
 have hne:E.blk k≠E.blk i:=M.mem.inj k i _ _ (Ne.symm hik) hk hi rfl rfl rk ri
 have hdl:(uv.drop (j*2)).length=(n-j)*2:=by rw[jiA,hul2];omega
 have hcs:∀ (t:Nat) v,uv[t]? = some v→w.cell? ⟨E.blk i,t,none⟩=some v:=fun t v ht=>jaZ hb ht
 have hns:∀ (t:Nat) v,nv[t]? = some v→w.cell? ⟨E.blk k,t,none⟩=some v:=fun t v ht=>jaZ hb2 ht
 -- what comes back, whichever way
 have fin:∀ (b cp:Nat) (w':World),(b=E.blk i∨w.heap.size≤b)→Alone (E.blk i) w w'→n+1≤cp→(∀ o,o<j*2→w'.cell? ⟨b,o,none⟩=uv[o]?)→(∀ t,t<2→w'.cell? ⟨b,j*2+t,none⟩=nv[t]?)→(∀ t,t<(n-j)*2→w'.cell? ⟨b,(j+1)*2+t,none⟩=(uv.drop (j*2))[t]?) →
   (∃ v r E' h' H',Ending.returned (.slice (some ⟨b,0,none⟩) (n+1) cp) = .returned v∧K r H'∧Den E' h' r v∧MS cx E' h' w' H') ∨ ∃ v E' h' H',Ending.returned (.slice (some ⟨b,0,none⟩) (n+1) cp) = .panicked [{ v:=v,recovered:=false }]∧KP v H'∧MS cx E' h' w' H':=by
  intro b cp w' hbb al hcp h1 h2 h3
  have hvals:=ins_vals uv nv j n hj hul2 hnl2 (fun o=>w'.cell? ⟨b,o,none⟩) h1 h2 h3
  obtain⟨hle,M'⟩:=MS.gave M hi ri hbb al hvals
  refine .inl ⟨_,_,E,_,_,rfl,hK,jgU (((hd.take (j*2)).append hd2).append (hd.drop (j*2))) ?_ (by rw[jin,jin,jio,hul2,hnl2,hdl];omega) ?_ hle (fun o v ho=>by unfold jal;rw[if_pos rfl];exact ho) hcp (by omega),M'⟩
  ·exact jdi (jdi (jdz _ hpu) hpn) (jdA _ hpu)
  ·intro v hv
   rcases List.mem_append.1 hv with hv|hv
   ·rcases List.mem_append.1 hv with hv|hv
    ·exact hone v (jit hv)
    ·exact hone2 v hv
   ·exact hone v (jis hv)
 rcases Nat.lt_or_eq_of_le hj with hj|hj
 case inr=>
  subst hj
  have hdn:uv.drop (j*2)=[]:=List.drop_eq_nil_of_le (by omega)
  rcases jhZ cap (j+1) with hr|hr
  ·obtain⟨i0,hi0,hz0,hzs,hzb⟩:=info_parts jdj
   have hrun:∀ ty,(Builtin.append_ #[36,36] ty #[.slice (some ⟨E.blk i,0,none⟩) j cap,.slice (some ⟨E.blk k,0,none⟩) 1 vc]).run Tryz.prog w=_:=fun ty=>
    run_append_grow (P:=Tryz.prog) w 36 ty 33 i0 _ opSl hi0 hz0 ⟨E.blk i,0,none⟩ j cap uv (by rw[hzs];exact hul2) (fun t v ht=>by rw[Addr.add_lit,jhQ];exact hcs t v ht) ⟨E.blk k,0,none⟩ 1 vc nv (by rw[hzs];exact hnl2) (fun t v ht=>by rw[Addr.add_lit,jhQ];exact hns t v ht) hr (by omega) (growslice_fits (by omega) (by rw[hzb];omega))
   refine(show Calls Tryz.prog _ #[.slice (some ⟨E.blk i,0,none⟩) j cap,y,.slice (some ⟨E.blk k,0,none⟩) 1 vc] w _ by rw[hy.1];exact jey j cap (E.blk i) (E.blk k) vc w _ _ hc1 hn hrun).mono ?_
   rintro e w' ⟨rfl,rfl⟩
   refine fin w.heap.size _ _ (.inr (jhS _)) (Alone.alloc (Alone.refl _ w).drew _) (jaP _ _ _ _) ?_ ?_ ?_
   ·intro o ho
    rw[World.cell?_alloc_at (w:=w.drew) _ _ w.heap.size o rfl,Array.append_assoc,Array.getElem?_append_left (by simp only[List.size_toArray,hul2];exact ho),jiz]
   ·intro t ht
    rw[World.cell?_alloc_at (w:=w.drew) _ _ w.heap.size _ rfl,Array.append_assoc,Array.getElem?_append_right (by simp only[List.size_toArray,hul2];omega),Array.getElem?_append_left (by simp only[List.size_toArray,hul2,hnl2];omega),jiz]
    congr 1
    simp only[List.size_toArray,hul2]
    omega
   ·intro t ht
    omega
  ·obtain⟨i0,hi0,hz0,hzs,hzb⟩:=info_parts jdj
   have hsp:∀ t,t<(j+1)*2→(w.cell? ⟨E.blk i,t,none⟩).isSome=true:=fun t ht=>by
    have h4:cap*2≤uv.length+rest.length:=by
     rcases hc3 with h5|h5|h5
     ·omega
     ·exact absurd rfl h5
     ·rw[← hsz];exact h5
    rw[jbw hb (jim (by rw[jin];omega))]
    rfl
   have hrun:∀ ty,(Builtin.append_ #[36,36] ty #[.slice (some ⟨E.blk i,0,none⟩) j cap,.slice (some ⟨E.blk k,0,none⟩) 1 vc]).run Tryz.prog w=_:=fun ty=>
    run_append_room_cells (P:=Tryz.prog) w 36 ty 33 i0 opSl hi0 (E.blk i) 0 j cap ⟨E.blk k,0,none⟩ 1 vc nv (by rw[hzs];exact hnl2) (fun t v ht=>by rw[Addr.add_lit,jhQ];exact hns t v ht) hone2 hr (fun t ht=>by rw[hzs];exact hsp _ (by omega)) (fun t ht=>jck hb)
   refine(show Calls Tryz.prog _ #[.slice (some ⟨E.blk i,0,none⟩) j cap,y,.slice (some ⟨E.blk k,0,none⟩) 1 vc] w _ by rw[hy.1];exact jey j cap (E.blk i) (E.blk k) vc w _ _ hc1 hn hrun).mono ?_
   rintro e w' ⟨rfl,rfl⟩
   refine fin (E.blk i) cap _ (.inl rfl) (Alone.setCells _ (.inl rfl) _ _ (Alone.refl _ w)) hr ?_ ?_ ?_
   ·intro o ho
    rw[World.cell?_setCells_out _ _ _ _ _ (fun _ _=>by show o<_∨_;left;rw[hzs];omega)]
    rw[hcs o _ (jim (by omega)),jim]
   ·intro t ht
    rw[hzs,jhQ]
    rw[World.cell?_setCells_in (E.blk i) nv (j*2) w (fun s hs=>hsp _ (by omega)) t (by omega),jim]
   ·intro t ht
    omega
 rcases jhZ cap (n+1) with hr|hr
 ·refine(show Calls Tryz.prog _ #[.slice (some ⟨E.blk i,0,none⟩) n cap,y,.slice (some ⟨E.blk k,0,none⟩) 1 vc] w _ by rw[hy.1];exact jgv n cap j (E.blk i) (E.blk k) vc uv nv w hj hc1 hr hn hul2 hnl2 hcs hns hone hone2).mono ?_
  rintro e w' ⟨rfl,rfl⟩
  have hg:n+1≤grownCap w (n+1) cap 33:=jaP _ _ _ _
  generalize hcells:(Obj.cells ((uv.take (j*2)).toArray++Builtin.zeroCells (Value.agg #[.int .i64 0,.int .i64 0]).cells (n+1-j)++Builtin.zeroCells (Value.agg #[.int .i64 0,.int .i64 0]).cells (grownCap w (n+1) cap 33-(n+1))) 33)=ob
  have hz:∀ m,(Builtin.zeroCells (Value.agg #[.int .i64 0,.int .i64 0]).cells m).size=m*2:=fun m=>by simp[Builtin.zeroCells,Value.cells]
  have hlt:(uv.take (j*2)).length=j*2:=by rw[jio,hul2];omega
  have hsome:∀ o,o<(n+1)*2→((w.alloc ob).drew.cell? ⟨w.heap.size,o,none⟩).isSome=true:=fun o ho=>by
   show ((w.alloc ob).cell? ⟨w.heap.size,o,none⟩).isSome=true
   rw[← hcells,World.cell?_alloc_new]
   rw[Array.getElem?_eq_getElem (by simp only[Array.size_append,List.size_toArray,hlt,hz];omega)]
   rfl
  have hold:∀ o,o<j*2→(w.alloc ob).cell? ⟨w.heap.size,o,none⟩=uv[o]? := fun o ho=>by
   rw[← hcells,World.cell?_alloc_new,Array.append_assoc,Array.getElem?_append_left (by simp only[List.size_toArray,hlt];exact ho)]
   simp only[jiz,List.getElem?_take,if_pos ho]
  refine fin w.heap.size _ _ (.inr (jhS _)) ?_ hg ?_ ?_ ?_
  ·exact Alone.setCells _ (.inr (jhS _)) _ _ (Alone.setCells _ (.inr (jhS _)) _ _ ((Alone.refl _ w).alloc ob).drew).drew
  ·intro o ho
   rw[World.cell?_setCells_out _ _ _ _ _ (fun _ _=>by show o<_∨_;left;omega)]
   show (World.setCells _ _ _ _).cell? _=_
   rw[World.cell?_setCells_out _ _ _ _ _ (fun _ _=>by show o<_∨_;left;omega)]
   exact hold o ho
  ·intro t ht
   rw[World.cell?_setCells_out _ _ _ _ _ (fun _ _=>by show _<_∨_;left;show j*2+t<_;omega)]
   show (World.setCells _ _ _ _).cell? _=_
   rw[World.cell?_setCells_in w.heap.size nv (j*2) (w.alloc ob).drew (fun s hs=>hsome _ (by omega)) t (by omega),jim]
  ·intro t ht
   rw[World.cell?_setCells_in w.heap.size (uv.drop (j*2)) ((j+1)*2) _ (fun s hs=>?_) t (by omega),jim]
   show ((World.setCells (w.alloc ob).drew _ _ _).cell? _).isSome=true
   exact ja0 w.heap.size nv (j*2) (w.alloc ob).drew (fun s hs=>hsome _ (by omega)) _ (hsome _ (by omega))
 ·have hsp:∀ t,t<(n+1)*2→(w.cell? ⟨E.blk i,t,none⟩).isSome=true:=fun t ht=>by
   have h4:cap*2≤uv.length+rest.length:=by
    rcases hc3 with h5|h5|h5
    ·omega
    ·exact absurd rfl h5
    ·rw[← hsz];exact h5
   rw[jbw hb (jim (by rw[jin];omega))]
   rfl
  refine(show Calls Tryz.prog _ #[.slice (some ⟨E.blk i,0,none⟩) n cap,y,.slice (some ⟨E.blk k,0,none⟩) 1 vc] w _ by
   rw[hy.1]
   exact jfX n cap j (E.blk i) (E.blk k) vc uv nv w hj hr hn hne hul2 hnl2 hcs hsp (fun t=>jck hb) hns hone hone2 T2 T (nv++rest2).length (uv++rest).length (by simp[World.shape?,hb2]) (by simp[World.shape?,hb]) (by rw[jin];omega) (jck hb2) (jck hb2)).mono ?_
  rintro e w' ⟨rfl,rfl⟩
  have hsp2:∀ t,t<(n+1)*2→((w.drew.setCells (E.blk i) ((j+1)*2) (uv.drop (j*2))).cell? ⟨E.blk i,t,none⟩).isSome=true:=fun t ht=>
   ja0 (E.blk i) (uv.drop (j*2)) ((j+1)*2) w.drew (fun s hs=>hsp _ (by omega)) t (hsp t ht)
  refine fin (E.blk i) cap _ (.inl rfl) ?_ hr ?_ ?_ ?_
  ·exact Alone.setCells _ (.inl rfl) _ _ (Alone.setCells _ (.inl rfl) _ _ (Alone.refl _ w).drew)
  ·intro o ho
   rw[World.cell?_setCells_out _ _ _ _ _ (fun _ _=>by show o<_∨_;left;omega),World.cell?_setCells_out _ _ _ _ _ (fun _ _=>by show o<_∨_;left;omega)]
   show w.cell? _=_
   rw[hcs o _ (jim (by omega)),jim]
  ·intro t ht
   rw[World.cell?_setCells_in (E.blk i) nv (j*2) _ (fun s hs=>hsp2 _ (by omega)) t (by omega),jim]
  ·intro t ht
   rw[World.cell?_setCells_out _ _ _ _ _ (fun _ _=>by show _∨_≤(j+1)*2+t;right;omega)]
   rw[World.cell?_setCells_in (E.blk i) (uv.drop (j*2)) ((j+1)*2) w.drew (fun s hs=>hsp _ (by omega)) t (by omega),jim]
def inlY (k:Nat):Inl:=fun yl g ds off H K KP=>inlN Tryz.prog tb k yl g ds off H K KP∨insO yl g ds off H K KP∨delO yl g ds off H K KP
theorem inlY_ok (k:Nat):InlOk Tryz.prog (inlY k):=fun yl g ds off H K KP hh=>by
 rcases hh with hh|hh|hh
 ·exact jc5 tbOk k yl g ds off H K KP hh
 ·exact insO_ok yl g ds off H K KP hh
 ·exact delO_ok yl g ds off H K KP hh
end Go.Proofs.YtpkdedncgclblaaGreatDoor
end
section
namespace Go.Proofs.YtpkdedncgclblaaGreatDoor
open Go Go.V
def dcode (n c0:Int):Int:=if tkn c0>n∨n=0∨(n>8∧tkn c0=0) then (if n>8 then 3 else 1) else c0
def darg (ins n c a:Int):Int:=if c=1 then (a%65536)%ins else if c=2 then 100*a else if c=11 then (a%65536)%n else 0
def dop (ins n:Int)(s:Int×Int):Int×Int:=(dcode n (1+s.1%12),darg ins n (dcode n (1+s.1%12)) s.2)
def dst (ins:Int)(t:List (Int×Int)×Int)(s:Int×Int):List (Int×Int)×Int:=(t.1++[dop ins t.2 s],t.2-tkn (dop ins t.2 s).1+1)
def dfo (ins:Int)(l:List (Int×Int)):List (Int×Int)×Int:=l.foldl (dst ins) ([],0)
theorem dfo_snoc (ins:Int)(l:List (Int×Int))(s:Int×Int):dfo ins (l++[s])=dst ins (dfo ins l) s:=by unfold dfo;rw[List.foldl_append];rfl
def dup (ins o:Int):Nat→List (Int×Int)×Int→List (Int×Int)×Int
 | 0,t=>t
 | k+1,t=>if t.2<o then dup ins o k (t.1++[(1,t.2%ins)],t.2+1) else t
def ddn (o:Int):Nat→List (Int×Int)×Int→List (Int×Int)×Int
 | 0,t=>t
 | k+1,t=>if t.2>o then ddn o k (t.1++[(3,0)],t.2-1) else t
def dprog (ins o:Int)(l:List (Int×Int)):List (Int×Int):=(ddn o 9 (dup ins o 3 (dfo ins (l.take 12)))).1
structure Good (ins:Int)(t:List (Int×Int)×Int)(m:Nat):Prop where
 ok:∃ d,svL ins (0,0) t.1=some (t.2,d)∧d≤9
 lo:0≤t.2
 hi:t.2≤9
 len:t.1.length≤m
theorem Good.snoc {ins:Int}{t:List (Int×Int)×Int}{m:Nat}{o:Int×Int}(h:Good ins t m)(h1:tkb o.1=true)(h2:tkn o.1≤t.2)(h3:loA o.1≤o.2)(h4:o.2≤hiA o.1 ins t.2)(h5:t.2-tkn o.1+1≤9):Good ins (t.1++[o],t.2-tkn o.1+1) (m+1):=by
 obtain⟨d,hd,h9⟩:=h.ok
 refine⟨⟨max d (t.2+(1-tkn o.1)),?_,by omega⟩,by dsimp only;omega,h5,by simp;exact h.len⟩
 dsimp only
 rw[jgR,hd]
 dsimp only
 unfold svL svS svL
 rw[if_pos ⟨h1,h2,h3,h4,by dsimp only;omega⟩]
 rw[show t.2+(1-tkn o.1)=t.2-tkn o.1+1 by omega]
theorem dop_code (ins n:Int)(s:Int×Int):tkb (dop ins n s).1=true:=by
 unfold dop dcode tkb
 dsimp only
 split
 ·split<;>decide
 ·simp only[decide_eq_true_eq];omega
theorem good_dst {ins:Int}(hi:1≤ins){t:List (Int×Int)×Int}{m:Nat}(h:Good ins t m)(s:Int×Int)(hs : -32768≤s.2∧s.2≤32767):Good ins (dst ins t s) (m+1):=by
 have g1:=h.lo
 have g2:=h.hi
 have t3:tkn 3=2:=rfl
 have t1:tkn 1=0:=rfl
 have key:tkn (dop ins t.2 s).1≤t.2∧t.2-tkn (dop ins t.2 s).1+1≤9∧((dop ins t.2 s).1=11→0<t.2):=by
  unfold dop dcode
  dsimp only
  have hb:=je9 (1+s.1%12)
  split
  ·split
   ·rw[t3];omega
   ·rw[t1];omega
  ·rename_i hn
   refine⟨by omega,?_,fun _=>by omega⟩
   omega
 refine h.snoc (dop_code ins t.2 s) key.1 ?_ ?_ key.2.1
 ·unfold loA dop darg
  dsimp only
  generalize dcode t.2 (1+s.1%12)=c
  split
  ·rename_i e;subst e;simp;omega
  ·split
   ·exact jhN _ (by omega)
   ·rename_i e1;split
    ·rename_i e;by_cases h0:t.2=0
     ·rw[h0,Int.emod_zero];omega
     ·exact jhN _ h0
    ·exact Int.le_refl _
 ·have k3:=key.2.2
  unfold hiA
  unfold dop at k3 ⊢
  dsimp only at k3 ⊢
  generalize dcode t.2 (1+s.1%12)=c at *
  unfold darg
  split
  ·rename_i e;subst e;simp;have:=jia (s.2%65536) (b:=ins) (by omega);omega
  ·rename_i e1
   split
   ·rename_i e;subst e;simp;omega
   ·rename_i e2
    split
    ·rename_i e;subst e;simp;have:=jia (s.2%65536) (b:=t.2) (k3 rfl);omega
    ·exact Int.le_refl _
theorem jgy {ins:Int}(hi:1≤ins):∀ (l:List (Int×Int)) {t:List (Int×Int)×Int} {m:Nat},Good ins t m→(∀ s∈l, -32768≤s.2∧s.2≤32767)→Good ins (l.foldl (dst ins) t) (m+l.length)
 | [],_,_,h,_=>h
 | s::l,t,m,h,hl=>by
  have:=jgy hi l (good_dst hi h s (hl s List.mem_cons_self)) (fun x hx=>hl x (List.mem_cons_of_mem _ hx))
  rw[jiv,show m+(l.length+1)=m+1+l.length by omega]
  exact this
theorem good_dfo {ins:Int}(hi:1≤ins)(l:List (Int×Int))(hl:∀ s∈l, -32768≤s.2∧s.2≤32767):Good ins (dfo ins l) (0+l.length):=
 jgy hi l ⟨⟨0,rfl,by decide⟩,Int.le_refl _,by decide,jhS _⟩ hl
theorem good_up {ins o:Int}(hi:1≤ins)(ho:o≤9):∀ (k:Nat) {t:List (Int×Int)×Int} {m:Nat},Good ins t m→Good ins (dup ins o k t) (m+k)
 | 0,_,_,h=>h
 | k+1,t,m,h=>by
  unfold dup
  split
  ·rename_i c
   have g:=h.snoc (o:=(1,t.2%ins)) rfl (by show (0:Int)≤t.2;exact h.lo) (by show (0:Int)≤_;exact jhN _ (by omega)) (by show t.2%ins≤ins-1;have:=jia t.2 (b:=ins) (by omega);omega) (by show t.2-0+1≤9;omega)
   have g2:Good ins (t.1++[(1,t.2%ins)],t.2+1) (m+1):=by
    have e:t.2-tkn 1+1=t.2+1:=by show t.2-0+1=_;omega
    rw[← e];exact g
   rw[show m+(k+1)=m+1+k by omega]
   exact good_up hi ho k g2
  ·exact⟨h.ok,h.lo,h.hi,by have:=h.len;omega⟩
theorem up_ge {ins o:Int} : ∀ (k:Nat) {t:List (Int×Int)×Int},o-t.2≤k→o≤(dup ins o k t).2
 | 0,t,h=>by unfold dup;omega
 | k+1,t,h=>by
  unfold dup
  split
  ·exact up_ge k (by dsimp only;omega)
  ·omega
theorem good_dn {ins o:Int}(ho:1≤o):∀ (k:Nat) {t:List (Int×Int)×Int} {m:Nat},Good ins t m→Good ins (ddn o k t) (m+k)
 | 0,_,_,h=>h
 | k+1,t,m,h=>by
  unfold ddn
  split
  ·rename_i c
   have h9:=h.hi
   have g:=h.snoc (o:=(3,0)) rfl (by show (2:Int)≤t.2;omega) (by show (0:Int)≤0;omega) (by show (0:Int)≤0;omega) (by show t.2-2+1≤9;omega)
   have g2:Good ins (t.1++[(3,0)],t.2-1) (m+1):=by
    have e:t.2-tkn 3+1=t.2-1:=by show t.2-2+1=_;omega
    rw[← e];exact g
   rw[show m+(k+1)=m+1+k by omega]
   exact good_dn ho k g2
  ·exact⟨h.ok,h.lo,h.hi,by have:=h.len;omega⟩
theorem dn_le {o:Int} : ∀ (k:Nat) {t:List (Int×Int)×Int},t.2-o≤k→o≤t.2→(ddn o k t).2=o
 | 0,t,h,h2=>by unfold ddn;omega
 | k+1,t,h,h2=>by
  unfold ddn
  split
  ·exact dn_le k (by dsimp only;omega) (by dsimp only;omega)
  ·omega
theorem dprog_ok9 {ins o:Int}(hi:1≤ins∧ins≤4)(ho:1≤o∧o≤3)(l:List (Int×Int))(hl:∀ s∈l, -32768≤s.2∧s.2≤32767):(∃ d,surv (dprog ins o l) ins o=some d∧d≤9)∧(dprog ins o l).length≤24:=by
 have g0:=good_dfo hi.1 (l.take 12) (fun s hs=>hl s (jit hs))
 have g1:=good_up hi.1 (o:=o) (by omega) 3 g0
 have g2:=good_dn (o:=o) ho.1 9 g1
 have e1:=up_ge (ins:=ins) (o:=o) 3 (t:=dfo ins (l.take 12)) (by have:=g0.lo;omega)
 have e2:=dn_le (o:=o) 9 (t:=dup ins o 3 (dfo ins (l.take 12))) (by have:=g1.hi;omega) e1
 have hlen:(dprog ins o l).length≤24:=by
  have:=g2.len
  have h12:(l.take 12).length≤12:=List.length_take_le _ _
  unfold dprog;omega
 obtain⟨d,hd,h9⟩:=g2.ok
 refine⟨⟨d,?_,h9⟩,hlen⟩
 unfold surv
 rw[if_pos ⟨hi.1,hi.2,ho.1,by omega,by omega⟩]
 rw[e2] at hd
 unfold dprog
 rw[hd]
 dsimp only
 rw[if_pos rfl]
theorem dprog_ok {ins o:Int}(hi:1≤ins∧ins≤4)(ho:1≤o∧o≤3)(l:List (Int×Int))(hl:∀ s∈l, -32768≤s.2∧s.2≤32767):(∃ d,surv (dprog ins o l) ins o=some d)∧(dprog ins o l).length≤24:=by
 obtain⟨⟨d,h1,_⟩,h2⟩:=dprog_ok9 hi ho l hl
 exact⟨⟨d,h1⟩,h2⟩
end Go.Proofs.YtpkdedncgclblaaGreatDoor
end
