/- What functions of the program answer at given values, part 14. Conditions: those that each theorem names. -/
import Derived.Test.YtpkdedncgclblaaGreatDoorProgramKnownH13
import Derived.Test.YtpkdedncgclblaaGreatDoorProgramKnownH11
import Derived.Test.YtpkdedncgclblaaGreatDoorProgramKnownH10
import Derived.Test.YtpkdedncgclblaaGreatDoorProgramKnownH6
set_option linter.unusedSimpArgs false
set_option linter.unusedVariables false
set_option maxHeartbeats 8000000
set_option maxRecDepth 100000
section
namespace Go.Proofs.YtpkdedncgclblaaGreatDoor
open Go Go.V Go.Nb
def prB (r:Int×Int×Int):(Int×Int)×Int:=((r.1,r.2.1),r.2.2)
def opB (c:Int):List (Int×Int)→(Int×Int)×Int
 | [u]=>if c=8 then prB (mk (0-u.2) (0-u.1)) else if c=9 then prB (mk (max (max u.1 (0-u.2)) 0) (max (0-u.1) u.2)) else prB (min (max u.1 0) 1000000000000,min (max u.2 0) 1000000000000,0)
 | [u,v]=>if c=3 then prB (mk (u.1+v.1) (u.2+v.2)) else if c=4 then prB (mk (u.1-v.2) (u.2-v.1)) else if c=5 then prB (mulR u.1 u.2 v.1 v.2) else if c=6 then prB (min u.1 v.1,min u.2 v.2,0) else prB (max u.1 v.1,max u.2 v.2,0)
 | [u,v,w]=>if 0≤w.1 then (u,0) else if w.2<0 then (v,0) else prB (min u.1 v.1,max u.2 v.2,0)
 | _=>((0,0),0)
def mB:Mc (Int×Int):=⟨fun n=>(n*1000000,n*1000000),opB⟩
abbrev okB (b:Int×Int):Prop:=vb b.1 b.2=true
def goodB (r:Int×Int×Int):Prop:=(r.2.2=0→vb r.1 r.2.1=true)∧0≤r.2.2∧r.2.2<1000
theorem jeh {a b:Int}(h:vb a b=true):goodB (a,b,0):=⟨fun _=>h,Int.le_refl _,by show (0:Int)<1000;decide⟩
theorem jei (a b:Int):goodB (mk a b):=by
 unfold mk
 split
 ·rename_i h;exact jeh h
 ·exact⟨fun h=>absurd h (by decide),by decide,by decide⟩
theorem cmin_B {u v:Int×Int}(hu:okB u)(hv:okB v):Cl 103 [bA u.1 u.2,bA v.1 v.2] (bD (min u.1 v.1,min u.2 v.2,0)):=by
 have c:=min_b u.1 u.2 v.1 v.2
 rw[if_pos ⟨hu,hv⟩] at c
 have a:=jay.1 hu
 have b:=jay.1 hv
 split at c
 ·rename_i g;rw[show min u.1 v.1=u.1 by omega,show min u.2 v.2=u.2 by omega];exact c
 ·rw[if_neg (by omega)] at c;exact c
theorem cmax_B {u v:Int×Int}(hu:okB u)(hv:okB v):Cl 104 [bA u.1 u.2,bA v.1 v.2] (bD (max u.1 v.1,max u.2 v.2,0)):=by
 have c:=max_b u.1 u.2 v.1 v.2
 rw[if_pos ⟨hu,hv⟩] at c
 have a:=jay.1 hu
 have b:=jay.1 hv
 split at c
 ·rename_i g;rw[show max u.1 v.1=u.1 by omega,show max u.2 v.2=u.2 by omega];exact c
 ·rw[if_neg (by omega)] at c;exact c
theorem chull_B {u v:Int×Int}(hu:okB u)(hv:okB v):Cl 109 [bA u.1 u.2,bA v.1 v.2] (bD (min u.1 v.1,max u.2 v.2,0)):=by
 have c:=hull_b u.1 u.2 v.1 v.2
 rw[if_pos ⟨hu,hv⟩] at c
 have a:=jay.1 hu
 have b:=jay.1 hv
 split at c
 ·rename_i g;rw[show min u.1 v.1=u.1 by omega,show max u.2 v.2=u.2 by omega];exact c
 ·rw[if_neg (by omega)] at c;exact c
def hpE_B (x:List (Int×Int)):List (Int×Int)→Hp
 | []=>hpB0 x
 | q::l=>hpB x (q::l).length (bcl (q::l))
theorem jcf (x l:List (Int×Int))(q:Int×Int):hpE_B x (l++[q])=hpB x (l.length+1) (bcl l++[.int .i64 q.1,.int .i64 q.2]):=by
 have e:hpE_B x (l++[q])=hpB x (l++[q]).length (bcl (l++[q])):=by cases l<;>rfl
 rw[e,jb5,jhO]
 rfl
theorem jfz (x l t:List (Int×Int))(h:0<t.length):hpE_B x (l++t)=hpB x (l.length+t.length) (bcl (l++t)):=by
 rw[← jhO]
 cases l with
 | nil=>cases t with
  | nil=>simp at h
  | cons q t=>rfl
 | cons q l=>rfl
theorem jby {l m:List (Int×Int)}{P:Int×Int→Prop}(h:∀ q∈l++m,P q):(∀ q∈l,P q) ∧ ∀ q∈m,P q:=⟨fun q hq=>h q (List.mem_append_left _ hq),fun q hq=>h q (List.mem_append_right _ hq)⟩
theorem jcM {l:List (Int×Int)}{P:Int×Int→Prop}{q:Int×Int}(h:∀ q∈l,P q)(hq:P q):∀ r∈l++[q],P r:=fun r hr=>by
 rcases List.mem_append.1 hr with h1|h1
 ·exact h r h1
 ·rw[List.mem_singleton.1 h1];exact hq
abbrev rndB (p:List (Int×Int))(k:Nat)(H:Hp)(K:K3):Prop:=RunC Tryz.prog tb (inlN Tryz.prog tb 6) 42 ((jau (Tryz.f52.body.getD .skip)).getD .skip) (fun _ _ _ _ _=>False) 103 (slM p k) H K
section
variable {p : List (Int × Int)} {x l : List (Int × Int)} {k : Nat} {a : Int} {K : K3}
theorem st_B {c : Int} {t : List (Int × Int)} {r : Int × Int × Int} {m : List (Int × Int)} (hl : l = m ++ t) (hlen : 0 < t.length) (h1 : c ≠ 1) (h2 : c ≠ 2) (h3 : c ≠ 11) (ht : (tkn c).toNat = t.length) (hr : opB c t = prB r) (gd : goodB r)
    (rd : ∀ (hok : r.2.2 = 0 → ∀ L H, Wk 103 L H (slM p (k + 1)) (hpB x (m.length + 1) (bcl m ++ [.int .i64 r.1, .int .i64 r.2.1])) → K .normal L H)
      (hpan : r.2.2 ≠ 0 → ∀ L H, Wk 103 L H slE hpE → K (pnc r.2.2) L H), rndB p k (hpB x (m.length + t.length) (bcl (m ++ t))) K)
    (hok : ∀ l', stM mB x (c, a) l = .ok l' → (∀ q ∈ l', okB q) → ∀ L H, Wk 103 L H (slM p (k + 1)) (hpE_B x l') → K .normal L H)
    (hpan : ∀ e, (0 < e ∧ e < 1000) → stM mB x (c, a) l = .error e → ∀ L H, Wk 103 L H slE hpE → K (pnc e) L H) (okl : ∀ q ∈ l, okB q) : rndB p k (hpE_B x l) K := by
  subst hl
  have hs : stM mB x (c, a) (m ++ t) = putM m (prB r) := by rw [jeM mB x m t c a h1 h2 h3 ht, ← hr]; rfl
  rw [hs] at hok hpan
  rw [jfz x m t hlen]
  refine rd (fun he L H w => ?_) (fun he L H w => ?_)
  · have e : putM m (prB r) = .ok (m ++ [(r.1, r.2.1)]) := by unfold putM prB; rw [if_pos he]
    rw [e] at hok
    refine hok (m ++ [(r.1, r.2.1)]) rfl (jcM (jby okl).1 (gd.1 he)) L H ?_
    rw [jcf]; exact w
  · have e : putM m (prB r) = .error r.2.2 := by unfold putM prB; rw [if_neg he]
    rw [e] at hpan
    exact hpan r.2.2 (by have := gd.2; omega) rfl L H w
end
theorem step_B {p:List (Int×Int)}{x l:List (Int×Int)}{k:Nat}{s s':Int×Int}{K:K3}(hk:k<p.length)(hp:p.length≤40)(hs:svS x.length s (p.getD k (0,0))=some s')(hl:s.1=(l.length:Int))(h16:s.1≤16)(okx:∀ q∈x,okB q)(okl:∀ q∈l,okB q)
  (hok:∀ l',stM mB x (p.getD k (0,0)) l = .ok l'→(∀ q∈l',okB q) → ∀ L H,Wk 103 L H (slM p (k+1)) (hpE_B x l')→K .normal L H)
  (hpan:∀ e,(0<e∧e<1000)→stM mB x (p.getD k (0,0)) l = .error e → ∀ L H,Wk 103 L H slE hpE→K (pnc e) L H):rndB p k (hpE_B x l) K:=by
 obtain⟨c,a,hca⟩:∃ c a,p.getD k (0,0)=(c,a):=⟨_,_,rfl⟩
 rw[hca] at hs hok hpan
 unfold svS at hs
 split at hs
 case isFalse=>cases hs
 rename_i hc
 clear hs
 obtain⟨g1,g2,g3,g4,g5⟩:=hc
 dsimp only at g1 g2 g3 g4 g5
 unfold tkb at g1
 simp only[decide_eq_true_eq] at g1
 have hl16:l.length≤16:=by omega
 have cs:c=1∨c=2∨c=11∨c=3∨c=4∨c=5∨c=6∨c=7∨c=8∨c=9∨c=12∨c=10:=by omega
 have okd:∀ (y:List (Int×Int)) (n:Nat),n<y.length→(∀ q∈y,okB q)→okB (y.getD n (0,0)):=fun y n hn h=>by
  rw[jhK,jhN hn];exact h _ (List.getElem_mem hn)
 rcases cs with rfl|rfl|rfl|h2
 ·have ha:0≤a∧a<x.length:=by simp[loA,hiA] at g3 g4;omega
  have st:stM mB x (1,a) l = .ok (l++[x.getD a.toNat (0,0)]):=rfl
  have w1:∀ L H,Wk 103 L H (slM p (k+1)) (hpE_B x (l++[x.getD a.toNat (0,0)]))→K .normal L H:=fun L H w=>hok _ st (jcM okl (okd x a.toNat (by omega) okx)) L H w
  rw[jcf] at w1
  cases l with
  | nil=>exact rdB_in0 p x k a hk hp hca ha w1
  | cons q l=>exact rdB_in1 p x (q::l) k a hk hp hca ha hl16 w1
 ·have ha : -1000000000≤a∧a≤1000000000:=by simp[loA,hiA] at g3 g4;omega
  have st:stM mB x (2,a) l = .ok (l++[(a*1000000,a*1000000)]):=rfl
  have w1:∀ L H,Wk 103 L H (slM p (k+1)) (hpE_B x (l++[(a*1000000,a*1000000)]))→K .normal L H:=fun L H w=>hok _ st (jcM okl (jay.2 (by dsimp only;omega))) L H w
  have nu:=numB_c a ha
  rw[jcf] at w1
  cases l with
  | nil=>exact rdB_num0 p x _ _ k a hk hp hca nu w1
  | cons q l=>exact rdB_num1 p x (q::l) _ _ k a hk hp hca nu hl16 w1
 ·have ha:0≤a∧a≤s.1-1:=by simp[loA,hiA] at g3 g4;omega
  obtain⟨j,hj⟩:∃ j,j=l.length-1-a.toNat:=⟨_,rfl⟩
  have hjl:j<l.length:=by omega
  have st:stM mB x (11,a) l = .ok (l++[l.getD j (0,0)]):=by rw[hj];rfl
  have w1:∀ L H,Wk 103 L H (slM p (k+1)) (hpE_B x (l++[l.getD j (0,0)]))→K .normal L H:=fun L H w=>hok _ st (jcM okl (okd l j hjl okl)) L H w
  rw[jcf] at w1
  have hd:∀ K,dropK (bcl l) (j*2) K=K (.int .i64 (l.getD j (0,0)).1 :: .int .i64 (l.getD j (0,0)).2::bcl (l.drop (j+1))):=fun K=>by
   have e:l=l.take j++(l.getD j (0,0)::l.drop (j+1)):=by
    rw[jhK,jhN hjl]
    simp
   have d:=jaN (l.getD j (0,0)::l.drop (j+1)) K (l.take j)
   rw[← e,jhP,Nat.min_eq_left (by omega)] at d
   exact d
  have r:=rdB_copy p x l (l.getD j (0,0)) _ j k a hk hp hca hl16 (by omega) hjl hd w1
  cases l with
  | nil=>simp at hjl
  | cons q l=>exact r
 ·rcases h2 with rfl|rfl|rfl|rfl|rfl|h2
  ·obtain⟨m,u,v,rfl⟩:=snoc2 l (by have:tkn 3=2:=rfl;omega)
   have o2:=(jby okl).2
   have hu:=o2 u (by simp)
   have hv:=o2 v (by simp)
   have cf:=add_b u.1 u.2 v.1 v.2
   rw[if_pos ⟨hu,hv⟩] at cf
   have gd:=jei (u.1+v.1) (u.2+v.2)
   exact st_B (a:=a) rfl (Nat.succ_pos _) (by decide) (by decide) (by decide) rfl rfl gd (fun h1 h2=>rdB_add p x m u v k a _ _ _ hk hp hca (by simp at hl16;omega) cf h1 h2) hok hpan okl
  ·obtain⟨m,u,v,rfl⟩:=snoc2 l (by have:tkn 4=2:=rfl;omega)
   have o2:=(jby okl).2
   have hu:=o2 u (by simp)
   have hv:=o2 v (by simp)
   have cf:=sub_b u.1 u.2 v.1 v.2
   rw[if_pos ⟨hu,hv⟩] at cf
   have gd:=jei (u.1-v.2) (u.2-v.1)
   exact st_B (a:=a) rfl (Nat.succ_pos _) (by decide) (by decide) (by decide) rfl rfl gd (fun h1 h2=>rdB_sub p x m u v k a _ _ _ hk hp hca (by simp at hl16;omega) cf h1 h2) hok hpan okl
  ·obtain⟨m,u,v,rfl⟩:=snoc2 l (by have:tkn 5=2:=rfl;omega)
   have o2:=(jby okl).2
   have hu:=o2 u (by simp)
   have hv:=o2 v (by simp)
   have cf:=mul_b u.1 u.2 v.1 v.2
   rw[if_pos ⟨hu,hv⟩] at cf
   have gd:=jei (mn4 (flo (u.1*v.1) 1000000000000) (flo (u.1*v.2) 1000000000000) (flo (u.2*v.1) 1000000000000) (flo (u.2*v.2) 1000000000000)) (mx4 (cei (u.1*v.1) 1000000000000) (cei (u.1*v.2) 1000000000000) (cei (u.2*v.1) 1000000000000) (cei (u.2*v.2) 1000000000000))
   exact st_B (a:=a) rfl (Nat.succ_pos _) (by decide) (by decide) (by decide) rfl rfl gd (fun h1 h2=>rdB_mul p x m u v k a _ _ _ hk hp hca (by simp at hl16;omega) cf h1 h2) hok hpan okl
  ·obtain⟨m,u,v,rfl⟩:=snoc2 l (by have:tkn 6=2:=rfl;omega)
   have o2:=(jby okl).2
   have hu:=o2 u (by simp)
   have hv:=o2 v (by simp)
   have cf:=cmin_B hu hv
   have gd:goodB (min u.1 v.1,min u.2 v.2,0):=jeh (jay.2 (by unfold okB at hu hv;rw[jay] at hu hv;omega))
   exact st_B (a:=a) rfl (Nat.succ_pos _) (by decide) (by decide) (by decide) rfl rfl gd (fun h1 h2=>rdB_min p x m u v k a _ _ _ hk hp hca (by simp at hl16;omega) cf h1 h2) hok hpan okl
  ·obtain⟨m,u,v,rfl⟩:=snoc2 l (by have:tkn 7=2:=rfl;omega)
   have o2:=(jby okl).2
   have hu:=o2 u (by simp)
   have hv:=o2 v (by simp)
   have cf:=cmax_B hu hv
   have gd:goodB (max u.1 v.1,max u.2 v.2,0):=jeh (jay.2 (by unfold okB at hu hv;rw[jay] at hu hv;omega))
   exact st_B (a:=a) rfl (Nat.succ_pos _) (by decide) (by decide) (by decide) rfl rfl gd (fun h1 h2=>rdB_max p x m u v k a _ _ _ hk hp hca (by simp at hl16;omega) cf h1 h2) hok hpan okl
  ·rcases h2 with rfl|rfl|rfl|rfl
   ·obtain⟨m,u,rfl⟩:=snoc1 l (by have:tkn 8=1:=rfl;omega)
    have hu:=(jby okl).2 u (by simp)
    have cf:=neg_b u.1 u.2
    rw[if_pos hu] at cf
    have gd:=jei (0-u.2) (0-u.1)
    exact st_B (a:=a) rfl (Nat.succ_pos _) (by decide) (by decide) (by decide) rfl rfl gd (fun h1 h2=>rdB_neg p x m u k a _ _ _ hk hp hca (by simp at hl16;omega) cf h1 h2) hok hpan okl
   ·obtain⟨m,u,rfl⟩:=snoc1 l (by have:tkn 9=1:=rfl;omega)
    have hu:=(jby okl).2 u (by simp)
    have cf:=abs_b u.1 u.2
    rw[if_pos hu] at cf
    have gd:=jei (max (max u.1 (0-u.2)) 0) (max (0-u.1) u.2)
    exact st_B (a:=a) rfl (Nat.succ_pos _) (by decide) (by decide) (by decide) rfl rfl gd (fun h1 h2=>rdB_abs p x m u k a _ _ _ hk hp hca (by simp at hl16;omega) cf h1 h2) hok hpan okl
   ·obtain⟨m,u,rfl⟩:=snoc1 l (by have:tkn 12=1:=rfl;omega)
    have hu:=(jby okl).2 u (by simp)
    have cf:=clB_c u.1 u.2 hu
    have gd:goodB (min (max u.1 0) 1000000000000,min (max u.2 0) 1000000000000,0):=jeh (jay.2 (by unfold okB at hu;rw[jay] at hu;omega))
    exact st_B (a:=a) rfl (Nat.succ_pos _) (by decide) (by decide) (by decide) rfl rfl gd (fun h1 h2=>rdB_clamp p x m u k a _ _ _ hk hp hca (by simp at hl16;omega) cf h1 h2) hok hpan okl
   ·obtain⟨m,u,v,w,rfl⟩:=snoc3 l (by have:tkn 10=3:=rfl;omega)
    have o3:=(jby okl).2
    have hu:=o3 u (by simp)
    have hv:=o3 v (by simp)
    by_cases hs:0≤w.1
    ·have st:stM mB x (10,a) (m++[u,v,w]) = .ok (m++[u]):=by rw[jeM mB x m [u,v,w] 10 a (by decide) (by decide) (by decide) rfl];show putM m (opB 10 [u,v,w])=_;rw[show opB 10 [u,v,w]=(u,0) from if_pos hs];rfl
     have w1:∀ L H,Wk 103 L H (slM p (k+1)) (hpE_B x (m++[u]))→K .normal L H:=fun L H w'=>hok _ st (jcM (jby okl).1 hu) L H w'
     rw[jcf] at w1
     rw[jfz x m [u,v,w] (by simp)]
     exact rdB_pick0 p x m u v w k a hk hp hca (by simp at hl16;omega) (decide_eq_true hs) w1
    ·by_cases ht:w.2<0
     ·have st:stM mB x (10,a) (m++[u,v,w]) = .ok (m++[v]):=by rw[jeM mB x m [u,v,w] 10 a (by decide) (by decide) (by decide) rfl];show putM m (opB 10 [u,v,w])=_;rw[show opB 10 [u,v,w]=(v,0) from (if_neg hs).trans (if_pos ht)];rfl
      have w1:∀ L H,Wk 103 L H (slM p (k+1)) (hpE_B x (m++[v]))→K .normal L H:=fun L H w'=>hok _ st (jcM (jby okl).1 hv) L H w'
      rw[jcf] at w1
      rw[jfz x m [u,v,w] (by simp)]
      exact rdB_pick1 p x m u v w k a hk hp hca (by simp at hl16;omega) (decide_eq_false hs) (decide_eq_true ht) w1
     ·have gd:goodB (min u.1 v.1,max u.2 v.2,0):=jeh (jay.2 (by unfold okB at hu hv;rw[jay] at hu hv;omega))
      have cf:=chull_B hu hv
      exact st_B (a:=a) rfl (Nat.succ_pos _) (by decide) (by decide) (by decide) rfl ((if_neg hs).trans (if_neg ht)) gd (fun h1 h2=>rdB_pick2 p x m u v w k a _ _ _ hk hp hca (by simp at hl16;omega) cf (decide_eq_false hs) (decide_eq_false ht) h1 h2) hok hpan okl
theorem lpw {off : Nat} {L : Sl} {H : Hp} {body : Sl → Hp → K3 → Prop} {K : K3}
    (h : ∃ (α : Type) (inv : α → Prop) (sl : α → Sl) (hp : α → Hp) (μ : α → Nat), (∃ x, inv x ∧ Wk off L H (sl x) (hp x)) ∧
    ∀ x, inv x → body (sl x) (hp x) (nrm (fun L' H' => ∃ y, inv y ∧ μ y < μ x ∧ Wk off L' H' (sl y) (hp y)) (fun e L' H' => ∃ L'' H'', Wk off L' H' L'' H'' ∧ K e L'' H''))) : Lp off L H body K :=
  ⟨_, fun _ _ _ h => h, h⟩
theorem fcl_pubL (l:List Rat)(i:Nat)(c:Chunk):pubL i c (fcl l)=fcl l:=by
 induction l with
 | nil=>rfl
 | cons q m ih=>simp only[fcl,pubL,pubD,ih]
theorem fcl_pub (l:List Rat)(i:Nat)(c:Chunk)(K:List D→Prop):pubLK i c (fcl l) K=K (fcl l):=by rw[ja6,fcl_pubL]
theorem fcl_bsl (l:List Rat):bslOk (fcl l) 0 l.length 2=true:=by
 have e:∀ m:List Rat,D.pureL (fcl m)=true:=fun m=>by
  induction m with
  | nil=>rfl
  | cons q m ih=>simp only[fcl,D.pureL,D.pure,ih]
 unfold bslOk
 rw[e]
 dsimp only
 rw[jhI,jbf];omega
theorem fcl_pubH (x l:List Rat)(K:Hp→Prop):jcv 145 (.box (fcl l)) (hpF x l.length (fcl l)) K=K [(58,.box [sl2 l.length (fcl l),inF x,.fn 76 [] [],.mapr 44]),(145,.box (fcl l)),(44,.mp esF),(114,.mp stepsF),(64,.box [.nil]),(65,.box [.int .i64 0])]:=by
 have e:pubHp 145 (.box (fcl l)) (hpF x l.length (fcl l))=[(58,.box [sl2 l.length (fcl l),inF x,.fn 76 [] [],.mapr 44]),(145,.box (fcl l)),(44,.mp esF),(114,.mp stepsF),(64,.box [.nil]),(65,.box [.int .i64 0])]:=by
  have h:pubD 145 (.box (fcl l)) (.bsl 145 0 l.length 2)=sl2 l.length (fcl l):=by
   show (match bslOk (fcl l) 0 l.length 2 with|true=>D.slf 2 l.length (fun q=>((fcl l).drop (0+q*2)).take 2)|false => .any)=_
   rw[fcl_bsl]
   simp only[jhk]
  have g2:=fcl_pubL l 145 (.box (fcl l))
  show [(58,Chunk.box (pubD 145 (.box (fcl l)) (.bsl 145 0 l.length 2)::_)),(145,Chunk.box (pubL 145 (.box (fcl l)) (fcl l))),_,_,_,_]=_
  rw[h,g2]
  rfl
 rw[jcA,e]
theorem jfT (i:Nat)(c:Chunk)(K:List D→Prop):pubLK i c [] K=K []:=by rw[ja6];rfl
theorem fcheck_f {q:Rat}(h:okF q=true):Cl 47 [.agg [.str (decZ q.num),.str (dec q.den)]] (.int .i64 0):=by
 have o:=jd8 h
 have b:=h
 unfold okF at b
 simp only[jhf,decide_eq_true_eq] at b
 have c:=jfC (decZ q.num) (dec q.den) (by unfold decZ;split<;>(try simp only[jhV])<;>omega) (by omega)
 rw[o.1] at c
 exact c
theorem runF_c (p:List (Int×Int))(x:List Rat)(o d:Int)(okx:∀ q∈x,okF q=true)(hs:surv p x.length o=some d) :
  Cl 20 [opsD p,inF x,.int .i64 o] (match rnM mF x p [] with | .ok l => .tup [sl2 l.length (fcl l),.int .i64 0] | .error e => .tup [.nil,.int .i64 e]):=by
 have pc:Cl 25 [opsD p,.int .i64 x.length,.int .i64 o] (.int .i64 0):=by
  have c:=jfk p x.length o
  rw[hs] at c
  exact c
 have hb:1≤(x.length:Int)∧(x.length:Int)≤4∧1≤o∧o≤4∧p.length≤40∧svL x.length (0,0) p=some (o,d):=by
  unfold surv at hs
  split at hs
  case isFalse=>cases hs
  rename_i h
  refine⟨h.1,h.2.1,h.2.2.1,h.2.2.2.1,h.2.2.2.2,?_⟩
  split at hs
  case h_2=>cases hs
  rename_i e
  split at hs
  case isFalse=>cases hs
  rename_i n d' e'
  cases hs
  rw[e,e']
 have hx4:x.length≤4:=by omega
 have hp:=hb.2.2.2.2.1
 have fc:∀ k:Nat,k<x.length→Cl 47 [.agg [.str (decZ (x.getD k 0).num),.str (dec (x.getD k 0).den)]] (.int .i64 0):=fun k hk=>fcheck_f (okx _ (by rw[jhK,jhN hk];exact List.getElem_mem hk))
 have t3:=jfL 79
 have t4:=jfL 80
 have t5:=jfL 81
 have t6:=jfL 82
 have t7:=jfL 83
 have o8:=oneF_c 85
 have o9:=oneF_c 86
 have o12:=oneF_c 89
 refine jcu (jfx tbOk (inlX_ok tbOk 6)) (jaW Tryz.func20 rfl rfl) ⟨_,_,⟨Tryz.func20,rfl,rfl,jhg rfl⟩,?_⟩
 refine V.r1 @jhl pc ?_
 refine jak ((0:Nat)) (fun k=>k≤x.length) (fun k=>x.length-k) (fun k=>[(22,.int .i64 k)]) (fun k=>[]) ?_ ?_ ?_
 ·exact V.wk
 ·exact jhh _
 ·intro k hk
  have hkc:((k:Int)+1)=((k+1:Nat):Int):=by omega
  (conv=>whnf)
  refine V.st ?_
  refine V.br (fun hq=>?_) (fun hq=>?_)
  ·simp only[decide_eq_true_eq] at hq
   have f1:=fc k (by omega)
   refine V.r1 (V.a2 @jhl hkc) f1 ?_
   exact⟨k+1,by omega,by omega,V.wk⟩
  ·refine V.r0 @jhl ?_
   refine .inl ?_
   (conv=>whnf)
   refine⟨0,Or.inl ⟨_,_,⟨Tryz.func48,rfl,rfl,jhg rfl⟩,?_⟩⟩
   refine V.r8 @jhl t3 t4 t5 t6 t7 o8 o9 o12 ?_
   refine .inl ?_
   (conv=>whnf)
   refine⟨21,Or.inr ⟨_,_,⟨Tryz.func49,rfl,rfl,jhg rfl⟩,_,_,_,_,_,true,_,_,_,_,rfl,⟨rfl,rfl,rfl,⟨_,rfl⟩,rfl,rfl⟩,?_⟩⟩
   (conv=>whnf)
   refine V.st ?_
   refine DefK.mk 64 65 rfl rfl (by decide) (by decide) (by decide) (by decide) idle_F ?_
   refine V.r0 @jhl ?_
   refine lpw ⟨Nat×List Rat,fun s=>s.1≤p.length∧rnM mF x (p.take s.1) [] = .ok s.2∧(∃ d,svL x.length (0,0) (p.take s.1)=some ((s.2.length:Int),d))∧(∀ q∈s.2,okF q=true),fun s=>slM p s.1,fun s=>hpA x s.2,fun s=>p.length-s.1,⟨(0,[]),⟨jhh _,rfl,⟨0,rfl⟩,fun _ h=>absurd h List.not_mem_nil⟩,V.wk⟩,?_⟩
   rintro⟨k2,l⟩ ⟨hk2,hr,⟨d2,hd2⟩,okl⟩
   dsimp only at hk2 hr hd2 okl ⊢
   have hbd:=svL_bd hd2 (by simp)
   dsimp only at hbd
   by_cases hke:k2=p.length
   ·subst hke
    rw[jh0] at hr hd2
    rw[hr]
    have hlo:(l.length:Int)=o:=by rw[hd2] at hb;have:=hb.2.2.2.2.2;cases this;rfl
    have el:hpA x l=hpF x l.length (fcl l):=by
     cases l with
     | nil=>simp at hlo;omega
     | cons q l=>rfl
    rw[el]
    have pg:=jaS l
    have pb:=fcl_pub l
    have bo:=fcl_bsl l
    dsimp only
    (conv=>whnf)
    (try simp only[decide_eq_true,jhl])
    repeat ((first|refine V.s1 ?_|((try ((with_reducible refine .ext ?_);(conv=>whnf);(try simp only[decide_eq_true,jhl])));(with_reducible refine jaa (r:=?_) ?_ ?_);rotate_left;(focus (first|fail));(conv=>whnf))|(((simp only[pg];(conv=>whnf)));(conv=>whnf)));(try simp only[decide_eq_true,jhl]))
    refine⟨_,_,Wk.refl,?_⟩
    (conv=>whnf)
    (try simp only[jhl])
    repeat ((first|refine V.s1 ?_|((try ((with_reducible refine .ext ?_);(conv=>whnf);(try simp only[jhl])));(with_reducible refine jaa (r:=?_) ?_ ?_);rotate_left;(focus (first|fail));(conv=>whnf))|(((simp only[pg];(conv=>whnf)));(conv=>whnf)));(try simp only[jhl]))
    rewrite [bo]
    dsimp only
    rewrite [jfT]
    rewrite [fcl_pubH]
    (conv=>whnf)
    rewrite [bo]
    (conv=>whnf)
    refine Fin.of ?_
    simp only[jhk]
   ·have hkl:k2<p.length:=by omega
    have hsn:=je8 x.length p k2 hkl
    rw[hd2] at hsn
    dsimp only at hsn
    have rs:=rnM_snoc mF x p k2 hkl
    rw[hr] at rs
    dsimp only at rs
    cases hss:svS x.length ((l.length:Int),d2) (p.getD k2 (0,0)) with
    | none=>rw[hss] at hsn;rw[jdH hsn] at hb;cases hb.2.2.2.2.2
    | some s'=>
     show rndF p k2 (hpA x l) _
     refine step_F hkl hp hss rfl hbd.2.1 okx okl ?_ ?_
     ·intro l' st okl' L H w
      exact⟨(k2+1,l'),⟨by dsimp only;omega,rs.trans st,⟨s'.2,by rw[hsn,hss];exact congrArg some (Prod.ext (stM_len hss rfl st) rfl)⟩,okl'⟩,by dsimp only;omega,w⟩
     ·intro e he st L H w
      refine⟨_,_,w,?_⟩
      rw[rnM_err (rs.trans st)]
      (conv=>whnf)
      refine CatchK.mk _ _ .nil (.int .i64 e) (catch_F e) (fun _ _=>by simp[Den]) (fun _ _=>by simp[Den,InR,V.lo,V.hi];omega) ?_
      refine V.r0 @jhl ?_
      exact Fin.of rfl
theorem bcl_pubL (l:List (Int×Int))(i:Nat)(c:Chunk):pubL i c (bcl l)=bcl l:=by
 induction l with
 | nil=>rfl
 | cons q m ih=>simp only[bcl,pubL,pubD,ih]
theorem bcl_pub (l:List (Int×Int))(i:Nat)(c:Chunk)(K:List D→Prop):pubLK i c (bcl l) K=K (bcl l):=by rw[ja6,bcl_pubL]
theorem bcl_bsl (l:List (Int×Int)):bslOk (bcl l) 0 l.length 2=true:=by
 have e:∀ m:List (Int×Int),D.pureL (bcl m)=true:=fun m=>by
  induction m with
  | nil=>rfl
  | cons q m ih=>simp only[bcl,D.pureL,D.pure,ih]
 unfold bslOk
 rw[e]
 dsimp only
 rw[jhI,jaX];omega
theorem bcl_pubH (x l:List (Int×Int))(K:Hp→Prop):jcv 145 (.box (bcl l)) (hpB x l.length (bcl l)) K=K [(58,.box [sl2 l.length (bcl l),inB x,.fn 97 [] [],.mapr 44]),(145,.box (bcl l)),(44,.mp esB),(114,.mp stepsB),(64,.box [.nil]),(65,.box [.int .i64 0])]:=by
 have e:pubHp 145 (.box (bcl l)) (hpB x l.length (bcl l))=[(58,.box [sl2 l.length (bcl l),inB x,.fn 97 [] [],.mapr 44]),(145,.box (bcl l)),(44,.mp esB),(114,.mp stepsB),(64,.box [.nil]),(65,.box [.int .i64 0])]:=by
  have h:pubD 145 (.box (bcl l)) (.bsl 145 0 l.length 2)=sl2 l.length (bcl l):=by
   show (match bslOk (bcl l) 0 l.length 2 with|true=>D.slf 2 l.length (fun q=>((bcl l).drop (0+q*2)).take 2)|false => .any)=_
   rw[bcl_bsl]
   simp only[jhk]
  have g2:=bcl_pubL l 145 (.box (bcl l))
  show [(58,Chunk.box (pubD 145 (.box (bcl l)) (.bsl 145 0 l.length 2)::_)),(145,Chunk.box (pubL 145 (.box (bcl l)) (bcl l))),_,_,_,_]=_
  rw[h,g2]
  rfl
 rw[jcA,e]
theorem runB_c (p:List (Int×Int))(x:List (Int×Int))(o d:Int)(okx:∀ q∈x,okB q)(hs:surv p x.length o=some d) :
  Cl 22 [opsD p,inB x,.int .i64 o] (match rnM mB x p [] with | .ok l => .tup [sl2 l.length (bcl l),.int .i64 0] | .error e => .tup [.nil,.int .i64 e]):=by
 have pc:Cl 25 [opsD p,.int .i64 x.length,.int .i64 o] (.int .i64 0):=by
  have c:=jfk p x.length o
  rw[hs] at c
  exact c
 have hb:1≤(x.length:Int)∧(x.length:Int)≤4∧1≤o∧o≤4∧p.length≤40∧svL x.length (0,0) p=some (o,d):=by
  unfold surv at hs
  split at hs
  case isFalse=>cases hs
  rename_i h
  refine⟨h.1,h.2.1,h.2.2.1,h.2.2.2.1,h.2.2.2.2,?_⟩
  split at hs
  case h_2=>cases hs
  rename_i e
  split at hs
  case isFalse=>cases hs
  rename_i n d' e'
  cases hs
  rw[e,e']
 have hx4:x.length≤4:=by omega
 have hp:=hb.2.2.2.2.1
 have fc:∀ k:Nat,k<x.length→Cl 50 [.agg [.int .i64 (x.getD k (0,0)).1,.int .i64 (x.getD k (0,0)).2]] (.int .i64 0):=fun k hk=>by
  have o:okB (x.getD k (0,0)):=okx _ (by rw[jhK,jhN hk];exact List.getElem_mem hk)
  have c:=jg1 (x.getD k (0,0)).1 (x.getD k (0,0)).2
  rw[if_pos o] at c
  exact c
 have t3:=jfM 100
 have t4:=jfM 101
 have t5:=jfM 102
 have t6:=jfM 103
 have t7:=jfM 104
 have o8:=oneB_c 106
 have o9:=oneB_c 107
 have o12:=oneB_c 110
 refine jcu (jfx tbOk (inlX_ok tbOk 6)) (jaW Tryz.func22 rfl rfl) ⟨_,_,⟨Tryz.func22,rfl,rfl,jhg rfl⟩,?_⟩
 refine V.r1 @jhl pc ?_
 refine jak ((0:Nat)) (fun k=>k≤x.length) (fun k=>x.length-k) (fun k=>[(22,.int .i64 k)]) (fun k=>[]) ?_ ?_ ?_
 ·exact V.wk
 ·exact jhh _
 ·intro k hk
  have hkc:((k:Int)+1)=((k+1:Nat):Int):=by omega
  (conv=>whnf)
  refine V.st ?_
  refine V.br (fun hq=>?_) (fun hq=>?_)
  ·simp only[decide_eq_true_eq] at hq
   have f1:=fc k (by omega)
   refine V.r1 (V.a2 @jhl hkc) f1 ?_
   exact⟨k+1,by omega,by omega,V.wk⟩
  ·refine V.r0 @jhl ?_
   refine .inl ?_
   (conv=>whnf)
   refine⟨0,Or.inl ⟨_,_,⟨Tryz.func51,rfl,rfl,jhg rfl⟩,?_⟩⟩
   refine V.r8 @jhl t3 t4 t5 t6 t7 o8 o9 o12 ?_
   refine .inl ?_
   (conv=>whnf)
   refine⟨21,Or.inr ⟨_,_,⟨Tryz.func52,rfl,rfl,jhg rfl⟩,_,_,_,_,_,true,_,_,_,_,rfl,⟨rfl,rfl,rfl,⟨_,rfl⟩,rfl,rfl⟩,?_⟩⟩
   (conv=>whnf)
   refine V.st ?_
   refine DefK.mk 64 65 rfl rfl (by decide) (by decide) (by decide) (by decide) idle_B ?_
   refine V.r0 @jhl ?_
   refine lpw ⟨Nat×List (Int×Int),fun s=>s.1≤p.length∧rnM mB x (p.take s.1) [] = .ok s.2∧(∃ d,svL x.length (0,0) (p.take s.1)=some ((s.2.length:Int),d))∧(∀ q∈s.2,okB q),fun s=>slM p s.1,fun s=>hpE_B x s.2,fun s=>p.length-s.1,⟨(0,[]),⟨jhh _,rfl,⟨0,rfl⟩,fun _ h=>absurd h List.not_mem_nil⟩,V.wk⟩,?_⟩
   rintro⟨k2,l⟩ ⟨hk2,hr,⟨d2,hd2⟩,okl⟩
   dsimp only at hk2 hr hd2 okl ⊢
   have hbd:=svL_bd hd2 (by simp)
   dsimp only at hbd
   by_cases hke:k2=p.length
   ·subst hke
    rw[jh0] at hr hd2
    rw[hr]
    have hlo:(l.length:Int)=o:=by rw[hd2] at hb;have:=hb.2.2.2.2.2;cases this;rfl
    have el:hpE_B x l=hpB x l.length (bcl l):=by
     cases l with
     | nil=>simp at hlo;omega
     | cons q l=>rfl
    rw[el]
    have pg:=jaE l
    have pb:=bcl_pub l
    have bo:=bcl_bsl l
    dsimp only
    (conv=>whnf)
    (try simp only[decide_eq_true,jhl])
    repeat ((first|refine V.s1 ?_|((try ((with_reducible refine .ext ?_);(conv=>whnf);(try simp only[decide_eq_true,jhl])));(with_reducible refine jaa (r:=?_) ?_ ?_);rotate_left;(focus (first|fail));(conv=>whnf))|(((simp only[pg];(conv=>whnf)));(conv=>whnf)));(try simp only[decide_eq_true,jhl]))
    refine⟨_,_,Wk.refl,?_⟩
    (conv=>whnf)
    (try simp only[jhl])
    repeat ((first|refine V.s1 ?_|((try ((with_reducible refine .ext ?_);(conv=>whnf);(try simp only[jhl])));(with_reducible refine jaa (r:=?_) ?_ ?_);rotate_left;(focus (first|fail));(conv=>whnf))|(((simp only[pg];(conv=>whnf)));(conv=>whnf)));(try simp only[jhl]))
    rewrite [bo]
    dsimp only
    rewrite [jfT]
    rewrite [bcl_pubH]
    (conv=>whnf)
    rewrite [bo]
    (conv=>whnf)
    refine Fin.of ?_
    simp only[jhk]
   ·have hkl:k2<p.length:=by omega
    have hsn:=je8 x.length p k2 hkl
    rw[hd2] at hsn
    dsimp only at hsn
    have rs:=rnM_snoc mB x p k2 hkl
    rw[hr] at rs
    dsimp only at rs
    cases hss:svS x.length ((l.length:Int),d2) (p.getD k2 (0,0)) with
    | none=>rw[hss] at hsn;rw[jdH hsn] at hb;cases hb.2.2.2.2.2
    | some s'=>
     show rndB p k2 (hpE_B x l) _
     refine step_B hkl hp hss rfl hbd.2.1 okx okl ?_ ?_
     ·intro l' st okl' L H w
      exact⟨(k2+1,l'),⟨by dsimp only;omega,rs.trans st,⟨s'.2,by rw[hsn,hss];exact congrArg some (Prod.ext (stM_len hss rfl st) rfl)⟩,okl'⟩,by dsimp only;omega,w⟩
     ·intro e he st L H w
      refine⟨_,_,w,?_⟩
      rw[rnM_err (rs.trans st)]
      (conv=>whnf)
      refine CatchK.mk _ _ .nil (.int .i64 e) (catch_B e) (fun _ _=>by simp[Den]) (fun _ _=>by simp[Den,InR,V.lo,V.hi];omega) ?_
      refine V.r0 @jhl ?_
      exact Fin.of rfl
theorem jel {e n:Nat}{f g:Nat→List D}(h:∀ j,j<n→g j=f j):Fin (.slf e n f) (.slf e n g):=⟨fun hp v hv=>by
 simp only[Den] at hv ⊢
 obtain⟨a,cap,h1,h2,h3,h4⟩:=hv
 refine⟨a,cap,h1,h2,h3,?_⟩
 cases a with
 | none=>exact h4
 | some ad=>
  refine⟨h4.1,fun j hj=>?_⟩
  have:=h4.2 j hj
  rw[h j hj] at this
  exact this⟩
theorem jdu (e:Nat)(f:Nat→List D):Fin (.slf e 0 f) .nil:=⟨fun hp v hv=>by
 simp only[Den] at hv ⊢
 refine⟨none,0,hv,?_⟩
 simp⟩
theorem arg3 {f:Nat}{a b c a' b' c' r:D}(h:Cl f [a,b,c] r)(A:Fin a a')(B:Fin b b')(C:Fin c c'):Cl f [a',b',c'] r:=Called.arg (show FinL [a,b,c] [a',b',c'] from ⟨A,B,C,trivial⟩) h
theorem bcl_at:∀ (l:List (Int×Int)) (j:Nat),j<l.length→List.take 2 (List.drop (j*2) (bcl l))=[.int .i64 (l.getD j (0,0)).1,.int .i64 (l.getD j (0,0)).2]
 | q::l,0,_=>rfl
 | q::l,j+1,h=>by
  rw[show (j+1)*2=j*2+1+1 by omega]
  exact bcl_at l j (by simpa using h)
theorem fcl_at:∀ (l:List Rat) (j:Nat),j<l.length→List.take 2 (List.drop (j*2) (fcl l))=[.str (decZ (l.getD j 0).num),.str (dec (l.getD j 0).den)]
 | q::l,0,_=>rfl
 | q::l,j+1,h=>by
  rw[show (j+1)*2=j*2+1+1 by omega]
  exact fcl_at l j (by simpa using h)
abbrev oL (p:List (Int×Int)):D:=sl2 p.length (bcl p)
abbrev fL (x:List Rat):D:=sl2 x.length (fcl x)
theorem fin_o (p:List (Int×Int)):Fin (opsD p) (oL p):=jel (bcl_at p)
theorem fin_f (x:List Rat):Fin (inF x) (fL x):=jel (fcl_at x)
theorem fin_b (x:List (Int×Int)):Fin (inB x) (oL x):=jel (bcl_at x)
theorem jcJ (p:List (Int×Int))(i o:Int):Cl 25 [oL p,.int .i64 i,.int .i64 o] (.int .i64 (if (surv p i o).isSome then 0 else 120)):=
 arg3 (jfk p i o) (fin_o p) (Fin.same _) (Fin.same _)
theorem jgQ (p:List (Int×Int))(i o:Int):Cl 27 [oL p,.int .i64 i,.int .i64 o] (.tup [.int .i64 ((surv p i o).getD 0),.int .i64 (if (surv p i o).isSome then 0 else 120)]):=
 arg3 (pdepth_c p i o) (fin_o p) (Fin.same _) (Fin.same _)
def resF (r:Except Int (List Rat)):D:=match r with | .ok l => .tup [fL l,.int .i64 0] | .error e => .tup [.nil,.int .i64 e]
def resB (r:Except Int (List (Int×Int))):D:=match r with | .ok l => .tup [oL l,.int .i64 0] | .error e => .tup [.nil,.int .i64 e]
theorem run_o (p:List (Int×Int))(x:List Rat)(o d:Int)(okx:∀ q∈x,okF q=true)(hs:surv p x.length o=some d):Cl 20 [oL p,fL x,.int .i64 o] (resF (rnM mF x p [])):=by
 have c:=arg3 (runF_c p x o d okx hs) (fin_o p) (fin_f x) (Fin.same _)
 cases h:rnM mF x p [] with
 | ok l=>rw[h] at c;exact c
 | error e=>rw[h] at c;exact c
theorem jg4 (p x:List (Int×Int))(o d:Int)(okx:∀ q∈x,okB q)(hs:surv p x.length o=some d):Cl 22 [oL p,oL x,.int .i64 o] (resB (rnM mB x p [])):=by
 have c:=arg3 (runB_c p x o d okx hs) (fin_o p) (fin_b x) (Fin.same _)
 cases h:rnM mB x p [] with
 | ok l=>rw[h] at c;exact c
 | error e=>rw[h] at c;exact c
theorem run_no (p:List (Int×Int))(n:Nat)(f:Nat→List D)(o:Int)(hs:surv p n o=none):Cl 20 [oL p,.slf 2 n f,.int .i64 o] (.tup [.nil,.int .i64 120]):=by
 have c:=jcJ p n o
 rw[hs] at c
 have c:Cl 25 [oL p,.int .i64 n,.int .i64 o] (.int .i64 120):=c
 refine V.en tbOk Tryz.func20 ?_
 (conv=>whnf)
 (conv=>whnf)
 (try simp only[])
 repeat ((first|refine V.s1 ?_|((try ((with_reducible refine .ext ?_);(conv=>whnf);(try simp only[])));(with_reducible refine jaa (r:=?_) ?_ ?_);rotate_left;(focus (first|exact(c)));(conv=>whnf)));(try simp only[]))
 exact Fin.of rfl
theorem bands_no (p:List (Int×Int))(n:Nat)(f:Nat→List D)(o:Int)(hs:surv p n o=none):Cl 22 [oL p,.slf 2 n f,.int .i64 o] (.tup [.nil,.int .i64 120]):=by
 have c:=jcJ p n o
 rw[hs] at c
 have c:Cl 25 [oL p,.int .i64 n,.int .i64 o] (.int .i64 120):=c
 refine V.en tbOk Tryz.func22 ?_
 (conv=>whnf)
 (conv=>whnf)
 (try simp only[])
 repeat ((first|refine V.s1 ?_|((try ((with_reducible refine .ext ?_);(conv=>whnf);(try simp only[])));(with_reducible refine jaa (r:=?_) ?_ ?_);rotate_left;(focus (first|exact(c)));(conv=>whnf)));(try simp only[]))
 exact Fin.of rfl
theorem run_bad (p:List (Int×Int))(n m:Nat)(X:Nat→List UInt8×List UInt8)(o d e:Int)(hs:surv p n o=some d)(hm:m<n)(he:e≠0)(h1:∀ k,k<m→Cl 47 [.agg [.str (X k).1,.str (X k).2]] (.int .i64 0))(h2:Cl 47 [.agg [.str (X m).1,.str (X m).2]] (.int .i64 e)) :
  Cl 20 [oL p,.slf 2 n (fun j=>[.str (X j).1,.str (X j).2]),.int .i64 o] (.tup [.nil,.int .i64 e]):=by
 have c:=jcJ p n o
 rw[hs] at c
 have c:Cl 25 [oL p,.int .i64 n,.int .i64 o] (.int .i64 0):=c
 have hn:n≤4:=by
  unfold surv at hs
  split at hs
  ·omega
  ·cases hs
 refine V.en tbOk Tryz.func20 ?_
 (conv=>whnf)
 (conv=>whnf)
 (try simp only[])
 repeat ((first|refine V.s1 ?_|((try ((with_reducible refine .ext ?_);(conv=>whnf);(try simp only[])));(with_reducible refine jaa (r:=?_) ?_ ?_);rotate_left;(focus (first|exact(c)));(conv=>whnf)));(try simp only[]))
 refine jak ((0:Nat)) (fun k=>k≤m) (fun k=>m-k) (fun k=>[(22,.int .i64 k)]) (fun k=>[]) ?_ ?_ ?_
 ·exact V.wk
 ·exact jhh _
 intro k hk
 have hkc:((k:Int)+1)=((k+1:Nat):Int):=by omega
 have hlt:decide ((k:Int)<n)=true:=decide_eq_true (by omega)
 by_cases hkm:k=m
 ·subst hkm
  have hne:decide (e≠0)=true:=decide_eq_true he
  refine V.r1 (V.a3 hlt hne @jhl) h2 ?_
  exact Fin.of rfl
 ·have h3:=h1 k (by omega)
  refine V.r1 (V.a3 hlt hkc @jhl) h3 ?_
  exact⟨k+1,by omega,by omega,V.wk⟩
theorem bands_bad (p:List (Int×Int))(n m:Nat)(X:Nat→Int×Int)(o d e:Int)(hs:surv p n o=some d)(hm:m<n)(he:e≠0)(h1:∀ k,k<m→Cl 50 [.agg [.int .i64 (X k).1,.int .i64 (X k).2]] (.int .i64 0))(h2:Cl 50 [.agg [.int .i64 (X m).1,.int .i64 (X m).2]] (.int .i64 e)) :
  Cl 22 [oL p,.slf 2 n (fun j=>[.int .i64 (X j).1,.int .i64 (X j).2]),.int .i64 o] (.tup [.nil,.int .i64 e]):=by
 have c:=jcJ p n o
 rw[hs] at c
 have c:Cl 25 [oL p,.int .i64 n,.int .i64 o] (.int .i64 0):=c
 have hn:n≤4:=by
  unfold surv at hs
  split at hs
  ·omega
  ·cases hs
 refine V.en tbOk Tryz.func22 ?_
 (conv=>whnf)
 (conv=>whnf)
 (try simp only[])
 repeat ((first|refine V.s1 ?_|((try ((with_reducible refine .ext ?_);(conv=>whnf);(try simp only[])));(with_reducible refine jaa (r:=?_) ?_ ?_);rotate_left;(focus (first|exact(c)));(conv=>whnf)));(try simp only[]))
 refine jak ((0:Nat)) (fun k=>k≤m) (fun k=>m-k) (fun k=>[(22,.int .i64 k)]) (fun k=>[]) ?_ ?_ ?_
 ·exact V.wk
 ·exact jhh _
 intro k hk
 have hkc:((k:Int)+1)=((k+1:Nat):Int):=by omega
 have hlt:decide ((k:Int)<n)=true:=decide_eq_true (by omega)
 by_cases hkm:k=m
 ·subst hkm
  have hne:decide (e≠0)=true:=decide_eq_true he
  refine V.r1 (V.a3 hlt hne @jhl) h2 ?_
  exact Fin.of rfl
 ·have h3:=h1 k (by omega)
  refine V.r1 (V.a3 hlt hkc @jhl) h3 ?_
  exact⟨k+1,by omega,by omega,V.wk⟩
theorem eq_f (n:Nat)(X:Nat→List UInt8×List UInt8)(hn:n≤40):Cl 29 [.slf 2 n (fun j=>[.str (X j).1,.str (X j).2]),.slf 2 n (fun j=>[.str (X j).1,.str (X j).2])] (.bool true):=by
 refine V.en tbOk Tryz.func29 ?_
 (conv=>whnf)
 (conv=>whnf)
 (try simp only[])
 repeat ((first|refine V.s1 ?_);(try simp only[]))
 refine Cnd.no (decide_eq_false (fun h=>h rfl)) ?_
 (conv=>whnf)
 (try simp only[])
 repeat ((first|refine V.s1 ?_);(try simp only[]))
 refine jak ((0:Nat)) (fun k=>k≤n) (fun k=>n-k) (fun k=>[(13,.int .i64 k)]) (fun k=>[]) ?_ ?_ ?_
 ·exact V.wk
 ·exact jhh _
 intro k hk
 have hkc:((k:Int)+1)=((k+1:Nat):Int):=by omega
 by_cases hkn:k<n
 ·have hlt:decide ((k:Int)<n)=true:=decide_eq_true (by omega)
  refine V.r0 (V.a2 hlt @jhl) ?_
  refine⟨Pq8z,[],V.pok,?_⟩
  refine jax [(24,.bool false)] [] ?_ ?_
  ·exact V.d0 (V.a4 @jhl @decide_true @Bool.and_self @Bool.not_true)
  refine V.r0 (V.a2 hkc @jhl) ?_
  exact⟨k+1,by omega,by omega,V.wk⟩
 ·have hlt:decide ((k:Int)<n)=false:=decide_eq_false (by omega)
  refine V.r0 hlt ?_
  exact Fin.of rfl
theorem eq_b (n:Nat)(X:Nat→Int×Int)(hn:n≤40):Cl 38 [.slf 2 n (fun j=>[.int .i64 (X j).1,.int .i64 (X j).2]),.slf 2 n (fun j=>[.int .i64 (X j).1,.int .i64 (X j).2])] (.bool true):=by
 refine V.en tbOk Tryz.func38 ?_
 (conv=>whnf)
 (conv=>whnf)
 (try simp only[])
 repeat ((first|refine V.s1 ?_);(try simp only[]))
 refine Cnd.no (decide_eq_false (fun h=>h rfl)) ?_
 (conv=>whnf)
 (try simp only[])
 repeat ((first|refine V.s1 ?_);(try simp only[]))
 refine jak ((0:Nat)) (fun k=>k≤n) (fun k=>n-k) (fun k=>[(13,.int .i64 k)]) (fun k=>[]) ?_ ?_ ?_
 ·exact V.wk
 ·exact jhh _
 intro k hk
 have hkc:((k:Int)+1)=((k+1:Nat):Int):=by omega
 by_cases hkn:k<n
 ·have hlt:decide ((k:Int)<n)=true:=decide_eq_true (by omega)
  refine V.r0 (V.a2 hlt @jhl) ?_
  refine⟨Pq8z,[],V.pok,?_⟩
  refine jax [(24,.bool false)] [] ?_ ?_
  ·exact V.d0 (V.a4 @jhl @decide_true @Bool.and_self @Bool.not_true)
  refine V.r0 (V.a2 hkc @jhl) ?_
  exact⟨k+1,by omega,by omega,V.wk⟩
 ·have hlt:decide ((k:Int)<n)=false:=decide_eq_false (by omega)
  refine V.r0 hlt ?_
  exact Fin.of rfl
theorem jb9 {n m:Int}(hn : -9223372036854775807≤n∧n≤9223372036854775807)(hm:1≤m∧m≤9223372036854775807):Cl 12 [.int .i64 n,.int .i64 m] (frT (Rat.divInt n m)):=by
 have c:=y_rof hn hm
 unfold frT at *
 generalize Rat.divInt n m=q at *
 refine V.en tbOk Tryz.func12 ?_
 (conv=>whnf)
 refine V.st ?_
 repeat ((try ((with_reducible refine .ext ?_);(conv=>whnf)));(with_reducible refine jaa (r:=?_) ?_ ?_);rotate_left;(focus (first|exact(c)));(conv=>whnf);refine V.st ?_)
 exact Fin.of rfl
abbrev halfP:List (Int×Int):=[(1,0),(1,1),(3,0),(2,500000),(5,0)]
abbrev signP:List (Int×Int):=[(2,1000000),(2,0),(1,0),(10,0)]
theorem half_c:Cl 32 [] (oL halfP):=by
 refine V.en tbOk Tryz.func32 ?_
 refine V.r0 @jhk ?_
 exact Fin.of rfl
theorem sign_c12:Cl 39 [] (oL signP):=by
 refine V.en tbOk Tryz.func39 ?_
 refine V.r0 @jhk ?_
 exact Fin.of rfl
theorem arg2 {f:Nat}{a b a' b' r:D}(h:Cl f [a,b] r)(A:Fin a a')(B:Fin b b'):Cl f [a',b'] r:=Called.arg (show FinL [a,b] [a',b'] from ⟨A,B,trivial⟩) h
theorem eqL_f (x:List Rat)(h:x.length≤40):Cl 29 [fL x,fL x] (.bool true):=
 arg2 (eq_f x.length (fun j=>(decZ (x.getD j 0).num,dec (x.getD j 0).den)) h) (fin_f x) (fin_f x)
theorem eqL_b (x:List (Int×Int))(h:x.length≤40):Cl 38 [oL x,oL x] (.bool true):=
 arg2 (eq_b x.length (fun j=>x.getD j (0,0)) h) (fin_b x) (fin_b x)
theorem jeP (p:List (Int×Int))(x:List Rat)(y:Rat)(d:Int)(okx:∀ q∈x,okF q=true)(hs:surv p x.length 1=some d)(hr:rnM mF x p [] = .ok [y]):Cl 16 [oL p,frT y,fL x] (.bool true):=by
 have r:Cl 20 [oL p,fL x,.int .i64 1] (.tup [sl2 1 [.str (decZ y.num),.str (dec y.den)],.int .i64 0]):=by
  have r:=run_o p x 1 d okx hs
  rw[hr] at r
  exact r
 have e:Cl 29 [sl2 1 [.str (decZ y.num),.str (dec y.den)],sl2 1 [.str (decZ y.num),.str (dec y.den)]] (.bool true):=eqL_f [y] (Nat.succ_le_succ (jhh _))
 unfold frT
 clear hr hs okx
 generalize decZ y.num=S at *
 generalize dec y.den=T at *
 refine V.en tbOk Tryz.func16 ?_
 refine V.r2 @jhk r e ?_
 exact Fin.of rfl
theorem okF_l {n m:Int}(hn : -9223372036854775807≤n∧n≤9223372036854775807)(hm:1≤m∧m≤9223372036854775807):okF (Rat.divInt n m)=true:=(jdT hn hm).ok (by omega) (by omega)
theorem wakes_c:Cl 11 [] (.bool true):=by
 have o38:=jb9 (n:=3) (m:=8) (by omega) (by omega)
 have o12:=jb9 (n:=1) (m:=2) (by omega) (by omega)
 have o14:=jb9 (n:=1) (m:=4) (by omega) (by omega)
 have o11:=jb9 (n:=1) (m:=1) (by omega) (by omega)
 have o01:=jb9 (n:=0) (m:=1) (by omega) (by omega)
 have o17:=jb9 (n := -1) (m:=7) (by omega) (by omega)
 have o31:=jb9 (n:=3) (m:=1) (by omega) (by omega)
 have o3n:=jb9 (n := -3) (m:=1) (by omega) (by omega)
 have k1:∀ (n m:Int),(-9223372036854775807≤n∧n≤9223372036854775807)→(1≤m∧m≤9223372036854775807) → ∀ q∈[Rat.divInt n m],okF q=true:=fun n m h1 h2 q hq=>by rw[List.mem_singleton.1 hq];exact okF_l h1 h2
 have r1:Cl 16 [oL halfP,frT (Rat.divInt 3 8),fL [Rat.divInt 1 2,Rat.divInt 1 4]] (.bool true):=
  jeP halfP _ _ 2 (fun q hq=>by
   rcases jhM.1 hq with e|h
   ·rw[e];exact okF_l (by omega) (by omega)
   ·exact k1 1 4 (by omega) (by omega) q h) (by kernel_rfl) (by kernel_rfl)
 have r2:Cl 16 [oL signP,frT (Rat.divInt 1 1),fL [Rat.divInt 0 1]] (.bool true):=jeP signP _ _ 3 (k1 0 1 (by omega) (by omega)) (by kernel_rfl) (by kernel_rfl)
 have r3:Cl 16 [oL signP,frT (Rat.divInt 0 1),fL [Rat.divInt (-1) 7]] (.bool true):=jeP signP _ _ 3 (k1 (-1) 7 (by omega) (by omega)) (by kernel_rfl) (by kernel_rfl)
 have r4:Cl 16 [oL [(1,0),(11,0),(8,0),(7,0)],frT (Rat.divInt 3 1),fL [Rat.divInt (-3) 1]] (.bool true):=jeP _ _ _ 2 (k1 (-3) 1 (by omega) (by omega)) (by kernel_rfl) (by kernel_rfl)
 have b1:Cl 22 [oL signP,oL [(-1000000000000,1000000000000)],.int .i64 1] (.tup [oL [(0,1000000000000)],.int .i64 0]):=by
  have c:=jg4 signP [(-1000000000000,1000000000000)] 1 3 (fun q hq=>by rw[List.mem_singleton.1 hq];exact jay.2 (by omega)) (by kernel_rfl)
  rw[show rnM mB [(-1000000000000,1000000000000)] signP [] = .ok [(0,1000000000000)] by kernel_rfl] at c
  exact c
 have b2:Cl 22 [oL signP,oL [(1000000000000,2000000000000)],.int .i64 1] (.tup [oL [(1000000000000,1000000000000)],.int .i64 0]):=by
  have c:=jg4 signP [(1000000000000,2000000000000)] 1 3 (fun q hq=>by rw[List.mem_singleton.1 hq];exact jay.2 (by omega)) (by kernel_rfl)
  rw[show rnM mB [(1000000000000,2000000000000)] signP [] = .ok [(1000000000000,1000000000000)] by kernel_rfl] at c
  exact c
 have d1:Cl 27 [oL halfP,.int .i64 2,.int .i64 1] (.tup [.int .i64 2,.int .i64 0]):=by
  have c:=jgQ halfP 2 1
  rw[show surv halfP 2 1=some 2 by kernel_rfl] at c
  exact c
 have c1:Cl 25 [oL halfP,.int .i64 1,.int .i64 1] (.int .i64 120):=by
  have c:=jcJ halfP 1 1
  rw[show surv halfP 1 1=none by kernel_rfl] at c
  exact c
 have e1:=eqL_b [(0,1000000000000)] (by decide)
 have e2:=eqL_b [(1000000000000,1000000000000)] (by decide)
 have hf:=half_c
 have sg:=sign_c12
 clear k1
 simp only[oL,fL,halfP,signP,bcl,fcl,frT,jhV,List.length_nil,Nat.reduceAdd] at *
 generalize decZ (Rat.divInt 3 8).num=s38 at *
 generalize dec (Rat.divInt 3 8).den=t38 at *
 generalize decZ (Rat.divInt 1 2).num=s12 at *
 generalize dec (Rat.divInt 1 2).den=t12 at *
 generalize decZ (Rat.divInt 1 4).num=s14 at *
 generalize dec (Rat.divInt 1 4).den=t14 at *
 generalize decZ (Rat.divInt 1 1).num=s11 at *
 generalize dec (Rat.divInt 1 1).den=t11 at *
 generalize decZ (Rat.divInt 0 1).num=s01 at *
 generalize dec (Rat.divInt 0 1).den=t01 at *
 generalize decZ (Rat.divInt (-1) 7).num=s17 at *
 generalize dec (Rat.divInt (-1) 7).den=t17 at *
 generalize decZ (Rat.divInt 3 1).num=s31 at *
 generalize dec (Rat.divInt 3 1).den=t31 at *
 generalize decZ (Rat.divInt (-3) 1).num=s3n at *
 generalize dec (Rat.divInt (-3) 1).den=t3n at *
 refine V.en tbOk Tryz.func11 ?_
 (conv=>whnf)
 (conv=>whnf)
 (try simp only[jhk,decide_true])
 repeat ((first|refine V.s1 ?_|((try ((with_reducible refine .ext ?_);(conv=>whnf);(try simp only[jhk,decide_true])));(with_reducible refine jaa (r:=?_) ?_ ?_);rotate_left;(focus (first|exact(hf)|exact(sg)|exact(d1)|exact(b1)|exact(b2)|exact(c1)|exact(e1)|exact(e2)|exact(o38)|exact(o12)|exact(o14)|exact(o11)|exact(o01)|exact(o17)|exact(o31)|exact(o3n)|exact(r1)|exact(r2)|exact(r3)|exact(r4)));(conv=>whnf))|(((with_reducible refine .ext ?_));(conv=>whnf)));(try simp only[jhk,decide_true]))
 exact Fin.of rfl
theorem mulb_c (x y:Nat)(hx:x<18446744073709551616)(hy:y<18446744073709551616):Cl 58 [.int .u64 x,.int .u64 y] (.tup [.int .u64 (x*y/18446744073709551616:Nat),.int .u64 (x*y%18446744073709551616:Nat)]):=by
 have c:=mul64_c x y hx hy
 generalize x*y/18446744073709551616=a at *
 generalize x*y%18446744073709551616=b at *
 refine V.en tbOk Tryz.func58 ?_
 (conv=>whnf)
 (conv=>whnf)
 (try simp only[])
 repeat ((first|refine V.s1 ?_|((try ((with_reducible refine .ext ?_);(conv=>whnf);(try simp only[])));(with_reducible refine jaa (r:=?_) ?_ ?_);rotate_left;(focus (first|exact(c)));(conv=>whnf)));(try simp only[]))
 exact Fin.of rfl
theorem zQ34_0:type_of% @jhl∧type_of% @jhk:=⟨@jhl,@jhk⟩
theorem rep5_c:Cl 31 [sl2 1 [.int .i64 1,.int .i64 0],.int .i64 5] (sl2 5 [.int .i64 1,.int .i64 0,.int .i64 1,.int .i64 0,.int .i64 1,.int .i64 0,.int .i64 1,.int .i64 0,.int .i64 1,.int .i64 0]):=by
 have mu:=mulb_c 1 5 (by decide) (by decide)
 refine V.en tbOk Tryz.func31 ?_
 refine V.r1 zQ34_0 mu ?_
 refine Lp.of ⟨Nat,fun k=>k≤3,fun k=>match k with|0=>[(7,.bsl 30 0 5 2),(8,.int .i64 1)]|1=>[(7,.bsl 30 0 5 2),(8,.int .i64 2)]|2=>[(7,.bsl 30 0 5 2),(8,.int .i64 4)]|3=>[(7,.bsl 30 0 5 2),(8,.int .i64 5)]|_=>[],fun k=>match k with|0=>[(30,.box [.int .i64 1,.int .i64 0,.int .i64 0,.int .i64 0,.int .i64 0,.int .i64 0,.int .i64 0,.int .i64 0,.int .i64 0,.int .i64 0])]|1=>[(30,.box [.int .i64 1,.int .i64 0,.int .i64 1,.int .i64 0,.int .i64 0,.int .i64 0,.int .i64 0,.int .i64 0,.int .i64 0,.int .i64 0])]|2=>[(30,.box [.int .i64 1,.int .i64 0,.int .i64 1,.int .i64 0,.int .i64 1,.int .i64 0,.int .i64 1,.int .i64 0,.int .i64 0,.int .i64 0])]|3=>[(30,.box [.int .i64 1,.int .i64 0,.int .i64 1,.int .i64 0,.int .i64 1,.int .i64 0,.int .i64 1,.int .i64 0,.int .i64 1,.int .i64 0])]|_=>[],fun k=>3-k,⟨0,by omega,V.wk⟩,?_⟩
 intro k hk
 have hk5:k=0∨k=1∨k=2∨k=3:=by omega
 rcases hk5 with e|e|e|e
 all_goals subst e
 ·dsimp only
  refine V.r0 @jhk ?_
  refine⟨Pq13z,[],V.pok,?_⟩
  refine jax [(8,.int .i64 2)] [(30,.box [.int .i64 1,.int .i64 0,.int .i64 1,.int .i64 0,.int .i64 0,.int .i64 0,.int .i64 0,.int .i64 0,.int .i64 0,.int .i64 0])] ?_ ?_
  ·exact V.d0 @jhk
  refine V.r0 @jhk ?_
  exact⟨0+1,by omega,by omega,V.wk⟩
 ·dsimp only
  refine V.r0 @jhk ?_
  refine⟨Pq13z,[],V.pok,?_⟩
  refine jax [(8,.int .i64 4)] [(30,.box [.int .i64 1,.int .i64 0,.int .i64 1,.int .i64 0,.int .i64 1,.int .i64 0,.int .i64 1,.int .i64 0,.int .i64 0,.int .i64 0])] ?_ ?_
  ·exact V.d0 @jhk
  refine V.r0 @jhk ?_
  exact⟨1+1,by omega,by omega,V.wk⟩
 ·dsimp only
  refine V.r0 @jhk ?_
  refine⟨Pq13z,[],V.pok,?_⟩
  refine jax [(8,.int .i64 5)] [(30,.box [.int .i64 1,.int .i64 0,.int .i64 1,.int .i64 0,.int .i64 1,.int .i64 0,.int .i64 1,.int .i64 0,.int .i64 1,.int .i64 0])] ?_ ?_
  ·exact V.d0 @jhk
  refine V.r0 @jhk ?_
  exact⟨2+1,by omega,by omega,V.wk⟩
 ·dsimp only
  refine V.r0 @jhk ?_
  exact Fin.of rfl
end Go.Proofs.YtpkdedncgclblaaGreatDoor
end
section
namespace Go.V
open Go Go.RowKit
theorem Wk.renS {off:Nat}{L:Sl}{H:Hp}{L2:Sl}{H2:Hp}(i j t n e:Nat){es:List D}(hij:i≠j)(hoff:off≤j)(hfr:D.freeL j es=true)(hi:lookH H i=some (.box es))(ht:look L t = .bsl i 0 n e)
  (h:Wk off ((t,.bsl j 0 n e)::purge j L) ((j,.box es)::(i,.gone)::jaC j H) L2 H2):Wk off L H L2 H2:=by
 refine⟨fun cx E h' a w e' S=>?_⟩
 subst e'
 have S1:=S.renBx hij hoff hfr hi
 have hv:=S.knows t
 rw[ht] at hv
 refine h.out cx (E.alias2 i j) h' a w rfl (S1.reslot ?_)
 simp only[Den,Env.alias2,if_true] at hv ⊢
 exact hv
end Go.V
namespace Go.Proofs.YtpkdedncgclblaaGreatDoor
open Go Go.V Go.Nb
end Go.Proofs.YtpkdedncgclblaaGreatDoor
end
section
namespace Go.Proofs.YtpkdedncgclblaaGreatDoor
open Go Go.V Go.Nb
def deepP (k:Nat):List (Int×Int):=List.replicate 16 (1,0)++List.replicate k (3,0)
def longP (k:Nat):List (Int×Int):=(1,0)::List.replicate k (8,0)
theorem deep_s (k:Nat):bcl (deepP (k+1))=bcl (deepP k)++[.int .i64 3,.int .i64 0]:=by
 have e:deepP (k+1)=deepP k++[(3,0)]:=by unfold deepP;rw[List.replicate_succ' (n:=k),jhQ]
 rw[e,jb5];rfl
theorem long_s (k:Nat):bcl (longP (k+1))=bcl (longP k)++[.int .i64 8,.int .i64 0]:=by
 have e:longP (k+1)=longP k++[(8,0)]:=by unfold longP;rw[List.replicate_succ'];rfl
 rw[e,jb5];rfl
theorem deep_len (k:Nat):(deepP k).length=16+k:=by unfold deepP;rw[jhO,List.length_replicate,List.length_replicate]
theorem long_len (k:Nat):(longP k).length=k+1:=by unfold longP;simp
theorem kn_no (p:List (Int×Int))(hs:surv p 1 1=none):Cl 27 [oL p,.int .i64 1,.int .i64 1] (.tup [.int .i64 0,.int .i64 120])∧Cl 20 [oL p,sl2 1 [.str [],.str []],.int .i64 1] (.tup [.nil,.int .i64 120])∧Cl 22 [oL p,sl2 1 [.int .i64 1,.int .i64 0],.int .i64 1] (.tup [.nil,.int .i64 120])∧Cl 25 [oL p,.int .i64 1,.int .i64 1] (.int .i64 120):=by
 have d:=jgQ p 1 1
 have c:=jcJ p 1 1
 rw[hs] at d c
 exact⟨d,run_no p 1 _ 1 hs,bands_no p 1 _ 1 hs,c⟩
theorem kn_nil:Cl 27 [.nil,.int .i64 1,.int .i64 1] (.tup [.int .i64 0,.int .i64 120])∧Cl 20 [.nil,sl2 1 [.str [],.str []],.int .i64 1] (.tup [.nil,.int .i64 120])∧Cl 22 [.nil,sl2 1 [.int .i64 1,.int .i64 0],.int .i64 1] (.tup [.nil,.int .i64 120])∧Cl 25 [.nil,.int .i64 1,.int .i64 1] (.int .i64 120):=by
 obtain⟨d,r,b,c⟩:=kn_no [] (by kernel_rfl)
 exact⟨arg3 d (jdu 2 _) (Fin.same _) (Fin.same _),arg3 r (jdu 2 _) (Fin.same _) (Fin.same _),arg3 b (jdu 2 _) (Fin.same _) (Fin.same _),arg3 c (jdu 2 _) (Fin.same _) (Fin.same _)⟩
abbrev sqP:List (Int×Int):=[(1,0),(11,0),(5,0),(11,0),(5,0)]
theorem kn_bad (s t:List UInt8)(h:okP s t=true):Cl 20 [oL halfP,sl2 2 [.str s,.str t,.str [],.str []],.int .i64 1] (.tup [.nil,.int .i64 20]):=by
 have l:=(okP_of h)
 have c1:=jfC s t (jhn (jb3 l.1).1 (by decide)) (jhn (jb3 l.2.1).1 (by decide))
 rw[h] at c1
 have c2:=jfC [] [] (by decide) (by decide)
 rw[show okP [] []=false by kernel_rfl] at c2
 have r:=run_bad halfP 2 1 (fun j=>match j with|0=>(s,t)|_=>([],[])) 1 2 20 (by kernel_rfl) (by decide) (by decide) (fun k hk=>by
  obtain rfl:k=0:=by omega
  exact c1) c2
 exact arg3 r (Fin.same _) (jel (fun j hj=>by
  rcases (by omega:j=0∨j=1) with e|e<;>subst e<;>rfl)) (Fin.same _)
theorem kn_badb:Cl 22 [oL halfP,sl2 2 [.int .i64 0,.int .i64 0,.int .i64 1,.int .i64 0],.int .i64 1] (.tup [.nil,.int .i64 30]):=by
 have r:=bands_bad halfP 2 1 (fun j=>match j with|0=>(0,0)|_=>(1,0)) 1 2 30 (by kernel_rfl) (by decide) (by decide) (fun k hk=>by
  obtain rfl:k=0:=by omega
  exact jg1 0 0) (jg1 1 0)
 exact arg3 r (Fin.same _) (jel (fun j hj=>by
  rcases (by omega:j=0∨j=1) with e|e<;>subst e<;>rfl)) (Fin.same _)
theorem ch_o {p:List (Int×Int)}{i o:Int}(h:surv p i o=none):Cl 25 [oL p,.int .i64 i,.int .i64 o] (.int .i64 120):=by
 have c:=jcJ p i o
 rw[h] at c
 exact c
theorem known_w (s12 t12 s16 t16 s2 t2 s163 t163 s13 t13:List UInt8)
  (o12:Cl 12 [.int .i64 1,.int .i64 2] (.agg [.str s12,.str t12]))
  (o16:Cl 12 [.int .i64 16,.int .i64 1] (.agg [.str s16,.str t16]))
  (o2:Cl 12 [.int .i64 2,.int .i64 1] (.agg [.str s2,.str t2]))
  (o163:Cl 12 [.int .i64 16,.int .i64 3] (.agg [.str s163,.str t163]))
  (o13:Cl 12 [.int .i64 1,.int .i64 3] (.agg [.str s13,.str t13]))
  (rb:Cl 20 [oL halfP,sl2 2 [.str s12,.str t12,.str [],.str []],.int .i64 1] (.tup [.nil,.int .i64 20]))
  (r1:Cl 16 [oL sqP,.agg [.str s16,.str t16],sl2 1 [.str s2,.str t2]] (.bool true))
  (r2:Cl 16 [oL (deepP 15),.agg [.str s163,.str t163],sl2 1 [.str s13,.str t13]] (.bool true)) :
  Cl 7 [] (.bool true):=by
 have wk:=wakes_c
 have hf:=half_c
 have bb:=kn_badb
 have dd:Cl 27 [oL (deepP 15),.int .i64 1,.int .i64 1] (.tup [.int .i64 16,.int .i64 0]):=by
  have c:=jgQ (deepP 15) 1 1
  rw[show surv (deepP 15) 1 1=some 16 by kernel_rfl] at c
  exact c
 have k1:=ch_o (p:=(1,0)::(deepP 15++[(3,0)])) (i:=1) (o:=1) (by kernel_rfl)
 have k2:Cl 25 [oL (longP 39),.int .i64 1,.int .i64 1] (.int .i64 0):=by
  have c:=jcJ (longP 39) 1 1
  rw[show surv (longP 39) 1 1=some 1 by kernel_rfl] at c
  exact c
 have k3:=ch_o (p:=longP 40) (i:=1) (o:=1) (by kernel_rfl)
 have k4:=ch_o (p:=[(1,0)]) (i:=5) (o:=1) (by kernel_rfl)
 have k5:=ch_o (p:=List.replicate 5 (1,0)) (i:=1) (o:=5) (by kernel_rfl)
 have k6:=ch_o (p:=[(1,0)]) (i:=0) (o:=1) (by kernel_rfl)
 have r5:=rep5_c
 have n1:Cl 20 [oL halfP,sl2 1 [.str s12,.str t12],.int .i64 1] (.tup [.nil,.int .i64 120]):=run_no halfP 1 _ 1 (by kernel_rfl)
 have n0:Cl 20 [.nil,.nil,.int .i64 0] (.tup [.nil,.int .i64 120]):=arg3 (run_no [] 0 (fun _=>[]) 0 (by kernel_rfl)) (jdu 2 _) (jdu 2 _) (Fin.same _)
 have bq:Cl 22 [oL sqP,oL [(100000000000000,100000000000000)],.int .i64 1] (.tup [.nil,.int .i64 6]):=by
  have c:=jg4 sqP [(100000000000000,100000000000000)] 1 2 (fun q hq=>by rw[List.mem_singleton.1 hq];exact jay.2 (by omega)) (by kernel_rfl)
  rw[show rnM mB [(100000000000000,100000000000000)] sqP [] = .error 6 by kernel_rfl] at c
  exact c
 refine V.en tbOk Tryz.func7 ?_
 refine V.r1 @jhk wk ?_
 refine Lp.pub 34 ?_
 (conv=>whnf)
 refine Lp.pub 37 ?_
 (conv=>whnf)
 refine Lp.pub 39 ?_
 (conv=>whnf)
 refine Lp.pub 41 ?_
 (conv=>whnf)
 refine Lp.pub 43 ?_
 (conv=>whnf)
 refine Lp.pub 45 ?_
 (conv=>whnf)
 refine Lp.pub 47 ?_
 (conv=>whnf)
 refine Lp.pub 49 ?_
 (conv=>whnf)
 refine Lp.pub 53 ?_
 (conv=>whnf)
 refine Lp.pub 57 ?_
 (conv=>whnf)
 refine Lp.pub 60 ?_
 (conv=>whnf)
 refine Lp.pub 63 ?_
 (conv=>whnf)
 refine Lp.pub 67 ?_
 (conv=>whnf)
 simp only[jhk]
 refine Lp.of ⟨Nat,fun k=>k≤14,fun k=>[(1,.box 1 0),(2,.box 2 0),(68,.bsl 68 0 14 1),(69,.int .i64 14),(70,.int .i64 (k:Nat))],fun _=>[(1,.box [.int .i64 1,.int .i64 0]),(2,.box [.int .i64 3,.int .i64 0]),(68,.box [.nil,sl2 1 [.int .i64 3,.int .i64 0],sl2 2 [.int .i64 1,.int .i64 0,.int .i64 3,.int .i64 0],sl2 1 [.int .i64 0,.int .i64 0],sl2 1 [.int .i64 13,.int .i64 0],sl2 1 [.int .i64 1,.int .i64 1],sl2 1 [.int .i64 1,.int .i64 (-1)],sl2 1 [.int .i64 2,.int .i64 1000000001],sl2 1 [.int .i64 2,.int .i64 (-1000000001)],sl2 3 [.int .i64 1,.int .i64 0,.int .i64 11,.int .i64 1,.int .i64 3,.int .i64 0],sl2 3 [.int .i64 1,.int .i64 0,.int .i64 11,.int .i64 (-1),.int .i64 3,.int .i64 0],sl2 2 [.int .i64 1,.int .i64 0,.int .i64 8,.int .i64 1],sl2 2 [.int .i64 1,.int .i64 0,.int .i64 1,.int .i64 0],sl2 3 [.int .i64 1,.int .i64 0,.int .i64 1,.int .i64 0,.int .i64 10,.int .i64 0]])],fun k=>14-k,⟨0,by omega,V.wk⟩,?_⟩
 intro k hk
 have hk5:k=0∨k=1∨k=2∨k=3∨k=4∨k=5∨k=6∨k=7∨k=8∨k=9∨k=10∨k=11∨k=12∨k=13∨k=14:=by omega
 rcases hk5 with e|e|e|e|e|e|e|e|e|e|e|e|e|e|e
 all_goals subst e
 ·obtain⟨d,r,b,c⟩:=kn_nil
  refine V.r4 @jhk d r b c ?_
  exact⟨0+1,by omega,by omega,V.wk⟩
 ·obtain⟨d,r,b,c⟩:=kn_no [(3,0)] (by kernel_rfl)
  refine V.r4 @jhk d r b c ?_
  exact⟨1+1,by omega,by omega,V.wk⟩
 ·obtain⟨d,r,b,c⟩:=kn_no [(1,0),(3,0)] (by kernel_rfl)
  refine V.r4 @jhk d r b c ?_
  exact⟨2+1,by omega,by omega,V.wk⟩
 ·obtain⟨d,r,b,c⟩:=kn_no [(0,0)] (by kernel_rfl)
  refine V.r4 @jhk d r b c ?_
  exact⟨3+1,by omega,by omega,V.wk⟩
 ·obtain⟨d,r,b,c⟩:=kn_no [(13,0)] (by kernel_rfl)
  refine V.r4 @jhk d r b c ?_
  exact⟨4+1,by omega,by omega,V.wk⟩
 ·obtain⟨d,r,b,c⟩:=kn_no [(1,1)] (by kernel_rfl)
  refine V.r4 @jhk d r b c ?_
  exact⟨5+1,by omega,by omega,V.wk⟩
 ·obtain⟨d,r,b,c⟩:=kn_no [(1, -1)] (by kernel_rfl)
  refine V.r4 @jhk d r b c ?_
  exact⟨6+1,by omega,by omega,V.wk⟩
 ·obtain⟨d,r,b,c⟩:=kn_no [(2,1000000001)] (by kernel_rfl)
  refine V.r4 @jhk d r b c ?_
  exact⟨7+1,by omega,by omega,V.wk⟩
 ·obtain⟨d,r,b,c⟩:=kn_no [(2, -1000000001)] (by kernel_rfl)
  refine V.r4 @jhk d r b c ?_
  exact⟨8+1,by omega,by omega,V.wk⟩
 ·obtain⟨d,r,b,c⟩:=kn_no [(1,0),(11,1),(3,0)] (by kernel_rfl)
  refine V.r4 @jhk d r b c ?_
  exact⟨9+1,by omega,by omega,V.wk⟩
 ·obtain⟨d,r,b,c⟩:=kn_no [(1,0),(11, -1),(3,0)] (by kernel_rfl)
  refine V.r4 @jhk d r b c ?_
  exact⟨10+1,by omega,by omega,V.wk⟩
 ·obtain⟨d,r,b,c⟩:=kn_no [(1,0),(8,1)] (by kernel_rfl)
  refine V.r4 @jhk d r b c ?_
  exact⟨11+1,by omega,by omega,V.wk⟩
 ·obtain⟨d,r,b,c⟩:=kn_no [(1,0),(1,0)] (by kernel_rfl)
  refine V.r4 @jhk d r b c ?_
  exact⟨12+1,by omega,by omega,V.wk⟩
 ·obtain⟨d,r,b,c⟩:=kn_no [(1,0),(1,0),(10,0)] (by kernel_rfl)
  refine V.r4 @jhk d r b c ?_
  exact⟨13+1,by omega,by omega,V.wk⟩
 ·refine V.r0 @jhk ?_
  have mu:=mulb_c 1 16 (by decide) (by decide)
  refine .inl ?_
  (conv=>whnf)
  refine⟨0,_,_,⟨Tryz.func31,rfl,rfl,jhg rfl⟩,?_⟩
  refine V.r1 (V.a2 @jhl @jhk) mu ?_
  refine Lp.of ⟨Nat,fun k=>k≤4,fun k=>match k with|0=>[(7,.bsl 289 0 16 2),(8,.int .i64 1)]|1=>[(7,.bsl 289 0 16 2),(8,.int .i64 2)]|2=>[(7,.bsl 289 0 16 2),(8,.int .i64 4)]|3=>[(7,.bsl 289 0 16 2),(8,.int .i64 8)]|4=>[(7,.bsl 289 0 16 2),(8,.int .i64 16)]|_=>[],fun k=>match k with|0=>[(1,.box [.int .i64 1,.int .i64 0]),(2,.box [.int .i64 3,.int .i64 0]),(289,.box [.int .i64 1,.int .i64 0,.int .i64 0,.int .i64 0,.int .i64 0,.int .i64 0,.int .i64 0,.int .i64 0,.int .i64 0,.int .i64 0,.int .i64 0,.int .i64 0,.int .i64 0,.int .i64 0,.int .i64 0,.int .i64 0,.int .i64 0,.int .i64 0,.int .i64 0,.int .i64 0,.int .i64 0,.int .i64 0,.int .i64 0,.int .i64 0,.int .i64 0,.int .i64 0,.int .i64 0,.int .i64 0,.int .i64 0,.int .i64 0,.int .i64 0,.int .i64 0])]|1=>[(1,.box [.int .i64 1,.int .i64 0]),(2,.box [.int .i64 3,.int .i64 0]),(289,.box [.int .i64 1,.int .i64 0,.int .i64 1,.int .i64 0,.int .i64 0,.int .i64 0,.int .i64 0,.int .i64 0,.int .i64 0,.int .i64 0,.int .i64 0,.int .i64 0,.int .i64 0,.int .i64 0,.int .i64 0,.int .i64 0,.int .i64 0,.int .i64 0,.int .i64 0,.int .i64 0,.int .i64 0,.int .i64 0,.int .i64 0,.int .i64 0,.int .i64 0,.int .i64 0,.int .i64 0,.int .i64 0,.int .i64 0,.int .i64 0,.int .i64 0,.int .i64 0])]|2=>[(1,.box [.int .i64 1,.int .i64 0]),(2,.box [.int .i64 3,.int .i64 0]),(289,.box [.int .i64 1,.int .i64 0,.int .i64 1,.int .i64 0,.int .i64 1,.int .i64 0,.int .i64 1,.int .i64 0,.int .i64 0,.int .i64 0,.int .i64 0,.int .i64 0,.int .i64 0,.int .i64 0,.int .i64 0,.int .i64 0,.int .i64 0,.int .i64 0,.int .i64 0,.int .i64 0,.int .i64 0,.int .i64 0,.int .i64 0,.int .i64 0,.int .i64 0,.int .i64 0,.int .i64 0,.int .i64 0,.int .i64 0,.int .i64 0,.int .i64 0,.int .i64 0])]|3=>[(1,.box [.int .i64 1,.int .i64 0]),(2,.box [.int .i64 3,.int .i64 0]),(289,.box [.int .i64 1,.int .i64 0,.int .i64 1,.int .i64 0,.int .i64 1,.int .i64 0,.int .i64 1,.int .i64 0,.int .i64 1,.int .i64 0,.int .i64 1,.int .i64 0,.int .i64 1,.int .i64 0,.int .i64 1,.int .i64 0,.int .i64 0,.int .i64 0,.int .i64 0,.int .i64 0,.int .i64 0,.int .i64 0,.int .i64 0,.int .i64 0,.int .i64 0,.int .i64 0,.int .i64 0,.int .i64 0,.int .i64 0,.int .i64 0,.int .i64 0,.int .i64 0])]|4=>[(1,.box [.int .i64 1,.int .i64 0]),(2,.box [.int .i64 3,.int .i64 0]),(289,.box [.int .i64 1,.int .i64 0,.int .i64 1,.int .i64 0,.int .i64 1,.int .i64 0,.int .i64 1,.int .i64 0,.int .i64 1,.int .i64 0,.int .i64 1,.int .i64 0,.int .i64 1,.int .i64 0,.int .i64 1,.int .i64 0,.int .i64 1,.int .i64 0,.int .i64 1,.int .i64 0,.int .i64 1,.int .i64 0,.int .i64 1,.int .i64 0,.int .i64 1,.int .i64 0,.int .i64 1,.int .i64 0,.int .i64 1,.int .i64 0,.int .i64 1,.int .i64 0])]|_=>[],fun k=>4-k,⟨0,by omega,V.wk⟩,?_⟩
  intro k hk
  have hk5:k=0∨k=1∨k=2∨k=3∨k=4:=by omega
  rcases hk5 with e|e|e|e|e
  all_goals subst e
  ·dsimp only
   refine V.r0 @jhk ?_
   refine⟨Pq13z,[],V.pok,?_⟩
   refine jax [(8,.int .i64 2)] [(289,.box [.int .i64 1,.int .i64 0,.int .i64 1,.int .i64 0,.int .i64 0,.int .i64 0,.int .i64 0,.int .i64 0,.int .i64 0,.int .i64 0,.int .i64 0,.int .i64 0,.int .i64 0,.int .i64 0,.int .i64 0,.int .i64 0,.int .i64 0,.int .i64 0,.int .i64 0,.int .i64 0,.int .i64 0,.int .i64 0,.int .i64 0,.int .i64 0,.int .i64 0,.int .i64 0,.int .i64 0,.int .i64 0,.int .i64 0,.int .i64 0,.int .i64 0,.int .i64 0])] ?_ ?_
   ·exact V.d0 @jhk
   refine V.r0 @jhk ?_
   exact⟨0+1,by omega,by omega,V.wk⟩
  ·dsimp only
   refine V.r0 @jhk ?_
   refine⟨Pq13z,[],V.pok,?_⟩
   refine jax [(8,.int .i64 4)] [(289,.box [.int .i64 1,.int .i64 0,.int .i64 1,.int .i64 0,.int .i64 1,.int .i64 0,.int .i64 1,.int .i64 0,.int .i64 0,.int .i64 0,.int .i64 0,.int .i64 0,.int .i64 0,.int .i64 0,.int .i64 0,.int .i64 0,.int .i64 0,.int .i64 0,.int .i64 0,.int .i64 0,.int .i64 0,.int .i64 0,.int .i64 0,.int .i64 0,.int .i64 0,.int .i64 0,.int .i64 0,.int .i64 0,.int .i64 0,.int .i64 0,.int .i64 0,.int .i64 0])] ?_ ?_
   ·exact V.d0 @jhk
   refine V.r0 @jhk ?_
   exact⟨1+1,by omega,by omega,V.wk⟩
  ·dsimp only
   refine V.r0 @jhk ?_
   refine⟨Pq13z,[],V.pok,?_⟩
   refine jax [(8,.int .i64 8)] [(289,.box [.int .i64 1,.int .i64 0,.int .i64 1,.int .i64 0,.int .i64 1,.int .i64 0,.int .i64 1,.int .i64 0,.int .i64 1,.int .i64 0,.int .i64 1,.int .i64 0,.int .i64 1,.int .i64 0,.int .i64 1,.int .i64 0,.int .i64 0,.int .i64 0,.int .i64 0,.int .i64 0,.int .i64 0,.int .i64 0,.int .i64 0,.int .i64 0,.int .i64 0,.int .i64 0,.int .i64 0,.int .i64 0,.int .i64 0,.int .i64 0,.int .i64 0,.int .i64 0])] ?_ ?_
   ·exact V.d0 @jhk
   refine V.r0 @jhk ?_
   exact⟨2+1,by omega,by omega,V.wk⟩
  ·dsimp only
   refine V.r0 @jhk ?_
   refine⟨Pq13z,[],V.pok,?_⟩
   refine jax [(8,.int .i64 16)] [(289,.box [.int .i64 1,.int .i64 0,.int .i64 1,.int .i64 0,.int .i64 1,.int .i64 0,.int .i64 1,.int .i64 0,.int .i64 1,.int .i64 0,.int .i64 1,.int .i64 0,.int .i64 1,.int .i64 0,.int .i64 1,.int .i64 0,.int .i64 1,.int .i64 0,.int .i64 1,.int .i64 0,.int .i64 1,.int .i64 0,.int .i64 1,.int .i64 0,.int .i64 1,.int .i64 0,.int .i64 1,.int .i64 0,.int .i64 1,.int .i64 0,.int .i64 1,.int .i64 0])] ?_ ?_
   ·exact V.d0 @jhk
   refine V.r0 @jhk ?_
   exact⟨3+1,by omega,by omega,V.wk⟩
  ·dsimp only
   refine V.r0 @jhk ?_
   refine lpw ⟨Nat,fun k=>k≤15,fun k=>[(1,.box 1 0),(2,.box 2 0),(11,.bsl 300 0 (16+k) 2),(112,.int .i64 (k:Nat))],fun k=>[(1,.box [.int .i64 1,.int .i64 0]),(2,.box [.int .i64 3,.int .i64 0]),(300,.box (bcl (deepP k)))],fun k=>15-k,⟨0,by omega,Wk.renS 289 300 11 16 2 (by decide) (by decide) rfl rfl rfl V.wk⟩,?_⟩
   intro k hk
   by_cases hk2:k=15
   ·subst hk2
    refine V.r0 @jhk ?_
    refine⟨[(1,.box 1 0),(2,.box 2 0),(11,sl2 31 (bcl (deepP 15)))],[(1,.box [.int .i64 1,.int .i64 0]),(2,.box [.int .i64 3,.int .i64 0])],?_,?_⟩
    ·refine Wk.pub 300 ?_
     (conv=>whnf)
     simp only[jhk]
     exact V.wk
    refine V.r0 @jhk ?_
    refine⟨(V.tk [0,2,4] (.ev (.cons 1 [4,2] (.ev (.cons 3 [4] (V.e1 5 [] (V.e1 6 [] (V.e1 7 [] (V.tk [8] .done)))) (.cons 5 [2] (V.e1 3 [] (V.e1 6 [] (V.e1 7 [] (V.tk [8] .done)))) .nil))) (.cons 3 [4,0] (.ev (.cons 1 [4] (V.e1 5 [] (V.e1 6 [] (V.e1 7 [] (V.tk [8] .done)))) (.cons 5 [0] (.ev (.cons 1 [] (V.e1 6 [] (V.e1 7 [] (V.tk [8] .done))) (.cons 6 [0] (V.e1 1 [] (V.e1 7 [] (V.tk [8] .done))) .nil))) .nil))) (.cons 5 [2,0] (.ev (.cons 1 [2] (V.e1 3 [] (V.e1 6 [] (V.e1 7 [] (V.tk [8] .done)))) (.cons 3 [0] (.ev (.cons 1 [] (V.e1 6 [] (V.e1 7 [] (V.tk [8] .done))) (.cons 6 [0] (V.e1 1 [] (V.e1 7 [] (V.tk [8] .done))) .nil))) .nil))) .nil))))),[],V.pok,?_⟩
    refine jax [(126,.bsl 126 0 33 2),(12,.bsl 126 0 33 2)] [(126,.box (bcl ((1,0)::(deepP 15++[(3,0)]))))] ?_ ?_
    ·(conv=>whnf);(try simp only[jhk])
     repeat' (first|exact V.wk|((with_reducible refine And.intro ?_ jbr);(conv=>whnf);(try simp only[jhk]))|((with_reducible first|refine jbI ?_ ?_|refine jca ?_ ?_)<;>(conv=>whnf);(try simp only[jhk]))|((first|refine V.s1 ?_|((with_reducible refine jaV ?_ ?_);(focus ((conv=>whnf);(try simp only[jhk]);(repeat ((first|refine V.s1 ?_);(try simp only[jhk])));exact⟨rfl⟩));(conv=>whnf))|((try ((with_reducible refine .ext ?_);(conv=>whnf);(try simp only[jhk])));(with_reducible refine jaa (r:=?_) ?_ ?_);rotate_left;(focus (first|fail));(conv=>whnf))|((with_reducible refine .inl ?_);(conv=>whnf);(first|refine⟨0,_,_,⟨Tryz.func24,rfl,rfl,jhg rfl⟩,?_⟩);(conv=>whnf)));(try simp only[jhk]))|(refine And.intro ?_ ?_<;>(conv=>whnf);(try simp only[jhk])))
    refine V.r1 @jhk dd ?_
    refine lpw ⟨Nat,fun k=>k≤39,fun k=>[(1,.box 1 0),(2,.box 2 0),(11,sl2 31 (bcl (deepP 15))),(12,.bsl 126 0 33 2),(13,.int .i64 16),(14,.int .i64 0),(15,.bsl 300 0 (k+1) 2)],fun k=>[(1,.box [.int .i64 1,.int .i64 0]),(2,.box [.int .i64 3,.int .i64 0]),(126,.box (bcl ((1,0)::(deepP 15++[(3,0)])))),(300,.box (bcl (longP k)))],fun k=>39-k,⟨0,by omega,Wk.renS 133 300 15 1 2 (by decide) (by decide) rfl rfl rfl V.wk⟩,?_⟩
    clear hk
    intro k hk
    by_cases hk2:k=39
    ·subst hk2
     refine V.r0 @jhk ?_
     refine⟨[(1,.box 1 0),(2,.box 2 0),(11,sl2 31 (bcl (deepP 15))),(12,.bsl 126 0 33 2),(13,.int .i64 16),(14,.int .i64 0),(15,.bsl 300 0 40 2)],[(1,.box [.int .i64 1,.int .i64 0]),(2,.box [.int .i64 3,.int .i64 0]),(126,.box (bcl ((1,0)::(deepP 15++[(3,0)])))),(300,.box (bcl (longP 39)))],V.wk,?_⟩
     refine V.r7 @jhk hf o12 rb bb n1 n0 bq ?_
     refine .ext ?_
     refine V.r1 @jhk k1 ?_
     refine .len ?_
     (conv=>whnf)
     refine⟨fun _=>rfl,?_⟩
     (conv=>whnf)
     refine⟨300,?_⟩
     (conv=>whnf)
     refine⟨.int .i64 0,fun _=>?_,?_⟩
     ·simp only[jhk]
      exact k2
     (conv=>whnf)
     (try simp only[jhk])
     repeat ((first|refine V.s1 ?_|((try ((with_reducible refine .ext ?_);(conv=>whnf);(try simp only[jhk])));(with_reducible refine jaa (r:=?_) ?_ ?_);rotate_left;(focus (first|exact(k3)|exact(k4)|exact(k5)|exact(k6)|exact(r1)|exact(r2)|exact(o16)|exact(o2)|exact(o163)|exact(o13)|exact(r5)));(conv=>whnf))|(((with_reducible refine .ext ?_));(conv=>whnf)));(try simp only[jhk]))
     exact Fin.of rfl
    ·have hlt:decide (((k+1:Nat):Int)<40)=true:=decide_eq_true (by omega)
     have pg:=jaE (longP k)
     have hb:Nat.beq (bcl (longP k)).length ((k+1)*2)=true:=by rw[jaX,long_len];exact Nat.beq_refl _
     have ht:Nat.ble (k+1+1) 1000000=true:=by rw[jhI];omega
     have hf2:∀ i,D.freeL i (bcl (longP k)++[.int .i64 8,.int .i64 0])=true:=jaG (longP k) 8 0
     have hs:=long_s k
     obtain⟨B,hB⟩:∃ B,B=bcl (longP k):=⟨_,rfl⟩
     simp only[← hB] at pg hb hf2 hs ⊢
     (conv=>whnf)
     (try simp only[hlt,jhk])
     repeat ((first|refine V.s1 ?_|((try ((with_reducible refine .ext ?_);(conv=>whnf);(try simp only[hlt,jhk])));(with_reducible refine jaa (r:=?_) ?_ ?_);rotate_left;(focus (first|fail));(conv=>whnf))|(((rewrite [pg];(conv=>whnf)));(conv=>whnf))|(((simp only[hb,ht,jh1,hf2];(conv=>whnf)));(conv=>whnf)));(try simp only[hlt,jhk]))
     refine⟨k+1,by omega,by omega,?_⟩
     rw[hs]
     refine Wk.renS 140 300 15 (k+1+1) 2 (by decide) (by decide) (hf2 _) rfl rfl ?_
     exact V.wk
   ·have hkc:((k:Int)+1)=((k+1:Nat):Int):=by omega
    have hlt:decide ((k:Int)<15)=true:=decide_eq_true (by omega)
    have pg:=jaE (deepP k)
    have hb:Nat.beq (bcl (deepP k)).length ((16+k)*2)=true:=by rw[jaX,deep_len];exact Nat.beq_refl _
    have ht:Nat.ble (16+k+1) 1000000=true:=by rw[jhI];omega
    have hf2:∀ i,D.freeL i (bcl (deepP k)++[.int .i64 3,.int .i64 0])=true:=jaG (deepP k) 3 0
    have hs:=deep_s k
    obtain⟨B,hB⟩:∃ B,B=bcl (deepP k):=⟨_,rfl⟩
    simp only[← hB] at pg hb hf2 hs ⊢
    (conv=>whnf)
    (try simp only[hlt,hkc,jhk])
    repeat ((first|refine V.s1 ?_|((try ((with_reducible refine .ext ?_);(conv=>whnf);(try simp only[hlt,hkc,jhk])));(with_reducible refine jaa (r:=?_) ?_ ?_);rotate_left;(focus (first|fail));(conv=>whnf))|(((rewrite [pg];(conv=>whnf)));(conv=>whnf))|(((simp only[hb,ht,jh1,hf2];(conv=>whnf)));(conv=>whnf)));(try simp only[hlt,hkc,jhk]))
    refine⟨k+1,by omega,by omega,?_⟩
    rw[hs]
    refine Wk.renS 117 300 11 (16+k+1) 2 (by decide) (by decide) (hf2 _) rfl rfl ?_
    exact V.wk
theorem pknown_c:Cl 7 [] (.bool true):=by
 have k1:∀ (n m:Int),(-9223372036854775807≤n∧n≤9223372036854775807)→(1≤m∧m≤9223372036854775807) → ∀ q∈[Rat.divInt n m],okF q=true:=fun n m h1 h2 q hq=>by rw[List.mem_singleton.1 hq];exact okF_l h1 h2
 have o12:=jb9 (n:=1) (m:=2) (by omega) (by omega)
 have o16:=jb9 (n:=16) (m:=1) (by omega) (by omega)
 have o2:=jb9 (n:=2) (m:=1) (by omega) (by omega)
 have o163:=jb9 (n:=16) (m:=3) (by omega) (by omega)
 have o13:=jb9 (n:=1) (m:=3) (by omega) (by omega)
 exact known_w _ _ _ _ _ _ _ _ _ _ o12 o16 o2 o163 o13 (kn_bad _ _ (jfZ (okF_l (n:=1) (m:=2) (by omega) (by omega))).1)
  (jeP sqP [Rat.divInt 2 1] (Rat.divInt 16 1) 2 (k1 2 1 (by omega) (by omega)) (by kernel_rfl) (by kernel_rfl))
  (jeP (deepP 15) [Rat.divInt 1 3] (Rat.divInt 16 3) 16 (k1 1 3 (by omega) (by omega)) (by kernel_rfl) (by kernel_rfl))
end Go.Proofs.YtpkdedncgclblaaGreatDoor
end
