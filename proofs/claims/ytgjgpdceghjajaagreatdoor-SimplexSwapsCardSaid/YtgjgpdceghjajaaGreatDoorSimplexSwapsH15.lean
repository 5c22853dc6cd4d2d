/- What functions of the program answer at given values, part 15. Conditions: those that each theorem names. -/
import Derived.Test.YtgjgpdceghjajaaGreatDoorSimplexSwapsH14
import Derived.Test.YtgjgpdceghjajaaGreatDoorSimplexSwapsH12
import Derived.Test.YtgjgpdceghjajaaGreatDoorSimplexSwapsH13
import Derived.Test.YtgjgpdceghjajaaGreatDoorSimplexSwapsH6
set_option linter.unusedSimpArgs false
set_option linter.unusedVariables false
set_option maxHeartbeats 8000000
set_option maxRecDepth 100000
section
namespace Go.Proofs.YtgjgpdceghjajaaGreatDoor
open Go Go.V Go.Gr
def swErr (size:List Int)(out:Int)(data:List Int)(a b:Int):Int:=
 if jak size out data then (if (0≤a∧a≤(size.length:Int)-1)∧0≤b∧b≤(size.length:Int)-1 then 0 else 2) else 100
def jah (size:List Int)(out:Int)(data:List Int)(a b:Nat):List Int:=
 flat ((swp size a b).map Int.toNat) (fun m=>slot data (pz (size.zip (swp (ixl ((swp size a b).map Int.toNat) m) a b))*out) out) (PR ((swp size a b).map Int.toNat))
def swR (size:List Int)(out:Int)(data:List Int)(a b:Int):D:=
 .tup [gridD (if swErr size out data a b=0 then swp size a.toNat b.toNat else []) (if swErr size out data a b=0 then out else 0) (if swErr size out data a b=0 then jah size out data a.toNat b.toNat else []),.int .i64 (swErr size out data a b)]
theorem nz_of {size:List Int}(h:size.all (fun n=>decide (2≤n∧n≤9))=true):∃ ns:List Nat,size=nz ns∧size.map Int.toNat=ns ∧ ∀ n∈ns,2≤n∧n≤9:=by
 rw[jiy] at h
 refine⟨size.map Int.toNat,?_,rfl,fun n hn=>?_⟩
 ·unfold nz
  rw[List.map_map]
  refine List.ext_getElem (by simp) fun k h1 h2=>?_
  have:=h size[k] (List.getElem_mem h1)
  simp at this ⊢
  omega
 ·obtain⟨x,hx,rfl⟩:=List.mem_map.1 hn
  have:=h x hx
  simp at this
  omega
theorem swap1_c (size:List Int)(out:Int)(data xs:List Int)(a b:Nat)(hg:jak size out data=true)(hx:xs.length=4)(ha:a<4)(hb:b<4)(hi:∀ (k:Nat) (n x:Int),size[k]? = some n→(swp xs a b)[k]? = some x→0≤x∧x≤n-1) :
  Cl 42 [.iarr .i64 xs,.ref [.int .i64 b],.ref [.int .i64 a],.ref [.fn 40 [gridD size out data] []]] (.ints .i64 (slot data (pz (size.zip (swp xs a b))*out) out)):=by
 have hs:=jbp xs a b
 have hs4:(swp xs a b).length=4:=by omega
 have hxa:(xs.set a (xs.getD b 0)).length=4:=by simp[hx]
 refine V.en tbOk Tryz.func42 ?_
 (conv=>whnf)
 refine V.st ?_
 refine⟨(V.tk [0,1,2,3,4,5,6,7,8] (V.e1 9 [1] (V.tk [10] (V.e1 11 [] .done)))),[],V.pok,.go (jad ?_)⟩
 (conv=>whnf)
 (try simp only[jh9,jh7])
 repeat ((first|refine V.s1 ?_|((try ((with_reducible refine .ext ?_);(conv=>whnf);(try simp only[jh9,jh7])));(with_reducible refine jaa (r:=?_) ?_ ?_);rotate_left;(focus (first|exact(jfB _ _ _ _ hg hs4 hi)));(conv=>whnf)));(try simp only[jh9,jh7]))
 exact Fin.of rfl
theorem jfQ (i:Nat)(c:Chunk)(k:IntKind)(xs:List Int)(b:Nat)(K:List D→Prop):pubLK i c (List.drop b (List.map (D.int k) xs)) K=K (List.drop b (List.map (D.int k) xs)):=by
 have h:∀ (l:List Int) (K:List D→Prop),pubLK i c (List.map (D.int k) l) K=K (List.map (D.int k) l):=fun l=>by
  induction l with
  | nil=>intro K;rfl
  | cons x l ih=>intro K;simp only[List.map_cons,pubLK,pubDK,ih]
 rw[← List.map_drop]
 exact h _ K
theorem swap_c (size:List Int)(out:Int)(data:List Int)(a b:Int)(hs:size.length≤281474976710656)(hd:data.length≤281474976710656) :
  Cl 12 [gridD size out data,.int .i64 a,.int .i64 b] (swR size out data a b):=by
 refine V.en tbOk Tryz.func12 ?_
 (conv=>whnf)
 refine V.st ?_
 repeat ((try ((with_reducible refine .ext ?_);(conv=>whnf)));(with_reducible refine jaa (r:=?_) ?_ ?_);rotate_left;(focus (first|exact(jdR _ _ _ hs hd)));(conv=>whnf);refine V.st ?_)
 cases hg:jak size out data with
 | false=>
  have hE:swErr size out data a b=100:=by unfold swErr;rw[hg];rfl
  refine V.br (fun h=>?_) (fun h=>?_)
  ·(conv=>whnf)
   refine V.st ?_
   unfold swR
   rw[hE]
   exact Fin.tup ⟨Fin.agg ⟨Fin.nil _,Fin.of rfl,Fin.nil _,trivial⟩,Fin.of rfl,trivial⟩
  ·simp at h
 | true=>
  have hG:=ja2 hg
  refine V.br (fun h=>?_) (fun h=>?_)
  ·simp at h
  clear h
  (conv=>whnf)
  refine V.st ?_
  repeat ((try ((with_reducible refine .ext ?_);(conv=>whnf)));(with_reducible refine jaa (r:=?_) ?_ ?_);rotate_left;(focus (first|exact(jc9 _ _ _)));(conv=>whnf);refine V.st ?_)
  refine V.br (fun h=>?_) (fun h=>?_)
  ·have hE:swErr size out data a b=2:=by
    unfold swErr;rw[hg,if_pos rfl,if_neg]
    simp at h;omega
   (conv=>whnf)
   refine V.st ?_
   unfold swR
   rw[hE]
   exact Fin.tup ⟨Fin.agg ⟨Fin.nil _,Fin.of rfl,Fin.nil _,trivial⟩,Fin.of rfl,trivial⟩
  have hab:(0≤a∧a≤(size.length:Int)-1)∧0≤b∧b≤(size.length:Int)-1:=by simp at h;omega
  clear h
  obtain⟨a,rfl⟩:∃ x:Nat,a=x:=⟨a.toNat,by omega⟩
  obtain⟨b,rfl⟩:∃ x:Nat,b=x:=⟨b.toNat,by omega⟩
  have hE:swErr size out data a b=0:=by
   unfold swErr;rw[hg,if_pos rfl,if_pos hab]
  (conv=>whnf)
  refine .inl ?_
  (conv=>whnf)
  refine⟨0,_,_,⟨Tryz.func19,rfl,rfl,jh3 rfl⟩,?_⟩
  (conv=>whnf)
  refine AnyB.mk (fun h=>?_) (fun _=>?_)
  ·have:=h rfl
   subst this
   simp at hG
  (conv=>whnf)
  try refine And.intro (fun _=>⟨rfl,by simp;omega⟩) ?_
  (conv=>whnf)
  refine V.st ?_
  refine⟨Pq9z,[],V.pok,.go (jad ?_)⟩
  obtain⟨ns0,hn0,hn1,hn2⟩:=nz_of hG.2.2.2.2.1
  have hsl:size.length=ns0.length:=by rw[hn0];simp[nz]
  have hal:a<ns0.length:=by omega
  have hbl:b<ns0.length:=by omega
  have hsw:swp size a b=nz (swn ns0 a b):=by rw[hn0];exact jdF hal hbl
  have htk:List.take size.length ((size.set a (size.getD b 0)).set b (size.getD a 0))=nz (swn ns0 a b):=by
   rw[jiO (by simp)];exact hsw
  have hmap:(swp size a b).map Int.toNat=swn ns0 a b:=by rw[hsw];unfold nz;rw[List.map_map];exact List.map_id' _
  have hswl:=ja0 ns0 a b
  have hsb:∀ n∈swn ns0 a b,2≤n∧n≤9:=fun n hn=>hn2 n (jf0 hal hbl hn)
  have hf:∀ m,m<PR (swn ns0 a b)→Cl 42 [.iarr .i64 (pad4 (ixl (swn ns0 a b) m)),.ref [.int .i64 b],.ref [.int .i64 a],.ref [.fn 40 [gridD size out data] []]] (.ints .i64 (slot data (pz (size.zip (swp (ixl (swn ns0 a b) m) a b))*out) out)):=fun m hm=>by
   have hil:=jao (swn ns0 a b) m
   have hbd:∀ (k:Nat) (n x:Int),(swp size a b)[k]? = some n→(ixl (swn ns0 a b) m)[k]? = some x→0≤x∧x≤n-1:=fun k n x h1 h2=>by
    rw[hsw] at h1
    simp only[nz,List.getElem?_map,Option.map_eq_some_iff] at h1
    obtain⟨n',h3,rfl⟩:=h1
    exact jcV (fun n hn=>by have:=hsb n hn;omega) h3 h2
   have hbd2:=swp_bd (by omega) (by omega) (by omega) hbd
   have hpad:swp (pad4 (ixl (swn ns0 a b) m)) a b=pad4 (swp (ixl (swn ns0 a b) m) a b):=by
    unfold pad4
    rw[swp_app (by omega) (by omega),jbp]
   have hz:size.zip (swp (pad4 (ixl (swn ns0 a b) m)) a b)=size.zip (swp (ixl (swn ns0 a b) m) a b):=by
    rw[hpad]
    exact jgJ (jaV.2 ⟨by rw[jbp];omega,hbd2⟩)
   rw[← hz]
   refine swap1_c size out data _ a b hg (jas (by omega)) (by omega) (by omega) fun k n x h1 h2=>?_
   rw[hpad] at h2
   exact(jdm (jaV.2 ⟨by rw[jbp];omega,hbd2⟩) hG.2.1).2 k n x h1 h2
  have hsl4:∀ m,(slot data (pz (size.zip (swp (ixl (swn ns0 a b) m) a b))*out) out).length≤4:=fun m=>by
   simp[slot];omega
  refine V.r0 (V.a7 @List.nil_append.{0} @jh9 @jh7 @Nat.add_zero @jiT htk @jfQ) ?_
  refine .ext ?_
  (conv=>whnf)
  repeat (simp only[jfQ,htk];(conv=>whnf))
  try simp only[List.nil_append,jh9,jh7,Nat.add_zero,jiT,htk]
  refine jaa (r:=?_) ?_ ?_
  rotate_left
  focus exact(jhq _ _ _ _ _ _ _ _ _ (by omega) hsb (fun m _=>hsl4 m) hf)
  repeat (simp only[jfQ];(conv=>whnf))
  refine V.r0 (V.a7 @List.nil_append.{0} @jh9 @jh7 @Nat.add_zero @jiT htk @jfQ) ?_
  unfold swR
  rw[hE]
  simp only[if_true,jh9]
  rw[hsw]
  unfold jah
  rw[hmap]
  exact Fin.of rfl
def upd (lt:Int→Int→Bool)(o v:List Int):List Int:=List.zipWith (fun a b=>if lt b a then b else a) o v
def mst (lt:Int→Int→Bool)(data:List Int)(w:Nat):Nat→List Int
 | 0=>slot data 0 w
 | m+1=>upd lt (mst lt data w m) (slot data ((m*w:Nat):Int) w)
theorem lt_c (a b:Int):Cl 53 [.int .i64 a,.int .i64 b] (.bool (decide (a<b))):=by
 refine V.en tbOk Tryz.func53 ?_
 (conv=>whnf)
 refine V.st ?_
 exact Fin.of rfl
theorem gt_c (a b:Int):Cl 54 [.int .i64 a,.int .i64 b] (.bool (decide (a>b))):=by
 refine V.en tbOk Tryz.func54 ?_
 (conv=>whnf)
 refine V.st ?_
 exact Fin.of rfl
theorem tpoints_c (size:List Int)(out:Int)(data:List Int):Cl 52 [gridD size out data] (.fn 92 [] [.ref [.ints .i64 size,.int .i64 out,.ints .i64 data],.ref [.fn 40 [gridD size out data] []]]):=by
 refine V.en tbOk Tryz.func52 ?_
 (conv=>whnf)
 refine V.st ?_
 exact Fin.of rfl
theorem jfc {data:List Int}{w m n:Nat}(h:data.length=n*w)(hm:m<n):(slot data ((m*w:Nat):Int) w).length=w:=by
 unfold slot
 rw[jh9,jh9]
 simp
 have:(m+1)*w≤n*w:=Nat.mul_le_mul_right w hm
 rw[Nat.add_mul] at this
 omega
theorem jbJ {lt:Int→Int→Bool}{data:List Int}{w m n:Nat}(h:data.length=n*w)(hm:m≤n)(hn:0<n):(mst lt data w m).length=w:=by
 induction m with
 | zero=>have:=jfc (m:=0) h hn;simpa [mst] using this
 | succ m ih=>
  unfold mst upd
  rw[List.length_zipWith,ih (by omega),jfc h (by omega)]
  omega
theorem jfD {lt:Int→Int→Bool}{o v:List Int}{k:Nat}{a b:Int}(ha:o[k]? = some a)(hb:v[k]? = some b)(hl:o.length=v.length) :
  ((upd lt o v).take k++o.drop k).set k (if lt b a then b else a)=(upd lt o v).take (k+1)++o.drop (k+1):=by
 have h1:=(jiI.1 ha)
 have h2:=(jiI.1 hb)
 have hul:(upd lt o v).length=o.length:=by unfold upd;rw[List.length_zipWith];omega
 have h3:((upd lt o v).take k).length=k:=by have:=h1.1;rw[jiF];omega
 have h4:(upd lt o v)[k]? = some (if lt b a then b else a):=by
  unfold upd
  rw[List.getElem?_zipWith,ha,hb]
 rw[List.set_append_right _ _ (by omega),h3,Nat.sub_self,jiR h1.1,List.set_cons_zero,jiW,h4]
 simp
theorem jgP {lt:Int→Int→Bool}{o v:List Int}{k:Nat}{a:Int}(ha:o[k]? = some a)(hl:o.length=v.length):((upd lt o v).take k++o.drop k).getD k 0=a:=by
 have h1:=(jiI.1 ha)
 have hul:(upd lt o v).length=o.length:=by unfold upd;rw[List.length_zipWith];omega
 have h3:((upd lt o v).take k).length=k:=by have:=h1.1;rw[jiF];omega
 rw[jiz,List.getElem?_append_right (by omega),h3,Nat.sub_self,List.getElem?_drop,Nat.add_zero,ha]
 rfl
theorem upd_same {lt:Int→Int→Bool}{o v:List Int}{k:Nat}{a b:Int}(ha:o[k]? = some a)(hb:v[k]? = some b)(hl:o.length=v.length)(h:lt b a=false) :
  (upd lt o v).take k++o.drop k=(upd lt o v).take (k+1)++o.drop (k+1):=by
 rw[← jfD ha hb hl,h]
 have h1:=(jiI.1 ha)
 have hul:(upd lt o v).length=o.length:=by unfold upd;rw[List.length_zipWith];omega
 have h3:((upd lt o v).take k).length=k:=by have:=h1.1;rw[jiF];omega
 rw[List.set_append_right _ _ (by omega),h3,Nat.sub_self,jiR h1.1,List.set_cons_zero,h1.2]
 rfl
theorem jhO:type_of% @jh9∧type_of% @jh7:=⟨@jh9,@jh7⟩
theorem most_c (size : List Int) (w : Nat) (data : List Int) (g : Nat) (lt : Int → Int → Bool) (hg : jak size w data = true) (hf : ∀ a b, Cl g [.int .i64 a, .int .i64 b] (.bool (lt a b))) (hirr : ∀ a, lt a a = false) :
    Cl 51 [.fn 92 [] [.ref [.ints .i64 size, .int .i64 w, .ints .i64 data], .ref [.fn 40 [gridD size w data] []]], .fn g [] []] (.ints .i64 (mst lt data w (PR (size.map Int.toNat)))) := by
  have hG := ja2 hg
  obtain ⟨ns, hn0, hn1, hn2⟩ := nz_of hG.2.2.2.2.1
  have hsl : size.length = ns.length := by rw [hn0]; simp [nz]
  have hpos : ∀ n ∈ ns, 0 < n := fun n hn => by have := hn2 n hn; omega
  have hPR := PR_le (by omega) hn2
  have hPP := jdC hpos
  have hprod : prod size = (PR ns : Nat) := by rw [hn0, jc0]
  have hdl : data.length = PR ns * w := by
    have := hG.2.2.2.2.2.2.1
    rw [hprod, ← jii] at this
    omega
  rw [hn1]
  have h1 : 1 ≤ ns.length ∧ ns.length ≤ 4 := by omega
  have hok : ∀ m, okIdx size (ixl ns m) = true := fun m => jaV.2 ⟨by rw [jao]; omega, fun k n x h1 h2 => by
    rw [hn0] at h1
    simp only [nz, List.getElem?_map, Option.map_eq_some_iff] at h1
    obtain ⟨n', h3, rfl⟩ := h1
    exact jcV hpos h3 h2⟩
  have hvc : ∀ m, m < PR ns → Cl 40 [gridD size w data, .iarr .i64 (pad4 (ixl ns m))] (.ints .i64 (slot data ((m * w : Nat) : Int) w)) := fun m hm => by
    have hpad := jdm (hok m) hG.2.1
    have := jfB size w data _ hg hpad.1 hpad.2
    have hpz : pz (size.zip (pad4 (ixl ns m))) = (m : Int) := by
      rw [jgJ (hok m), hn0]
      have := jfg ns hpos m 0
      rw [jid hm] at this
      unfold pz nz
      simpa using this
    rw [hpz, ← jii] at this
    exact this
  have hlen : size.length = ns.length := hsl
  refine V.en tbOk Tryz.func51 ?_
  (conv => whnf)
  refine V.st ?_
  refine ⟨_, _, ⟨Tryz.func92, rfl, rfl, jh3 rfl⟩, ?_⟩
  (conv => whnf)
  refine V.st ?_
  repeat ((try ((with_reducible refine .ext ?_); (conv => whnf))); (with_reducible refine jaa (r := ?_) ?_ ?_); rotate_left; (focus (first | exact (all_c _))); (conv => whnf); refine V.st ?_)
  refine ⟨_, _, ⟨Tryz.func116, rfl, rfl, jh3 rfl⟩, ?_⟩
  refine V.r0 @jh7 ?_
  refine lp_go (ns.length) (fun k => True) (fun k => [(10, .int .i64 k)]) (fun k => [(57, .arr .i64 (pad4 ((lastL ns).take k)))]) V.wk ?_ ?_
  · trivial
  intro k hk _
  (conv => whnf)
  refine V.st ?_
  refine V.br (fun h => ?_) (fun h => ?_)
  · rw [hlen] at h
    simp only [decide_eq_true_eq] at h
    have hk1 : k < ns.length := by omega
    obtain ⟨n, hn⟩ : ∃ n, ns[k]? = some n := ⟨ns[k], jiC hk1⟩
    have hnb := hn2 n (jiD hn)
    have en : size.getD k 0 = n := by rw [hn0]; simp [nz, jiz, hn]
    have hll : (lastL ns)[k]? = some ((n : Int) - 1) := by simp [lastL, hn]
    have hp4 : (pad4 ((lastL ns).take k)).length = 4 := jas (by simp [lastL]; omega)
    have hps := jd9 hll (by simp [lastL]; omega)
    refine V.r0 (V.a3 jhO @en hps) ?_
    exact ⟨k + 1, ⟨by omega, trivial⟩, by omega, V.wk⟩
  · rw [hlen] at h
    simp only [decide_eq_false_iff_not] at h
    have hk1 : k = ns.length := by omega
    subst hk1
    have e0 : (lastL ns).take ns.length = lastL ns := jiO (by simp [lastL])
    rw [e0]
    (conv => whnf)
    refine V.st ?_
    have e1 := jf2 h1 hn2
    have hp4l : (pad4 (lastL ns)).length = 4 := jas (by simp [lastL]; omega)
    refine jae 0 (fun k => k < PR ns) (fun k => PR ns - k) (fun k => []) (fun k => match k with
      | 0 => [(56, .arr .i64 (pad4 (ixl ns 0))), (5, .box [.nil])]
      | m + 1 => [(56, .arr .i64 (pad4 (ixl ns (m + 1)))), (5, .box [.osl 159 0 w]), (159, .arr .i64 (mst lt data w (m + 1)))]) ?_ hPP ?_
    · simp only [e1]
      exact V.wk
    intro m hm
    have hvm := hvc m hm
    have hp4 : (pad4 (ixl ns m)).length = 4 := jas (by rw [jao]; omega)
    have hvl := jfc hdl hm
    have hml := jbJ (lt := lt) hdl (Nat.le_of_lt hm) hPP
    have hul : (upd lt (mst lt data w m) (slot data ((m * w : Nat) : Int) w)).length = w := by unfold upd; rw [List.length_zipWith]; omega
    cases m with
    | zero =>
      have hm0 : slot data ((0 * w : Nat) : Int) w = mst lt data w 0 := by simp [mst]
      rw [hm0] at hvm hvl hul
      have hvf : upd lt (mst lt data w 0) (mst lt data w 0) = mst lt data w 1 := by
        conv => rhs; unfold mst
        rw [hm0]
      generalize hv : mst lt data w 0 = vs at *
      (conv => whnf)
      refine V.st ?_
      repeat ((try ((with_reducible refine .ext ?_); (conv => whnf))); (with_reducible refine jaa (r := ?_) ?_ ?_); rotate_left; (focus (first | exact (hvm))); (conv => whnf); refine V.st ?_)
      refine ⟨(V.tk [0,1,2] (V.e1 3 [0] (V.e1 4 [] (V.tk [5] .done)))), [], V.pok, .go (jad ?_)⟩
      (conv => whnf)
      refine V.st ?_
      repeat ((try ((with_reducible refine .ext ?_); (conv => whnf))); (with_reducible refine jaa (r := ?_) ?_ ?_); rotate_left; (focus (first | exact (hvm))); (conv => whnf); refine V.st ?_)
      refine .inl ?_
      (conv => whnf)
      refine ⟨0, _, _, ⟨Tryz.func19, rfl, rfl, jh3 rfl⟩, ?_⟩
      (conv => whnf)
      refine AnyB.mk (fun h => ?_) (fun _ => ?_)
      · have := h rfl
        rw [this] at hvl
        simp at hvl
        omega
      (conv => whnf)
      try refine And.intro (fun _ => ⟨rfl, by simp; omega⟩) ?_
      have hol : vs.length = w := hml
      have he0 : vs = (upd lt vs vs).take 0 ++ vs.drop 0 := by simp
      refine V.r0 (V.a4 @jh7 @Nat.add_zero @List.nil_append.{0} hvl) ?_
      refine lp_go w (fun _ => True) (fun k => [(17, .int .i64 k)]) (fun k => [(159, .arr .i64 ((upd lt vs vs).take k ++ vs.drop k))]) ?_ trivial ?_
      · rw [← he0]
        exact V.wk
      intro k hk _
      (conv => whnf)
      refine V.st ?_
      refine V.br (fun hq => ?_) (fun hq => ?_)
      · rw [decide_eq_true_eq] at hq
        have hk1 : k < w := by omega
        obtain ⟨v, hv1, ev⟩ := getxn (xs := vs) (k := k) (by omega)
        obtain ⟨o, ho1, eo⟩ := getxn (xs := vs) (k := k) (by omega)
        have hug := jgP (lt := lt) (v := vs) ho1 (by omega)
        have hus := jfD (lt := lt) ho1 hv1 (by omega)
        have hul2 : ((upd lt vs vs).take k ++ vs.drop k).length = w := by simp; omega
        refine V.r0 (V.a2 jhO ev) ?_
        refine ⟨(V.tk [0,1,2,3,4,5] (V.e1 6 [] .done)), [], V.pok, .go (jad ?_)⟩
        (conv => whnf)
        (try simp only [jhO, ev, hug])
        repeat ((first | refine V.s1 ?_ | ((try ((with_reducible refine .ext ?_); (conv => whnf); (try simp only [jhO, ev, hug]))); (with_reducible refine jaa (r := ?_) ?_ ?_); rotate_left; (focus (first | exact (hf _ _))); (conv => whnf))); (try simp only [jhO, ev, hug]))
        refine jbn [] [(159, .arr .i64 ((upd lt vs vs).take (k + 1) ++ vs.drop (k + 1)))] (CondB.mk (fun hc => ?_) (fun hc => ?_)) ?_
        · rw [hc, if_pos rfl] at hus
          refine V.r0 (V.a3 jhO ev hus) ?_
          exact V.wk
        · have hsm := upd_same ho1 hv1 (by omega) hc
          rw [← hsm]
          (conv => whnf)
          refine V.st ?_
          exact V.wk
        (conv => whnf)
        refine V.st ?_
        exact ⟨k + 1, ⟨by omega, trivial⟩, by omega, V.wk⟩
      · rw [decide_eq_false_iff_not] at hq
        have hk1 : k = w := by omega
        subst hk1
        have hfin : (upd lt vs vs).take k ++ vs.drop k = mst lt data k 1 := by
          rw [jiO (by omega), jiP (by omega), List.append_nil]
          exact hvf
        rw [hfin]
        (conv => whnf)
        refine V.st ?_
        refine V.br (fun hq => ?_) (fun hq => ?_)
        · rw [decide_eq_true_eq] at hq
          have hq2 : ixl ns (0) = lastL ns := jea (by rw [jao]; simp [lastL]) hq
          have hq3 := jdo ns hpos (0) hq2
          rw [jid hm] at hq3
          have hq4 : 1 = PR ns := by omega
          have hml3 := jbJ (lt := lt) hdl (Nat.le_of_eq hq4) hPP
          (conv => whnf)
          refine V.st ?_
          rw [jiO (by omega), hq4]
          exact Fin.of rfl
        · rw [decide_eq_false_iff_not] at hq
          have hq2 : ixl ns (0) ≠ lastL ns := fun e => hq (by rw [← e])
          have hil := jao ns (0)
          have hll : (lastL ns).length = ns.length := by simp [lastL]
          (conv => whnf)
          refine V.st ?_
          rw [hlen]
          have e2 : (ixl ns (0)).take ns.length = ixl ns (0) := jiO (by omega)
          refine jae (ns.length) (fun k => (1 ≤ k ∧ k ≤ ns.length) ∧ (ixl ns (0)).drop k = (lastL ns).drop k) (fun k => k) (fun k => [(7, .int .i64 ((k : Int) - 1))]) (fun k => [(56, .arr .i64 (pad4 ((ixl ns (0)).take k)))]) ?_ ?_ ?_
          · rw [e2]
            exact V.wk
          · exact ⟨⟨h1.1, jia _⟩, by rw [jiP (by omega), jiP (by omega)]⟩
          rintro p ⟨⟨hp1, hp2⟩, hp3⟩
          obtain ⟨p, rfl⟩ : ∃ q, p = q + 1 := ⟨p - 1, by omega⟩
          obtain ⟨x, hx⟩ : ∃ x, (ixl ns (0))[p]? = some x := ⟨_, jiC (by omega)⟩
          obtain ⟨n, hn⟩ : ∃ n, ns[p]? = some n := ⟨ns[p], jiC (by omega)⟩
          have hpx := jbD hx (by omega : p < p + 1) (by omega)
          have hpl : (lastL ns)[p]? = some ((n : Int) - 1) := by simp [lastL, hn]
          have hpl2 := jbD (k := 4) hpl (by omega) (by omega)
          rw [jiO (by omega)] at hpl2
          have hp5 : (pad4 ((ixl ns (0)).take (p + 1))).length = 4 := jas (by simp; omega)
          have e3 : ((p + 1 : Nat) : Int) - 1 = (p : Int) := by omega
          have e4 := jdl hx (by omega)
          (conv => whnf)
          refine V.st ?_
          refine ⟨Pq28z, [], V.pok, .go (jad ?_)⟩
          refine V.r0 (V.a4 jhO e3 hpx hpl2) ?_
          refine V.br (fun hc => ?_) (fun hc => ?_)
          · rw [decide_eq_true_eq] at hc
            have hd : (ixl ns (0)).drop p = (lastL ns).drop p := by
              rw [jiR (by omega : p < (ixl ns (0)).length), jiR (by omega : p < (lastL ns).length), hp3, (jiI.1 hx).2, (jiI.1 hpl).2, hc]
            have hp0 : 1 ≤ p := by
              rcases jib p with e | e
              · subst e; exact absurd (by simpa using hd) hq2
              · exact e
            refine V.r0 (V.a3 jhO e3 e4) ?_
            exact ⟨p, ⟨⟨hp0, by omega⟩, hd⟩, by omega, V.wk⟩
          · rw [decide_eq_false_iff_not] at hc
            have hsu := jee ns hpos (0) p n hn x hx (by rw [hp3]; simp [lastL]) hc
            have e5 := jcz (y := x + 1) hx (by omega) (by omega : (ixl ns (0)).length ≤ 4)
            rw [hil, ← hsu] at e5
            have hxb := jcV hpos hn hx
            have hnb := hn2 n (jiD hn)
            have hm1 : 1 < PR ns := by
              rcases jig (1) (PR ns) with e | e
              · exact e
              · exfalso
                exact hq2 (jdr ns hpos (0) (by rw [jid hm]; omega))
            refine V.r0 (V.a4 jhO e3 hpx e5) ?_
            exact ⟨1, hm1, by omega, V.wk⟩
    | succ m =>
      have hvf : upd lt (mst lt data w (m + 1)) (slot data (((m + 1) * w : Nat) : Int) w) = mst lt data w (m + 2) := by
        conv => rhs; unfold mst
      generalize hv : mst lt data w (m + 1) = vs at *
      generalize hv2 : slot data (((m + 1) * w : Nat) : Int) w = ws at *
      (conv => whnf)
      refine V.st ?_
      repeat ((try ((with_reducible refine .ext ?_); (conv => whnf))); (with_reducible refine jaa (r := ?_) ?_ ?_); rotate_left; (focus (first | exact (hvm))); (conv => whnf); refine V.st ?_)
      refine ⟨(V.tk [0,1,2] (V.e1 3 [0] (V.e1 4 [] (V.tk [5] .done)))), [], V.pok, .go (jad ?_)⟩
      (conv => whnf)
      refine V.st ?_
      repeat ((try ((with_reducible refine .ext ?_); (conv => whnf))); (with_reducible refine jaa (r := ?_) ?_ ?_); rotate_left; (focus (first | exact (hvm))); (conv => whnf); refine V.st ?_)
      have hol : vs.length = w := hml
      have he0 : vs = (upd lt vs ws).take 0 ++ vs.drop 0 := by simp
      refine V.r0 (V.a4 @jh7 @Nat.add_zero @List.nil_append.{0} hvl) ?_
      refine lp_go w (fun _ => True) (fun k => [(17, .int .i64 k)]) (fun k => [(159, .arr .i64 ((upd lt vs ws).take k ++ vs.drop k))]) ?_ trivial ?_
      · rw [← he0, ← hv]
        exact V.wk
      intro k hk _
      (conv => whnf)
      refine V.st ?_
      refine V.br (fun hq => ?_) (fun hq => ?_)
      · rw [decide_eq_true_eq] at hq
        have hk1 : k < w := by omega
        obtain ⟨v, hv1, ev⟩ := getxn (xs := ws) (k := k) (by omega)
        obtain ⟨o, ho1, eo⟩ := getxn (xs := vs) (k := k) (by omega)
        have hug := jgP (lt := lt) (v := ws) ho1 (by omega)
        have hus := jfD (lt := lt) ho1 hv1 (by omega)
        have hul2 : ((upd lt vs ws).take k ++ vs.drop k).length = w := by simp; omega
        refine V.r0 (V.a2 jhO ev) ?_
        refine ⟨(V.tk [0,1,2,3,4,5] (V.e1 6 [] .done)), [], V.pok, .go (jad ?_)⟩
        (conv => whnf)
        (try simp only [jhO, ev, hug])
        repeat ((first | refine V.s1 ?_ | ((try ((with_reducible refine .ext ?_); (conv => whnf); (try simp only [jhO, ev, hug]))); (with_reducible refine jaa (r := ?_) ?_ ?_); rotate_left; (focus (first | exact (hf _ _))); (conv => whnf))); (try simp only [jhO, ev, hug]))
        refine jbn [] [(159, .arr .i64 ((upd lt vs ws).take (k + 1) ++ vs.drop (k + 1)))] (CondB.mk (fun hc => ?_) (fun hc => ?_)) ?_
        · rw [hc, if_pos rfl] at hus
          refine V.r0 (V.a3 jhO ev hus) ?_
          exact V.wk
        · have hsm := upd_same ho1 hv1 (by omega) hc
          rw [← hsm]
          (conv => whnf)
          refine V.st ?_
          exact V.wk
        (conv => whnf)
        refine V.st ?_
        exact ⟨k + 1, ⟨by omega, trivial⟩, by omega, V.wk⟩
      · rw [decide_eq_false_iff_not] at hq
        have hk1 : k = w := by omega
        subst hk1
        have hfin : (upd lt vs ws).take k ++ vs.drop k = mst lt data k (m + 2) := by
          rw [jiO (by omega), jiP (by omega), List.append_nil]
          exact hvf
        rw [hfin]
        (conv => whnf)
        refine V.st ?_
        refine V.br (fun hq => ?_) (fun hq => ?_)
        · rw [decide_eq_true_eq] at hq
          have hq2 : ixl ns (m + 1) = lastL ns := jea (by rw [jao]; simp [lastL]) hq
          have hq3 := jdo ns hpos (m + 1) hq2
          rw [jid hm] at hq3
          have hq4 : m + 2 = PR ns := by omega
          have hml3 := jbJ (lt := lt) hdl (Nat.le_of_eq hq4) hPP
          (conv => whnf)
          refine V.st ?_
          rw [jiO (by omega), hq4]
          exact Fin.of rfl
        · rw [decide_eq_false_iff_not] at hq
          have hq2 : ixl ns (m + 1) ≠ lastL ns := fun e => hq (by rw [← e])
          have hil := jao ns (m + 1)
          have hll : (lastL ns).length = ns.length := by simp [lastL]
          (conv => whnf)
          refine V.st ?_
          rw [hlen]
          have e2 : (ixl ns (m + 1)).take ns.length = ixl ns (m + 1) := jiO (by omega)
          refine jae (ns.length) (fun k => (1 ≤ k ∧ k ≤ ns.length) ∧ (ixl ns (m + 1)).drop k = (lastL ns).drop k) (fun k => k) (fun k => [(7, .int .i64 ((k : Int) - 1))]) (fun k => [(56, .arr .i64 (pad4 ((ixl ns (m + 1)).take k)))]) ?_ ?_ ?_
          · rw [e2]
            exact V.wk
          · exact ⟨⟨h1.1, jia _⟩, by rw [jiP (by omega), jiP (by omega)]⟩
          rintro p ⟨⟨hp1, hp2⟩, hp3⟩
          obtain ⟨p, rfl⟩ : ∃ q, p = q + 1 := ⟨p - 1, by omega⟩
          obtain ⟨x, hx⟩ : ∃ x, (ixl ns (m + 1))[p]? = some x := ⟨_, jiC (by omega)⟩
          obtain ⟨n, hn⟩ : ∃ n, ns[p]? = some n := ⟨ns[p], jiC (by omega)⟩
          have hpx := jbD hx (by omega : p < p + 1) (by omega)
          have hpl : (lastL ns)[p]? = some ((n : Int) - 1) := by simp [lastL, hn]
          have hpl2 := jbD (k := 4) hpl (by omega) (by omega)
          rw [jiO (by omega)] at hpl2
          have hp5 : (pad4 ((ixl ns (m + 1)).take (p + 1))).length = 4 := jas (by simp; omega)
          have e3 : ((p + 1 : Nat) : Int) - 1 = (p : Int) := by omega
          have e4 := jdl hx (by omega)
          (conv => whnf)
          refine V.st ?_
          refine ⟨Pq28z, [], V.pok, .go (jad ?_)⟩
          refine V.r0 (V.a4 jhO e3 hpx hpl2) ?_
          refine V.br (fun hc => ?_) (fun hc => ?_)
          · rw [decide_eq_true_eq] at hc
            have hd : (ixl ns (m + 1)).drop p = (lastL ns).drop p := by
              rw [jiR (by omega : p < (ixl ns (m + 1)).length), jiR (by omega : p < (lastL ns).length), hp3, (jiI.1 hx).2, (jiI.1 hpl).2, hc]
            have hp0 : 1 ≤ p := by
              rcases jib p with e | e
              · subst e; exact absurd (by simpa using hd) hq2
              · exact e
            refine V.r0 (V.a3 jhO e3 e4) ?_
            exact ⟨p, ⟨⟨hp0, by omega⟩, hd⟩, by omega, V.wk⟩
          · rw [decide_eq_false_iff_not] at hc
            have hsu := jee ns hpos (m + 1) p n hn x hx (by rw [hp3]; simp [lastL]) hc
            have e5 := jcz (y := x + 1) hx (by omega) (by omega : (ixl ns (m + 1)).length ≤ 4)
            rw [hil, ← hsu] at e5
            have hxb := jcV hpos hn hx
            have hnb := hn2 n (jiD hn)
            have hm1 : m + 2 < PR ns := by
              rcases jig (m + 2) (PR ns) with e | e
              · exact e
              · exfalso
                exact hq2 (jdr ns hpos (m + 1) (by rw [jid hm]; omega))
            refine V.r0 (V.a4 jhO e3 hpx e5) ?_
            exact ⟨m + 2, hm1, by omega, V.wk⟩
theorem jff {lt:Int→Int→Bool}{data:List Int}{w n:Nat}(h:data.length=n*w)(hw:0<w):∀ m,m≤n→rl lt data w (m*w)=mst lt data w m:=by
 intro m
 induction m with
 | zero=>intro _;simp[rl,mst]
 | succ m ih=>
  intro hm
  have ih:=ih (by omega)
  have hwl:w≤data.length:=by rw[h];exact Nat.le_mul_of_pos_left _ (by omega)
  have hR:=jet (lt:=lt) hwl (m*w)
  have hS:=jfc h (by omega:m<n)
  have key:∀ k,k≤w→rl lt data w (m*w+k)=(upd lt (rl lt data w (m*w)) (slot data ((m*w:Nat):Int) w)).take k++(rl lt data w (m*w)).drop k:=by
   intro k
   induction k with
   | zero=>intro _;simp
   | succ k ihk=>
    intro hk
    have ihk:=ihk (by omega)
    have e1:(m*w+k)%w=k:=by
     rw[Nat.add_comm,Nat.add_mul_mod_self_right,jid (by omega)]
    obtain⟨a,ha⟩:∃ a,(rl lt data w (m*w))[k]? = some a:=⟨_,jiC (by omega)⟩
    obtain⟨b,hb⟩:∃ b,(slot data ((m*w:Nat):Int) w)[k]? = some b:=⟨_,jiC (by omega)⟩
    have hb2:data.getD (m*w+k) 0=b:=by
     have:=hb
     unfold slot at this
     rw[jh9,jh9,jiV (by omega),List.getElem?_drop] at this
     rw[jiz,this];rfl
    have hug:=jgP (lt:=lt) (v:=slot data ((m*w:Nat):Int) w) ha (by omega)
    have hus:=jfD (lt:=lt) ha hb (by omega)
    rw[← hus,← Nat.add_assoc]
    conv=>lhs;unfold rl
    rw[e1,ihk,hb2,hug]
  have hk:=key w (jia _)
  have hul:(upd lt (rl lt data w (m*w)) (slot data ((m*w:Nat):Int) w)).length=w:=by unfold upd;rw[List.length_zipWith];omega
  rw[Nat.add_mul,Nat.one_mul,hk,jiO (by omega),jiP (by omega),List.append_nil,ih]
  rfl
theorem range_c (size:List Int)(out:Int)(data:List Int)(hs:size.length≤281474976710656)(hd:data.length≤281474976710656) :
  Cl 25 [gridD size out data] (.tup [.ints .i64 (if jak size out data then rl (fun a b=>decide (a<b)) data out.toNat data.length else []),.ints .i64 (if jak size out data then rl (fun a b=>decide (a>b)) data out.toNat data.length else []),.int .i64 (if jak size out data then 0 else 100)]):=by
 refine V.en tbOk Tryz.func25 ?_
 (conv=>whnf)
 refine V.st ?_
 repeat ((try ((with_reducible refine .ext ?_);(conv=>whnf)));(with_reducible refine jaa (r:=?_) ?_ ?_);rotate_left;(focus (first|exact(jdR _ _ _ hs hd)));(conv=>whnf);refine V.st ?_)
 cases hg:jak size out data with
 | false=>
  refine V.br (fun h=>?_) (fun h=>?_)
  ·(conv=>whnf)
   refine V.st ?_
   exact Fin.tup ⟨Fin.nil _,Fin.nil _,Fin.of rfl,trivial⟩
  ·simp at h
 | true=>
  have hG:=ja2 hg
  obtain⟨w,rfl⟩:∃ w:Nat,out=w:=⟨out.toNat,by omega⟩
  obtain⟨ns,hn0,hn1,hn2⟩:=nz_of hG.2.2.2.2.1
  have hprod:prod size=(PR ns:Nat):=by rw[hn0,jc0]
  have hdl:data.length=PR ns*w:=by
   have:=hG.2.2.2.2.2.2.1
   rw[hprod,← jii] at this
   omega
  have e1:=jff (lt:=fun a b=>decide (a<b)) hdl (by omega) (PR ns) (jia _)
  have e2:=jff (lt:=fun a b=>decide (a>b)) hdl (by omega) (PR ns) (jia _)
  rw[← hdl] at e1 e2
  have m1:=most_c size w data 53 (fun a b=>decide (a<b)) hg lt_c (fun a=>by simp)
  have m2:=most_c size w data 54 (fun a b=>decide (a>b)) hg gt_c (fun a=>by simp)
  rw[hn1,← e1] at m1
  rw[hn1,← e2] at m2
  refine V.br (fun h=>?_) (fun h=>?_)
  ·simp at h
  (conv=>whnf)
  refine V.st ?_
  repeat ((try ((with_reducible refine .ext ?_);(conv=>whnf)));(with_reducible refine jaa (r:=?_) ?_ ?_);rotate_left;(focus (first|exact(tpoints_c _ _ _)|exact(m1)|exact(m2)));(conv=>whnf);refine V.st ?_)
  exact Fin.of rfl
theorem take_slot {data:List Int}{w n:Nat} : data.take (n*w)++slot data ((n*w:Nat):Int) w=data.take ((n+1)*w):=by
 unfold slot
 rw[jh9,jh9,Nat.add_mul,Nat.one_mul,List.take_add]
theorem pz_ixl {ns:List Nat}{m:Nat}(hp:∀ n∈ns,0<n)(hm:m<PR ns):pz ((nz ns).zip (ixl ns m))=m:=by
 have:=jfg ns hp m 0
 rw[jid hm] at this
 unfold pz nz
 simpa using this
theorem pzf (ns:List Nat)(x:List Int)(p:Int):x.length=ns.length→((nz ns).zip x).foldl (fun p a=>p*a.1+a.2) p=p*(PR ns:Int)+pz ((nz ns).zip x):=by
 induction ns generalizing x p with
 | nil=>intro _;simp[pz,nz,PR]
 | cons n r ih=>
  intro hl
  cases x with
  | nil=>simp at hl
  | cons a s=>
   have hl':s.length=r.length:=by simpa using hl
   simp only[nz,List.map_cons,List.zip_cons_cons,List.foldl_cons,pz,PR]
   have e1:=ih s (p*(n:Int)+a) hl'
   have e2:=ih s (0*(n:Int)+a) hl'
   simp only[nz] at e1 e2
   rw[e1,e2]
   simp only[jii,jit,jil,Int.zero_mul,Int.zero_add]
   omega
theorem pz_cons (n:Nat)(r:List Nat)(a:Int)(s:List Int)(h:s.length=r.length):pz ((nz (n::r)).zip (a::s))=a*(PR r:Int)+pz ((nz r).zip s):=by
 have:=pzf r s a h
 unfold pz at this ⊢
 simp only[nz,List.map_cons,List.zip_cons_cons,List.foldl_cons,Int.zero_mul,Int.zero_add] at this ⊢
 exact this
theorem ixl_pz:∀ (ns:List Nat) (x:List Int),okIdx (nz ns) x=true→(0≤pz ((nz ns).zip x)∧pz ((nz ns).zip x)<PR ns)∧ixl ns (pz ((nz ns).zip x)).toNat=x
 | [],x,h=>by
  have h1:=(jaV.1 h).1
  simp[nz] at h1
  subst h1
  simp[pz,nz,PR,ixl]
 | n::r,[],h=>by
  have h1:=(jaV.1 h).1
  simp[nz] at h1
 | n::r,a::s,h=>by
  obtain⟨h1,h2⟩:=jaV.1 h
  have hl:s.length=r.length:=by simpa [nz] using h1
  have ha:=h2 0 n a (by simp[nz]) rfl
  have hr:okIdx (nz r) s=true:=jaV.2 ⟨by simpa [nz] using hl,fun k n' x' g1 g2=>h2 (k+1) n' x' (by simpa [nz] using g1) (by simpa using g2)⟩
  obtain⟨⟨i1,i2⟩,i3⟩:=ixl_pz r s hr
  rw[pz_cons n r a s hl]
  have hpos:∀ y∈r,0<y:=fun y hy=>by
   obtain⟨k,hk⟩:=List.getElem?_of_mem hy
   have hk2:k<s.length:=by have:=(jiI.1 hk).1;omega
   have:=h2 (k+1) y s[k] (by simp[nz,hk]) (by simp[hk2])
   omega
  have hP:=jdC hpos
  generalize pz ((nz r).zip s)=q at *
  obtain⟨q,rfl⟩:∃ m:Nat,q=m:=⟨q.toNat,by omega⟩
  obtain⟨a,rfl⟩:∃ m:Nat,a=m:=⟨a.toNat,by omega⟩
  have e:((a:Int)*(PR r:Int)+(q:Int))=((a*PR r+q:Nat):Int):=by simp
  have hq:q<PR r:=by omega
  have han:a<n:=by omega
  rw[e,jh9] at *
  refine⟨⟨by omega,?_⟩,?_⟩
  ·have:a*PR r+q<(a+1)*PR r:=by rw[Nat.add_mul];omega
   have h5:(a+1)*PR r≤n*PR r:=Nat.mul_le_mul_right _ han
   rw[PR]
   omega
  ·have e1:(a*PR r+q)/PR r=a:=by
    rw[jic,Nat.mul_add_div hP,Nat.div_eq_of_lt hq,Nat.add_zero]
   have e2:ixl r (a*PR r+q)=s:=by
    rw[← jhl r hpos,jic,Nat.mul_add_mod,jhl r hpos]
    exact i3
   simp only[ixl,e1,e2,jid han]
theorem flat_slot {ns:List Nat}{f:Nat→List Int}{n w:Nat}(hf:∀ j,j<n→(f j).length=w):∀ m,m<n→slot (flat ns f n) ((m*w:Nat):Int) w=f m:=by
 have key:∀ t,t≤n→(flat ns f t).length=t*w:=by
  intro t
  induction t with
  | zero=>intro _;simp[flat]
  | succ t ih=>intro ht;rw[jaX,jiE,ih (by omega),hf t (by omega),Nat.add_mul,Nat.one_mul]
 induction n with
 | zero=>intro m hm;omega
 | succ n ih=>
  intro m hm
  rw[jaX]
  have kn:=key n (by omega)
  unfold slot
  rw[jh9,jh9]
  by_cases hmn:m=n
  ·subst hmn
   rw[jiM (by omega),jiP (by omega),List.nil_append]
   exact jiO (by rw[hf m (by omega)];exact jia _)
  ·have ih:=ih (fun j hj=>hf j (by omega)) (fun t ht=>key t (by omega)) m (by omega)
   unfold slot at ih
   rw[jh9,jh9] at ih
   have h5:(m+1)*w≤n*w:=Nat.mul_le_mul_right _ (by omega)
   rw[Nat.add_mul,Nat.one_mul] at h5
   rw[jiM (by omega),jiL (by rw[jiU];omega)]
   exact ih
theorem flat_self {ns:List Nat}{data:List Int}{n w:Nat}(h:data.length=n*w){f:Nat→List Int}(hf:∀ m,m<n→f m=slot data ((m*w:Nat):Int) w):flat ns f n=data:=by
 have key:∀ t,t≤n→flat ns f t=data.take (t*w):=by
  intro t
  induction t with
  | zero=>intro _;simp[flat]
  | succ t ih=>intro ht;rw[jaX,ih (by omega),hf t (by omega),take_slot]
 rw[key n (jia _),← h,jiX]
theorem flat_leng {ns:List Nat}{f:Nat→List Int}{n w:Nat}(hf:∀ j,j<n→(f j).length=w):(flat ns f n).length=n*w:=by
 induction n with
 | zero=>simp[flat]
 | succ n ih=>rw[jaX,jiE,ih (fun j hj=>hf j (by omega)),hf n (by omega),Nat.add_mul,Nat.one_mul]
theorem slot_mem {data:List Int}{p w:Int}{x:Int}(h:x∈slot data p w):x∈data:=jiJ (jiK h)
structure Ord (lt:Int→Int→Bool):Prop where
 irr:∀ a,lt a a=false
 tr:∀ a b c,lt b a=false→lt c b=false→lt c a=false
 anti:∀ a b,lt a b=false→lt b a=false→a=b
 asym:∀ a b,lt a b=true→lt b a=false
theorem ord_lt:Ord fun a b=>decide (a<b):=⟨fun a=>by simp,fun a b c h1 h2=>by simp at *; omega,fun a b h1 h2=>by simp at *; omega,fun a b h=>by simp at *; omega⟩
theorem ord_gt:Ord fun a b=>decide (a>b):=⟨fun a=>by simp,fun a b c h1 h2=>by simp at *; omega,fun a b h1 h2=>by simp at *; omega,fun a b h=>by simp at *; omega⟩
def col (data:List Int)(w m k:Nat):Int:=(slot data ((m*w:Nat):Int) w).getD k 0
theorem updGet {lt:Int→Int→Bool}{o v:List Int}{k:Nat}(h1:k<o.length)(h2:k<v.length):(upd lt o v).getD k 0=if lt (v.getD k 0) (o.getD k 0) then v.getD k 0 else o.getD k 0:=by
 unfold upd
 simp[jiz,List.getElem?_zipWith,h1,h2]
theorem jec {lt:Int→Int→Bool}(O:Ord lt){data:List Int}{w n:Nat}(h:data.length=n*w){k:Nat}(hk:k<w):∀ m,m≤n→0<n →
  (∀ j,j<m→lt (col data w j k) ((mst lt data w m).getD k 0)=false) ∧ ∃ j,j<max m 1∧(mst lt data w m).getD k 0=col data w j k:=by
 intro m
 induction m with
 | zero=>intro _ _;exact⟨fun j hj=>by omega,0,by omega,by simp[mst,col]⟩
 | succ m ih=>
  intro hm hn
  obtain⟨h1,j,hj,h2⟩:=ih (by omega) hn
  have hl1:=jbJ (lt:=lt) h (by omega:m≤n) hn
  have hl2:=jfc h (by omega:m<n)
  have hu:=updGet (lt:=lt) (o:=mst lt data w m) (v:=slot data ((m*w:Nat):Int) w) (k:=k) (by omega) (by omega)
  have hc:(slot data ((m*w:Nat):Int) w).getD k 0=col data w m k:=rfl
  rw[hc] at hu
  simp only[mst]
  rw[hu]
  cases hb:lt (col data w m k) ((mst lt data w m).getD k 0) with
  | true=>
   rw[if_pos rfl]
   refine⟨fun i hi=>?_,m,by omega,rfl⟩
   by_cases him:i=m
   ·subst him;exact O.irr _
   ·have h3:=h1 i (by omega)
    cases hc2:lt (col data w i k) (col data w m k) with
    | false=>rfl
    | true=>
     have h4:=O.asym _ _ hb
     rw[O.tr _ _ _ h4 h3] at hc2
     cases hc2
  | false=>
   rw[if_neg (by simp)]
   refine⟨fun i hi=>?_,j,by omega,h2⟩
   by_cases him:i=m
   ·subst him;exact hb
   ·exact h1 i (by omega)
theorem mst_same {lt:Int→Int→Bool}(O:Ord lt){d1 d2:List Int}{w1 w2 n1 n2 k1 k2:Nat}(h1:d1.length=n1*w1)(h2:d2.length=n2*w2)(hk1:k1<w1)(hk2:k2<w2)(hn1:0<n1)(hn2:0<n2)
  (f:∀ j,j<n1 → ∃ i,i<n2∧col d1 w1 j k1=col d2 w2 i k2) (g:∀ j,j<n2 → ∃ i,i<n1∧col d2 w2 j k2=col d1 w1 i k1):(mst lt d1 w1 n1).getD k1 0=(mst lt d2 w2 n2).getD k2 0:=by
 obtain⟨a1,j1,b1,c1⟩:=jec O h1 hk1 n1 (jia _) hn1
 obtain⟨a2,j2,b2,c2⟩:=jec O h2 hk2 n2 (jia _) hn2
 obtain⟨i1,e1,f1⟩:=f j1 (by omega)
 obtain⟨i2,e2,f2⟩:=g j2 (by omega)
 refine O.anti _ _ ?_ ?_
 ·rw[c1,f1];exact a2 i1 e1
 ·rw[c2,f2];exact a1 i2 e2
theorem jfH {l:List Nat}{a b:Nat}(ha:a<l.length)(hb:b<l.length):swn (swn l a b) a b=l:=by
 have h:=swp_swp (l:=nz l) (a:=a) (b:=b) (by simpa [nz] using ha) (by simpa [nz] using hb)
 have e1:swp (nz l) a b=nz (swn l a b):=jdF ha hb
 have e2:swp (nz (swn l a b)) a b=nz (swn (swn l a b) a b):=jdF (by rw[ja0];exact ha) (by rw[ja0];exact hb)
 rw[e1,e2] at h
 unfold nz at h
 exact(List.map_inj_right (fun x y e=>by omega)).1 h
theorem sg_ok {ns:List Nat}{a b:Nat}(hp:∀ n∈ns,0<n)(ha:a<ns.length)(hb:b<ns.length)(m:Nat):okIdx (nz ns) (swp (ixl (swn ns a b) m) a b)=true:=by
 have hl:=jao (swn ns a b) m
 have hl2:=ja0 ns a b
 have hz:(nz ns).length=ns.length:=by simp[nz]
 have hp':∀ n∈swn ns a b,0<n:=fun n hn=>hp n (jf0 ha hb hn)
 refine jaV.2 ⟨by rw[jbp];omega,swp_bd (by omega) (by omega) (by omega) fun k n x h1 h2=>?_⟩
 have e1:swp (nz ns) a b=nz (swn ns a b):=jdF ha hb
 rw[e1] at h1
 simp only[nz,List.getElem?_map,Option.map_eq_some_iff] at h1
 obtain⟨n',h3,rfl⟩:=h1
 exact jcV hp' h3 h2
def sg (ns:List Nat)(a b m:Nat):Nat:=(pz ((nz ns).zip (swp (ixl (swn ns a b) m) a b))).toNat
theorem jcu {ns:List Nat}{a b:Nat}(hp:∀ n∈ns,0<n)(ha:a<ns.length)(hb:b<ns.length)(m:Nat) :
  sg ns a b m<PR ns∧ixl ns (sg ns a b m)=swp (ixl (swn ns a b) m) a b∧pz ((nz ns).zip (swp (ixl (swn ns a b) m) a b))=(sg ns a b m:Nat):=by
 have h:=ixl_pz ns _ (sg_ok hp ha hb m)
 unfold sg
 exact⟨by omega,h.2,by omega⟩
theorem sg_sg {ns:List Nat}{a b:Nat}(hp:∀ n∈ns,0<n)(ha:a<ns.length)(hb:b<ns.length)(m:Nat)(hm:m<PR ns):sg ns a b (sg (swn ns a b) a b m)=m:=by
 have hp':∀ n∈swn ns a b,0<n:=fun n hn=>hp n (jf0 ha hb hn)
 have hl2:=ja0 ns a b
 have h1:=jcu hp' (by omega:a<(swn ns a b).length) (by omega:b<(swn ns a b).length) m
 have h2:=jcu hp ha hb (sg (swn ns a b) a b m)
 rw[h1.2.1,jfH ha hb,swp_swp (by rw[jao];exact ha) (by rw[jao];exact hb),pz_ixl hp hm] at h2
 omega
theorem jep {ns:List Nat}{w:Nat}{data:List Int}{a b:Nat}(hp:∀ n∈ns,0<n)(ha:a<ns.length)(hb:b<ns.length) :
  swp (nz ns) a b=nz (swn ns a b)∧jah (nz ns) w data a b=flat (swn ns a b) (fun m=>slot data ((sg ns a b m*w:Nat):Int) w) (PR (swn ns a b)):=by
 have e1:swp (nz ns) a b=nz (swn ns a b):=jdF ha hb
 have e2:(nz (swn ns a b)).map Int.toNat=swn ns a b:=by unfold nz;rw[List.map_map];exact List.map_id' _
 refine⟨e1,?_⟩
 unfold jah
 rw[e1,e2]
 congr 1
 funext m
 rw[(jcu hp ha hb m).2.2,jii]
theorem jeq {ns:List Nat}{w:Nat}{data:List Int}{a b:Nat}(ha:a<ns.length)(hb:b<ns.length):jah (nz ns) w data b a=jah (nz ns) w data a b∧swp (nz ns) b a=swp (nz ns) a b:=by
 have hz:(nz ns).length=ns.length:=by simp[nz]
 have e0:swp (nz ns) b a=swp (nz ns) a b:=swp_comm (by omega) (by omega)
 refine⟨?_,e0⟩
 unfold jah
 rw[e0]
 congr 1
 funext m
 have e1:swp (nz ns) a b=nz (swn ns a b):=jdF ha hb
 have e2:(nz (swn ns a b)).map Int.toNat=swn ns a b:=by unfold nz;rw[List.map_map];exact List.map_id' _
 rw[e1,e2,swp_comm (by rw[jao,ja0];exact hb) (by rw[jao,ja0];exact ha)]
theorem jaK {ns:List Nat}{w:Nat}{data:List Int}{a b:Nat}(hg:jak (nz ns) w data=true)(hp:∀ n∈ns,2≤n∧n≤9)(ha:a<ns.length)(hb:b<ns.length) :
  jak (nz (swn ns a b)) w (jah (nz ns) w data a b)=true∧jah (nz (swn ns a b)) w (jah (nz ns) w data a b) b a=data∧swp (nz (swn ns a b)) b a=nz ns ∧
  (∀ m,m<PR ns→okIdx (nz (swn ns a b)) (swp (ixl ns m) a b)=true∧slot (jah (nz ns) w data a b) (pz ((nz (swn ns a b)).zip (swp (ixl ns m) a b))*w) w=slot data ((m*w:Nat):Int) w) ∧
  ∀ lt,Ord lt→rl lt (jah (nz ns) w data a b) w (jah (nz ns) w data a b).length=rl lt data w data.length:=by
 have hG:=ja2 hg
 have hz:(nz ns).length=ns.length:=by simp[nz]
 have hz2:(nz (swn ns a b)).length=ns.length:=by simp[nz,ja0]
 have hpos:∀ n∈ns,0<n:=fun n hn=>by have:=hp n hn;omega
 have hp':∀ n∈swn ns a b,2≤n∧n≤9:=fun n hn=>hp n (jf0 ha hb hn)
 have hpos':∀ n∈swn ns a b,0<n:=fun n hn=>by have:=hp' n hn;omega
 have hl':=ja0 ns a b
 have ha':a<(swn ns a b).length:=by omega
 have hb':b<(swn ns a b).length:=by omega
 have hPR:=PR_swn ha hb
 have hPR0:=jdC hpos
 have hdl:data.length=PR ns*w:=by
  have:=hG.2.2.2.2.2.2.1
  rw[jc0,← jii] at this
  omega
 have hsl:∀ m,(slot data ((sg ns a b m*w:Nat):Int) w).length=w:=fun m=>jfc hdl (jcu hpos ha hb m).1
 obtain⟨e1,e2⟩:=jep (w:=w) (data:=data) hpos ha hb
 have hdl':(jah (nz ns) w data a b).length=PR (swn ns a b)*w:=by rw[e2];exact flat_leng fun j _=>hsl j
 have hst:∀ m,m<PR ns→slot (jah (nz ns) w data a b) ((m*w:Nat):Int) w=slot data ((sg ns a b m*w:Nat):Int) w:=fun m hm=>by
  rw[e2];exact flat_slot (fun j _=>hsl j) m (by omega)
 have hok:jak (nz (swn ns a b)) w (jah (nz ns) w data a b)=true:=by
  unfold jak
  have g1:(nz (swn ns a b)).all (fun n=>decide (2≤n∧n≤9))=true:=by
   rw[jiy]
   intro x hx
   obtain⟨n,hn,rfl⟩:=List.mem_map.1 hx
   have:=hp' n hn
   simp;omega
  have g2:(jah (nz ns) w data a b).all (fun v=>decide (0≤v∧v≤65535))=true:=by
   rw[jiy]
   intro x hx
   have hx2:x∈data:=by
    rw[e2] at hx
    obtain⟨j,_,hj⟩:=mem_flat hx
    exact slot_mem hj
   exact jiy.1 hG.2.2.2.2.2.2.2 x hx2
  rw[g1,g2,jc0,hPR,hdl',hPR]
  simp only[Bool.and_true,jh2,decide_eq_true_eq]
  exact⟨⟨by omega,by omega⟩,by omega,by simp⟩
 have hsg:=fun m hm=>sg_sg hpos ha hb m hm
 have hback:∀ m,m<PR ns→slot (jah (nz ns) w data a b) ((sg (swn ns a b) a b m*w:Nat):Int) w=slot data ((m*w:Nat):Int) w:=fun m hm=>by
  have hs:=jcu hpos' ha' hb' m
  rw[hst _ (by omega),hsg m hm]
 refine⟨hok,?_,?_,fun m hm=>?_,fun lt O=>?_⟩
 ·rw[(jeq ha' hb').1,(jep hpos' ha' hb').2,jfH ha hb]
  exact flat_self hdl hback
 ·rw[(jeq (w:=w) (data:=data) ha' hb').2,(jep (w:=w) (data:=data) hpos' ha' hb').1,jfH ha hb]
 ·have hs:=jcu hpos' ha' hb' m
  have ho:=sg_ok hpos' ha' hb' m
  rw[jfH ha hb] at hs ho
  refine⟨ho,?_⟩
  rw[hs.2.2,← jii]
  exact hback m hm
 ·have hw:0<w:=by omega
  rw[hdl',hdl,hPR,jff (n:=PR ns) (by rw[hdl',hPR]) hw _ (jia _),jff hdl hw _ (jia _)]
  have hm1:=jbJ (lt:=lt) (m:=PR ns) (by rw[hdl',hPR]:(jah (nz ns) w data a b).length=PR ns*w) (jia _) hPR0
  have hm2:=jbJ (lt:=lt) hdl (jia _) hPR0
  refine List.ext_getElem (by omega) fun k h1 h2=>?_
  have key:=mst_same O (d1:=jah (nz ns) w data a b) (d2:=data) (w1:=w) (w2:=w) (n1:=PR ns) (n2:=PR ns) (k1:=k) (k2:=k) (by rw[hdl',hPR]) hdl (by omega) (by omega) hPR0 hPR0
   (fun j hj=>⟨sg ns a b j,(jcu hpos ha hb j).1,by unfold col;rw[hst j hj]⟩)
   (fun j hj=>⟨sg (swn ns a b) a b j,by have:=(jcu hpos' ha' hb' j).1;omega,by unfold col;rw[hback j hj]⟩)
  rw[jiz,jiz,jiC h1,jiC h2] at key
  simpa using key
end Go.Proofs.YtgjgpdceghjajaaGreatDoor
end
section
namespace Go.Proofs.YtgjgpdceghjajaaGreatDoor
open Go Go.V Go.Gr Go.Nb
theorem nz_ofz {zs:List Int}(h:∀ z∈zs,0≤z):nz (zs.map Int.toNat)=zs:=by
 unfold nz
 rw[List.map_map]
 conv=>rhs;rw[← List.map_id zs]
 exact List.map_congr_left fun z hz=>jh8 (h z hz)
def loL (out:Int)(data:List Int):List Int:=rl (fun a b=>decide (a<b)) data out.toNat data.length
def hiL (out:Int)(data:List Int):List Int:=rl (fun a b=>decide (a>b)) data out.toNat data.length
theorem rng_ok {zs:List Int}{out:Int}{data:List Int}(hg:jak zs out data=true):data.length=PR (zs.map Int.toNat)*out.toNat∧0<PR (zs.map Int.toNat)∧(loL out data).length=out.toNat∧(hiL out data).length=out.toNat:=by
 have og:=jaI hg
 have e:=nz_ofz (zs:=zs) fun z hz=>by have:=og.2.1 z hz;omega
 have p:=jc0 (zs.map Int.toNat)
 rw[e] at p
 have h1:(data.length:Int)=((PR (zs.map Int.toNat)*out.toNat:Nat):Int):=by
  rw[og.2.2.1.2,p,jii,jh8 (by omega)]
 have h2:data.length=PR (zs.map Int.toNat)*out.toNat:=by exact_mod_cast h1
 have h3:0<PR (zs.map Int.toNat):=by
  have:∀ l:List Int,(∀ z∈l,2≤z∧z≤9)→0<prod l:=fun l hl=>by
   have g:∀ (l:List Int) (a:Int),0<a→(∀ z∈l,2≤z∧z≤9)→0<l.foldl (· * ·) a:=by
    intro l
    induction l with
    | nil=>exact fun a ha _=>ha
    | cons z l ih=>exact fun a ha hz=>ih (a*z) (Int.mul_pos ha (by have:=hz z (List.mem_cons_self ..);omega)) fun y hy=>hz y (List.mem_cons_of_mem _ hy)
   exact g l 1 (by decide) hl
  have:=this zs og.2.1
  omega
 have h4:out.toNat≤data.length:=by
  rw[h2]
  exact Nat.le_mul_of_pos_left _ h3
 exact⟨h2,h3,jet h4 _,jet h4 _⟩
theorem col_bd {data:List Int}(h:∀ v∈data,0≤v∧v≤65535)(w m k:Nat):0≤col data w m k∧col data w m k≤65535:=jcs h _ _ _
theorem jgn {zs:List Int}{out:Int}{data:List Int}(hg:jak zs out data=true){j:Nat}(hj:j<out.toNat) :
  (0≤(loL out data).getD j 0∧(loL out data).getD j 0≤65535)∧(0≤(hiL out data).getD j 0∧(hiL out data).getD j 0≤65535) ∧
  ∀ xs,okIdx zs xs=true→(loL out data).getD j 0≤(slot data (pz (zs.zip xs)*out) out).getD j 0∧(slot data (pz (zs.zip xs)*out) out).getD j 0≤(hiL out data).getD j 0:=by
 have og:=jaI hg
 have r:=rng_ok hg
 have s1:=jec ord_lt r.1 hj (PR (zs.map Int.toNat)) (jia _) r.2.1
 have s2:=jec ord_gt r.1 hj (PR (zs.map Int.toNat)) (jia _) r.2.1
 have e1:=jff (lt:=fun a b=>decide (a<b)) r.1 (by omega) (PR (zs.map Int.toNat)) (jia _)
 have e2:=jff (lt:=fun a b=>decide (a>b)) r.1 (by omega) (PR (zs.map Int.toNat)) (jia _)
 rw[← r.1] at e1 e2
 rw[← e1] at s1
 rw[← e2] at s2
 refine⟨?_,?_,fun xs hx=>?_⟩
 ·obtain⟨_,m,_,e⟩:=s1
  show 0≤(rl _ data out.toNat data.length).getD j 0∧(rl _ data out.toNat data.length).getD j 0≤65535
  rw[e]
  exact col_bd og.2.2.2 _ _ _
 ·obtain⟨_,m,_,e⟩:=s2
  show 0≤(rl _ data out.toNat data.length).getD j 0∧(rl _ data out.toNat data.length).getD j 0≤65535
  rw[e]
  exact col_bd og.2.2.2 _ _ _
 ·have e:=nz_ofz (zs:=zs) fun z hz=>by have:=og.2.1 z hz;omega
  have ip:=ixl_pz (zs.map Int.toNat) xs (by rw[e];exact hx)
  rw[e] at ip
  have em:pz (zs.zip xs)*out=(((pz (zs.zip xs)).toNat*out.toNat:Nat):Int):=by
   rw[jii,jh8 ip.1.1,jh8 (by omega)]
  have hm:(pz (zs.zip xs)).toNat<PR (zs.map Int.toNat):=by omega
  have a1:=s1.1 _ hm
  have a2:=s2.1 _ hm
  have ec:(slot data (pz (zs.zip xs)*out) out).getD j 0=col data out.toNat (pz (zs.zip xs)).toNat j:=by
   unfold col
   rw[em,show ((out.toNat:Nat):Int)=out from by omega]
  rw[ec]
  simp only[decide_eq_false_iff_not] at a1 a2
  unfold loL hiL
  omega
theorem range_q {zs:List Int}{out:Int}{data:List Int}(hg:jak zs out data=true)(hl:zs.length≤4):Cl 25 [gridD zs out data] (.tup [.ints .i64 (loL out data),.ints .i64 (hiL out data),.int .i64 0]):=by
 have og:=jaI hg
 have c:=range_c zs out data (by omega) (by omega)
 rw[hg] at c
 exact c
def clI (v:Int):Int:=min (max v 0) 1000000000000
def midB (b:Int×Int):Rat:=Rat.divInt (clI b.1+clI b.2) 2000000000000
def halB (b:Int×Int):Rat:=Rat.divInt (clI b.2-clI b.1) 2000000000000
def bce (B:Nat→Int×Int):Nat→List D
 | 0=>[]
 | k+1=>bce B k++[.int .i64 (B k).1,.int .i64 (B k).2]
def slB (B:Nat→Int×Int)(n:Nat):D:=V.sl2 n (bce B n)
theorem jbZ (v:Int):0≤clI v∧clI v≤1000000000000:=by unfold clI;omega
theorem clI_mono {a b:Int}(h:a≤b):clI a≤clI b:=by unfold clI;omega
theorem clamp_q {b:Int×Int}(h:vb b.1 b.2=true):Cl 57 [.agg [.int .i64 b.1,.int .i64 b.2],.int .i64 0,.int .i64 1000000000000] (.tup [.agg [.int .i64 (clI b.1),.int .i64 (clI b.2)],.int .i64 0]):=by
 have c:=clamp_b b.1 b.2 0 1000000000000
 have v:=jbz.1 h
 have b1:=jbZ b.1
 have b2:=jbZ b.2
 have m:=clI_mono v.2.1
 rw[if_pos h,if_pos (jbz.2 (by omega))] at c
 have e:mk (min (max b.1 0) 1000000000000) (min (max b.2 0) 1000000000000)=(clI b.1,clI b.2,0):=by
  unfold mk
  rw[if_pos (jbz.2 (by unfold clI at *; omega))]
  rfl
 rw[e] at c
 exact c
theorem divQ (a:Int):Rat.divInt a 2000000000000=(a:Rat)/2000000000000:=by
 rw[Rat.divInt_eq_div]
 rfl
theorem divF (a:Int):Rat.divInt a 65535=(a:Rat)/65535:=by
 rw[Rat.divInt_eq_div]
 rfl
theorem fq_mid (b:Int×Int):Fq 14 (midB b):=by
 have b1:=jbZ b.1
 have b2:=jbZ b.2
 exact jaW (n:=14) (d:=2000000000000) (by decide) (by omega) (by decide)
theorem fq_hal (b:Int×Int):Fq 14 (halB b):=by
 have b1:=jbZ b.1
 have b2:=jbZ b.2
 exact jaW (n:=14) (d:=2000000000000) (by decide) (by omega) (by decide)
theorem hal_bd {b:Int×Int}(h:vb b.1 b.2=true):0≤halB b∧halB b≤1:=by
 have b1:=jbZ b.1
 have b2:=jbZ b.2
 have m:=clI_mono (jbz.1 h).2.1
 unfold halB
 rw[divQ]
 have g1:(0:Rat)≤((clI b.2-clI b.1:Int):Rat):=by exact_mod_cast (show (0:Int)≤clI b.2-clI b.1 by omega)
 have g2:((clI b.2-clI b.1:Int):Rat)≤((1000000000000:Int):Rat):=Rat.intCast_le_intCast.2 (by omega)
 rw[show ((1000000000000:Int):Rat)=1000000000000 from rfl] at g2
 constructor<;>grind
theorem fq_full {v:Int}(h:0≤v∧v≤65535):Fq 10 (Rat.divInt v 65535):=jaW (n:=10) (d:=65535) (by decide) (by omega) (by decide)
def sprQ (zs data:List Int)(out:Int)(n:Nat)(X:Nat→Int×Int)(j:Nat):Rat:=smF (fun i=>(((outS zs data out zs.length j).getD i 0:Int):Rat)*halB (X i)) (n-1)/65535
theorem spr_term {st:List Int}{n i:Nat}{b:Int×Int}(hs:rowOk n st)(h:vb b.1 b.2=true):0≤((st.getD i 0:Int):Rat)*halB b∧((st.getD i 0:Int):Rat)*halB b≤600000:=by
 have g:=hal_bd h
 have s:=hs.2 i
 have s0:(0:Rat)≤((st.getD i 0:Int):Rat):=by exact_mod_cast s.1
 have s1:((st.getD i 0:Int):Rat)≤((600000:Int):Rat):=Rat.intCast_le_intCast.2 s.2
 rw[show ((600000:Int):Rat)=600000 from rfl] at s1
 have m1:=Rat.mul_le_mul_of_nonneg_left g.2 s0
 have m0:=Rat.mul_le_mul_of_nonneg_left g.1 s0
 constructor<;>grind
theorem smF_bd {P:Nat→Rat}{n:Nat}(h:∀ i,i≤n→0≤P i∧P i≤600000):∀ k,k≤n→0≤smF P k∧smF P k≤600000*(((k+1:Nat):Int):Rat)
 | 0,hk=>by
  have:=h 0 hk
  simp only[smF]
  rw[show (((0+1:Nat):Int):Rat)=1 from rfl]
  constructor<;>grind
 | k+1,hk=>by
  have a:=smF_bd h k (by omega)
  have b:=h (k+1) hk
  simp only[smF]
  rw[show (((k+1+1:Nat):Int):Rat)=(((k+1:Nat):Int):Rat)+1 by rw[Int.natCast_add,Rat.intCast_add];rfl]
  constructor<;>grind
theorem fq_ev2 {x0 x1:Rat}{z0 z1 out:Int}{data:List Int}(hg:jak [z0,z1] out data=true)(h0:Fq 40 x0)(h1:Fq 40 x1)(j:Nat):Fq 376 (evQ [z0,z1] out data x0 x1 0 j):=by
 have og:=jaI hg
 have s0:=og.2.1 z0 (by simp)
 have f0:=jbX h0 (by decide) s0
 have s1:=og.2.1 z1 (by simp)
 have f1:=jbX h1 (by decide) s1
 have fr:∀ k,Fq 43 (rqN (spR z0 x0) (spR z1 x1) 0 k):=fq_rq f0 f1 jc5
 rw[ev2_sm s0.1 s1.1]
 have fm:∀ k,Fq 92 ((fun k=>wqN (rqN (spR z0 x0) (spR z1 x1) 0) (ord2 (spR z0 x0) (spR z1 x1)) 2 k*(((slot data (pz ([z0,z1].zip ((atK [spB z0 x0,spB z1 x1,0,0] (ord2 (spR z0 x0) (spR z1 x1)) k).take 2))*out) out).getD j 0:Int):Rat)) k):=fun k=>(fq_wq fr _ 2 k).mul (jaP (n:=5) (by have:=jcs og.2.2.2 (pz ([z0,z1].zip ((atK [spB z0 x0,spB z1 x1,0,0] (ord2 (spR z0 x0) (spR z1 x1)) k).take 2))*out) out j;omega) (by omega))
 have s:=fq_sm fm 2
 have q:=s.div (jaP (n:=5) (z:=65535) jbk (by decide)) jcO
 rw[show ((65535:Int):Rat)=65535 from rfl] at q
 exact q.mono (by decide)
theorem ev_in2 {x0 x1:Rat}{z0 z1 out:Int}{data:List Int}(hg:jak [z0,z1] out data=true){j:Nat}(hj:j<out.toNat):Rat.divInt ((loL out data).getD j 0) 65535≤evQ [z0,z1] out data x0 x1 0 j∧evQ [z0,z1] out data x0 x1 0 j≤Rat.divInt ((hiL out data).getD j 0) 65535:=by
 have og:=jaI hg
 have rb:=jgn hg hj
 have s0:=og.2.1 z0 (by simp)
 have s1:=og.2.1 z1 (by simp)
 have b:=ev_bd (s0:=z0) (s1:=z1) (s2:=2) (v:=gvF [z0,z1] out data j) (m:=(((loL out data).getD j 0:Int):Rat)) (M:=(((hiL out data).getD j 0:Int):Rat)) (by omega) (fun i k l hi hk hl=>by
  have g:=rb.2.2 [i,k] (by simp[okIdx];omega)
  exact⟨Rat.intCast_le_intCast.2 g.1,Rat.intCast_le_intCast.2 g.2⟩) x0 x1 0
 rw[divF,divF]
 show _≤evF z0 z1 2 (gvF [z0,z1] out data j) x0 x1 0/65535∧evF z0 z1 2 (gvF [z0,z1] out data j) x0 x1 0/65535≤_
 constructor<;>grind
end Go.Proofs.YtgjgpdceghjajaaGreatDoor
end
section
namespace Go.Proofs.YtgjgpdceghjajaaGreatDoor
open Go Go.V Go.Nb Go.Gr
theorem jdn {s0 s1 s2:Nat}{i j k:Int}(h0:0≤i∧i≤(s0:Int)-1)(h1:0≤j∧j≤(s1:Int)-1)(h2:0≤k∧k≤(s2:Int)-1):okIdx (nz [s0,s1,s2]) [i,j,k]=true:=by
 simp only[okIdx,nz,List.map_cons,List.map_nil,List.zip_cons_cons,List.zip_nil_right,List.all_cons,List.all_nil,Bool.and_true,jh2,decide_eq_true_eq]
 exact⟨rfl,h0,h1,h2⟩
theorem nearU_bd {x:Rat}(h0:0≤x)(h1:x≤1):0≤nearZ x 65535∧nearZ x 65535≤65535:=by
 have hd:(0:Int)<x.den:=by have:=x.den_pos;omega
 have hn:0≤x.num:=Rat.num_nonneg.2 h0
 have hn1:x.num≤x.den:=by
  have:=Rat.le_iff (a:=x) (b:=1) |>.1 h1
  simpa using this
 unfold nearZ
 have e1:((65535*2:Nat):Int)=131070:=rfl
 have e2:((x.den*2:Nat):Int)=2*(x.den:Int):=by push_cast;omega
 rw[e1,e2]
 refine⟨Int.ediv_nonneg (by omega) (by omega),?_⟩
 have:(x.num*131070+x.den)/(2*(x.den:Int))<65536:=Int.ediv_lt_of_lt_mul (by omega) (by omega)
 omega
theorem near_q {n:Nat}{x:Rat}(h:Fq n x)(h0:0<n∧n≤600)(hb:0≤x∧x≤1):Cl 68 [frT x,.int .i64 65535] (.tup [.int .i64 (nearZ x 65535),.int .i64 0]):=by
 have o:=jbc (h.ok h0.1 h0.2)
 have b:=nearU_bd hb.1 hb.2
 have c:=near_f (decZ x.num) (dec x.den) 65535 o.1 (by omega) (by omega) (by rw[o.2];omega)
 rw[o.2] at c
 exact c
def xR (ts:List Nat)(m i:Nat):Rat:=Rat.divInt ((pad4 (ixl ts m)).getD i 0) ((nz ts).getD i 0-1)
def rfW (zs:List Int)(out:Int)(data:List Int)(ts:List Nat)(m j:Nat):Int:=nearZ (evQ zs out data (xR ts m 0) (xR ts m 1) (xR ts m 2) j) 65535
def rfD (zs:List Int)(out:Int)(data:List Int)(ts:List Nat):List Int:=flat ts (fun m=>(List.range out.toNat).map (rfW zs out data ts m)) (PR ts)
theorem jex (l:List Int)(i:Nat):(pad4 l).getD i 0=l.getD i 0:=by
 unfold pad4
 rw[jiz,jiz]
 rcases jig i l.length with h|h
 ·rw[jiH h]
 ·rw[List.getElem?_append_right h,List.getElem?_eq_none h]
  cases e:(List.replicate (4-l.length) (0:Int))[i-l.length]? with
  | none=>rfl
  | some v=>have:=jiD e;rw[List.mem_replicate] at this;rw[this.2];rfl
theorem xR_off {ts:List Nat}{m i:Nat}(h:ts.length≤i):xR ts m i=0:=by
 unfold xR
 rw[jex,jiz,List.getElem?_eq_none (by rw[jao];exact h)]
 simp
theorem xR_at {ts:List Nat}{m i n:Nat}(h2:∀ n∈ts,2≤n∧n≤9)(h:ts[i]? = some n):∃ a:Int,(pad4 (ixl ts m)).getD i 0=a∧(ixl ts m).getD i 0=a∧(0≤a∧a≤(n:Int)-1)∧(nz ts).getD i 0=n∧xR ts m i=Rat.divInt a ((n:Int)-1):=by
 have e:=jf3 ts m i n h
 have b:=jcV (m:=m) (fun n hn=>by have:=h2 n hn;omega) h e
 have en:(nz ts).getD i 0=n:=by simp[nz,jiz,h]
 have e1:(ixl ts m).getD i 0=((m/PR (ts.drop (i+1))%n:Nat):Int):=by rw[jiz,e];rfl
 exact⟨_,by rw[jex,e1],e1,b,en,by unfold xR;rw[jex,e1,en]⟩
theorem xR_fq {ts:List Nat}(h2:∀ n∈ts,2≤n∧n≤9)(m i:Nat):Fq 40 (xR ts m i):=by
 rcases jig i ts.length with h|h
 ·have hn:=jiC h
  have hb:=h2 _ (List.getElem_mem h)
  obtain⟨a,_,_,ha,_,e⟩:=xR_at (m:=m) h2 hn
  rw[e]
  generalize ts[i]=n at *
  obtain⟨d,hd⟩:∃ d:Nat,(n:Int)-1=(d:Int):=⟨n-1,by omega⟩
  rw[hd]
  refine jaW (by omega) ?_ ?_
  ·exact Nat.lt_of_le_of_lt (show a.natAbs≤9 by omega) (by decide)
  ·exact Nat.lt_of_le_of_lt (show d≤9 by omega) (by decide)
 ·rw[xR_off h];exact⟨by decide,by decide⟩
theorem ev_unit2 {z0 z1 out:Int}{data:List Int}(hg:jak [z0,z1] out data=true)(x0 x1:Rat){j:Nat}(hj:j<out.toNat):0≤evQ [z0,z1] out data x0 x1 0 j∧evQ [z0,z1] out data x0 x1 0 j≤1:=by
 obtain⟨b1,b2⟩:=ev_in2 (x0:=x0) (x1:=x1) hg hj
 obtain⟨r1,r2,_⟩:=jgn hg hj
 rw[divF] at b1
 generalize (loL out data).getD j 0=a at *
 generalize (hiL out data).getD j 0=b at *
 have a0:(0:Rat)≤(a:Rat):=Rat.intCast_le_intCast.2 r1.1
 have b0:(b:Rat)≤65535:=by
  have:=Rat.intCast_le_intCast.2 r2.2
  rwa [show ((65535:Int):Rat)=65535 from by decide +kernel] at this
 rw[divF] at b2
 constructor<;>grind
theorem rfW2 {z0 z1 out:Int}{data:List Int}{ts:List Nat}(ht:ts.length=2)(m j:Nat):rfW [z0,z1] out data ts m j=nearZ (evQ [z0,z1] out data (xR ts m 0) (xR ts m 1) 0 j) 65535:=by
 unfold rfW
 rw[xR_off (i:=2) (by omega)]
theorem refq2 {z0 z1 out:Int}{data:List Int}(hg:jak [z0,z1] out data=true)(ts:List Nat)(ht:ts.length=2)(h2:∀ n∈ts,2≤n∧n≤9)(hc:cnP out ts 2≤4096):Cl 33 [gridD [z0,z1] out data,.ints .i64 (nz ts)] (.tup [gridD (nz ts) out (rfD [z0,z1] out data ts),.int .i64 0]):=by
 have ho:=(jaI hg).1
 have hl:=(jaI hg).2.2.1.1
 have fx:=fun m i=>xR_fq h2 m i
 have ck:=Called.cast (jdR [z0,z1] out data (by simp) (by omega)) (by rw[hg];first|done|rfl)
 refine refine2_t [z0,z1] data out ts (fun m i=>txq (xR ts m i)) (fun m j=>txq (evQ [z0,z1] out data (xR ts m 0) (xR ts m 1) 0 j)) (rfW [z0,z1] out data ts) rfl ht h2 ho hc ck (fun m i hm hi=>?_) (fun m hm=>evalq2 hg (fx m 0) (fx m 1)) (fun m j hm hj=>?_)
 ·obtain⟨n,hn⟩:∃ n,ts[i]? = some n:=⟨ts[i],jiC (by omega)⟩
  obtain⟨a,e1,e2,ha,e3,e4⟩:=xR_at (m:=m) h2 hn
  have hb:=h2 n (jiD hn)
  have c:=jfj (n:=a) (m:=(n:Int)-1) (by omega) (by omega)
  rw[e1,e3]
  rw[← e4] at c
  exact c
 ·rw[rfW2 ht]
  exact near_q (fq_ev2 hg (fx m 0) (fx m 1) j) (by decide) (ev_unit2 hg (xR ts m 0) (xR ts m 1) hj)
theorem bandq2_1 {z0 z1 out:Int}(ho:out=1){data:List Int}(hg:jak [z0,z1] out data=true)(X:Nat→Int×Int)(hX:∀ i,i<2→vb (X i).1 (X i).2=true) :
  Cl 29 [gridD [z0,z1] out data,slB X 2] (.tup [slB (fun j=>confB (evQ [z0,z1] out data (midB (X 0)) (midB (X 1)) 0 j) (sprQ [z0,z1] data out 2 X j) (Rat.divInt ((loL out data).getD j 0) 65535) (Rat.divInt ((hiL out data).getD j 0) 65535)) out.toNat,.int .i64 0]):=by
 have og:=jaI hg
 have so:=jg5 (out:=out) og.2.2.2 og.2.1 2 (jia _)
 have rl:=rng_ok hg
 have li:=blist2a (F:=56) (fun i=>(clI (X i).1,clI (X i).2)) (bands1_20 X (clI (X 0).1,clI (X 0).2) (clamp_q (hX 0 (by decide)))) (bands1_21 X (clI (X 1).1,clI (X 1).2) (clamp_q (hX 1 (by decide))))
 have fm0:=(fq_mid (X 0)).mono (show 14≤40 by decide)
 have fm1:=(fq_mid (X 1)).mono (show 14≤40 by decide)
 have om:∀ i,i<2→Cl 58 [.int .i64 (clI (X i).1+clI (X i).2),.int .i64 2000000000000] (frT (midB (X i))):=fun i _=>jfj (by have:=jbZ (X i).1;have:=jbZ (X i).2;omega) (by decide)
 have oh:∀ i,i<2→Cl 58 [.int .i64 (clI (X i).2-clI (X i).1),.int .i64 2000000000000] (frT (halB (X i))):=fun i _=>jfj (by have:=jbZ (X i).1;have:=jbZ (X i).2;omega) (by decide)
 have ev:=evalq2 hg fm0 fm1
 have b2:∀ j,j<out.toNat→Cl 61 [frT (evQ [z0,z1] out data (midB (X 0)) (midB (X 1)) 0 j),frT (sprQ [z0,z1] data out 2 X j),frT (Rat.divInt ((loL out data).getD j 0) 65535),frT (Rat.divInt ((hiL out data).getD j 0) 65535)] (.tup [.agg [.int .i64 ((fun j=>confB (evQ [z0,z1] out data (midB (X 0)) (midB (X 1)) 0 j) (sprQ [z0,z1] data out 2 X j) (Rat.divInt ((loL out data).getD j 0) 65535) (Rat.divInt ((hiL out data).getD j 0) 65535)) j).1,.int .i64 ((fun j=>confB (evQ [z0,z1] out data (midB (X 0)) (midB (X 1)) 0 j) (sprQ [z0,z1] data out 2 X j) (Rat.divInt ((loL out data).getD j 0) 65535) (Rat.divInt ((hiL out data).getD j 0) 65535)) j).2],.int .i64 0]):=fun j hj=>by
  have rb:=jgn hg hj
  have ei:=ev_in2 (x0:=midB (X 0)) (x1:=midB (X 1)) hg hj
  have sp:=spr_q2 (so j) (H:=fun i=>halB (X i)) (fun i _=>fq_hal (X i))
  have sb:=smF_bd (P:=fun i=>(((outS [z0,z1] data out [z0,z1].length j).getD i 0:Int):Rat)*halB (X i)) (n:=1) (fun i hi=>spr_term (so j) (hX i (by omega))) 1 (jia _)
  have n3:(((1+1:Nat):Int):Rat)≤3:=by decide +kernel
  refine conf_q (fq_ev2 hg fm0 fm1 j) sp.2 (fq_full rb.1) (fq_full rb.2.1) ?_ ⟨?_,ei.1⟩ ⟨ei.2,?_⟩
  ·show 0≤smF _ _/65535∧smF _ _/65535≤50000
   constructor<;>grind
  ·rw[divF]
   have:(0:Rat)≤(((loL out data).getD j 0:Int):Rat):=by exact_mod_cast rb.1.1
   grind
  ·rw[divF]
   have:(((hiL out data).getD j 0:Int):Rat)≤((65535:Int):Rat):=Rat.intCast_le_intCast.2 rb.2.1.2
   rw[show ((65535:Int):Rat)=65535 from rfl] at this
   grind
 have o1:∀ j,j<out.toNat→Cl 58 [.int .i64 ((loL out data).getD j 0),.int .i64 65535] (frT (Rat.divInt ((loL out data).getD j 0) 65535)):=fun j hj=>jfj (by have:=jgn hg hj;omega) (by decide)
 have o2:∀ j,j<out.toNat→Cl 58 [.int .i64 ((hiL out data).getD j 0),.int .i64 65535] (frT (Rat.divInt ((hiL out data).getD j 0) 65535)):=fun j hj=>jfj (by have:=jgn hg hj;omega) (by decide)
 have sp:∀ j,Cl 60 [.ints .i64 (outS [z0,z1] data out [z0,z1].length j),slQ (fun i=>txq (halB (X i))) 2] (.tup [frT (sprQ [z0,z1] data out 2 X j),.int .i64 0]):=fun j=>(spr_q2 (so j) (H:=fun i=>halB (X i)) (fun i _=>fq_hal (X i))).1
 subst ho
 exact bands2_t [z0,z1] data _ _ 1 X (fun i=>(clI (X i).1,clI (X i).2)) (fun i=>txq (midB (X i))) (fun i=>txq (halB (X i))) _ _ _ _ _ _ rfl (fun i _=>⟨jbZ _,jbZ _⟩) (range_q hg (by simp)) li om oh ev (steep1_t [z0,z1] data (outS [z0,z1] data 1 [z0,z1].length) hg (by simp) rfl) (blist1c (F:=59) (fun j=>confB (evQ [z0,z1] 1 data (midB (X 0)) (midB (X 1)) 0 j) (sprQ [z0,z1] data 1 2 X j) (Rat.divInt ((loL 1 data).getD j 0) 65535) (Rat.divInt ((hiL 1 data).getD j 0) 65535)) (bands2_210 (outS [z0,z1] data 1 [z0,z1].length) (fun i=>txq (halB (X i))) (fun j=>txq (evQ [z0,z1] 1 data (midB (X 0)) (midB (X 1)) 0 j)) _ _ _ _ _ _ _ _ ((fun j=>confB (evQ [z0,z1] 1 data (midB (X 0)) (midB (X 1)) 0 j) (sprQ [z0,z1] data 1 2 X j) (Rat.divInt ((loL 1 data).getD j 0) 65535) (Rat.divInt ((hiL 1 data).getD j 0) 65535)) 0) rl.2.2.1 rl.2.2.2 (sp 0) (o1 0 (by decide)) (o2 0 (by decide)) (b2 0 (by decide))))
def wkQ:Nat→Rat
 | 0=>Rat.divInt 1 2
 | 1=>Rat.divInt 1 4
 | 2=>Rat.divInt 7 20
 | 3=>Rat.divInt 3 10
 | 4=>Rat.divInt 1 1
 | _=>Rat.divInt 2 1
theorem jdS:∀ k,Fq 40 (wkQ k)
 | 0=>⟨by decide +kernel,by decide +kernel⟩
 | 1=>⟨by decide +kernel,by decide +kernel⟩
 | 2=>⟨by decide +kernel,by decide +kernel⟩
 | 3=>⟨by decide +kernel,by decide +kernel⟩
 | 4=>⟨by decide +kernel,by decide +kernel⟩
 | _+5=>by
  show Fq 40 (Rat.divInt 2 1)
  exact⟨by decide +kernel,by decide +kernel⟩
theorem jdO:jak [2,2] 1 [0,13107,26214,65535]=true:=by decide +kernel
theorem wk_ev {x0 x1 y:Rat}(h0:Fq 40 x0)(h1:Fq 40 x1)(e:evQ [2,2] 1 [0,13107,26214,65535] x0 x1 0 0=y):Cl 26 [gridD [2,2] 1 [0,13107,26214,65535],frT y,slQ (fun i=>txq (rqN x0 x1 0 i)) 2] (.bool true):=by
 have v:Cl 26 [gridD [2,2] 1 [0,13107,26214,65535],frT (evQ [2,2] 1 [0,13107,26214,65535] x0 x1 0 0),slQ (fun i=>txq (rqN x0 x1 0 i)) 2] (.bool true):=value_t _ _ _ 2 _ (fun j=>txq (evQ [2,2] 1 [0,13107,26214,65535] x0 x1 0 j)) (evalq2 jdO h0 h1)
 rw[e] at v
 exact v
theorem wk_cell:Cl 17 [gridD [2,2] 1 [0,13107,26214,65535],slQ (fun i=>txq (wkQ i)) 2] (.tup [.ints .i64 [0,0],.ints .i64 [0,1],V.sl2 3 [.str (txq (wkQ 0)).1,.str (txq (wkQ 0)).2,.str (txq (wkQ 1)).1,.str (txq (wkQ 1)).2,.str (txq (wkQ 1)).1,.str (txq (wkQ 1)).2],.int .i64 0]):=by
 have c:=cellq2 jdO (jdS 0) (jdS 1)
 have e0:spB 2 (wkQ 0)=0:=by decide +kernel
 have e1:spB 2 (wkQ 1)=0:=by decide +kernel
 have e2:ord2 (spR 2 (wkQ 0)) (spR 2 (wkQ 1))=[0,1]:=by decide +kernel
 rw[e0,e1,e2] at c
 have w0:wqN (rqN (spR 2 (wkQ 0)) (spR 2 (wkQ 1)) 0) [0,1] 2 0=wkQ 0:=by decide +kernel
 have w1:wqN (rqN (spR 2 (wkQ 0)) (spR 2 (wkQ 1)) 0) [0,1] 2 1=wkQ 1:=by decide +kernel
 have w2:wqN (rqN (spR 2 (wkQ 0)) (spR 2 (wkQ 1)) 0) [0,1] 2 2=wkQ 1:=by decide +kernel
 have hw:wce (fun k=>txq (wqN (rqN (spR 2 (wkQ 0)) (spR 2 (wkQ 1)) 0) [0,1] 2 k)) 3=[.str (txq (wkQ 0)).1,.str (txq (wkQ 0)).2,.str (txq (wkQ 1)).1,.str (txq (wkQ 1)).2,.str (txq (wkQ 1)).1,.str (txq (wkQ 1)).2]:=by
  simp only[wce,w0,w1,w2]
  rfl
 unfold slQ at c
 rw[hw] at c
 exact c
theorem wk_steep:Cl 32 [gridD [2,2] 1 [0,13107,26214,65535]] (.tup [.slf 1 1 (fun j=>List.take 1 (List.drop (j*1) [.ints .i64 [52428,39321]])),.int .i64 0]):=by
 have c:=steep1_t [2,2] [0,13107,26214,65535] _ jdO (by decide) rfl
 have e:outS [2,2] [0,13107,26214,65535] 1 ([2,2]:List Int).length 0=[52428,39321]:=by decide +kernel
 rw[e] at c
 exact c
def wkB (a b c d:Int)(k:Nat):Int×Int:=if k=0 then (a,b) else (c,d)
theorem slB1 {B:Nat→Int×Int}{y z:Int}(h:B 0=(y,z)):slB B 1=V.sl2 1 [.int .i64 y,.int .i64 z]:=by
 show V.sl2 1 [.int .i64 (B 0).1,.int .i64 (B 0).2]=_
 rw[h]
theorem wk_bands {a b c d y z:Int}(h:vb a b=true∧vb c d=true)(e:confB (evQ [2,2] 1 [0,13107,26214,65535] (midB (a,b)) (midB (c,d)) 0 0) (sprQ [2,2] [0,13107,26214,65535] 1 2 (wkB a b c d) 0) (Rat.divInt ((loL 1 [0,13107,26214,65535]).getD 0 0) 65535) (Rat.divInt ((hiL 1 [0,13107,26214,65535]).getD 0 0) 65535)=(y,z)) :
  Cl 29 [gridD [2,2] 1 [0,13107,26214,65535],V.sl2 2 [.int .i64 a,.int .i64 b,.int .i64 c,.int .i64 d]] (.tup [V.sl2 1 [.int .i64 y,.int .i64 z],.int .i64 0]):=by
 have q:=bandq2_1 rfl jdO (wkB a b c d) (fun i hi=>by
  have:i=0∨i=1:=by omega
  rcases this with rfl|rfl
  ·exact h.1
  ·exact h.2)
 refine Called.cast q ?_
 rw[show (1:Int).toNat=1 from rfl,slB1 (y:=y) (z:=z)]
 exact e
theorem wk_refine:Cl 33 [gridD [2,2] 1 [0,13107,26214,65535],.ints .i64 [3,2]] (.tup [.agg [.ints .i64 [3,2],.int .i64 1,.ints .i64 [0,13107,13107,39321,26214,65535]],.int .i64 0]):=by
 have c:=refq2 jdO [3,2] rfl (by decide) (by decide)
 have e:rfD [2,2] 1 [0,13107,26214,65535] [3,2]=[0,13107,13107,39321,26214,65535]:=by decide +kernel
 rw[e] at c
 exact c
theorem wk_len (X:Nat→List D):Cl 15 [gridD [2,2] 1 [0,13107,26214,65535],.slf 2 1 X] (.tup [.nil,.int .i64 2]):=by
 have ck:=Called.cast (jdR [2,2] 1 [0,13107,26214,65535] (by decide) (by decide)) (by rw[jdO];first|done|rfl)
 exact eval_e _ _ _ 2 (by decide) 1 X (loc_len _ _ _ 1 X (by decide) ck)
theorem jgN:Cl 10 [] (.bool true):=by
 refine wakes_t (fun k=>txq (wkQ k)) (lof_c (by omega) (by omega)) (lof_c (by omega) (by omega)) (lof_c (by omega) (by omega)) (lof_c (by omega) (by omega)) (lof_c (by omega) (by omega)) (lof_c (by omega) (by omega)) lfour_c wk_cell wk_steep
  (wk_bands (by decide +kernel) (by decide +kernel)) (wk_bands (by decide +kernel) (by decide +kernel)) wk_refine (wk_len _) (wk_ev (y:=wkQ 2) (jdS 0) (jdS 1) (by decide +kernel)) (wk_ev (y:=wkQ 3) (jdS 1) (jdS 0) (by decide +kernel)) (wk_ev (y:=wkQ 4) (jdS 5) (jdS 4) (by decide +kernel))
end Go.Proofs.YtgjgpdceghjajaaGreatDoor
end
