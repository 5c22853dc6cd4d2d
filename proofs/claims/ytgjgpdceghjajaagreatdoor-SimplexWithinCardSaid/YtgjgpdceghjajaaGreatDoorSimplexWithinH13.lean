/- What functions of the program answer at given values, part 13. Conditions: those that each theorem names. -/
import Derived.Test.YtgjgpdceghjajaaGreatDoorSimplexWithinH12
import Derived.Test.YtgjgpdceghjajaaGreatDoorSimplexWithinH10
import Derived.Test.YtgjgpdceghjajaaGreatDoorSimplexWithinH6
set_option linter.unusedSimpArgs false
set_option linter.unusedVariables false
set_option maxHeartbeats 8000000
set_option maxRecDepth 100000
section
namespace Go.Proofs.YtgjgpdceghjajaaGreatDoor
open Go Go.V
def pz (z:List (Int×Int)):Int:=z.foldl (fun p a=>p*a.1+a.2) 0
def okIdx (size xs:List Int):Bool:=decide (xs.length=size.length) && (size.zip xs).all fun a=>decide (0≤a.2∧a.2≤a.1-1)
def pad4 (xs:List Int):List Int:=xs++List.replicate (4-xs.length) 0
theorem jaA {xs:List Int}(h:xs.length≤4):(pad4 xs).length=4:=by simp[pad4];omega
theorem jgg {xs:List Int}{k:Nat}{x:Int}(h:xs[k]? = some x)(hl:xs.length≤4):(pad4 (xs.take k)).set k x=pad4 (xs.take (k+1)):=by
 have hk:k<xs.length:=(jje.1 h).1
 refine List.ext_getElem? fun j=>?_
 rw[List.getElem?_set]
 have h1:(xs.take k).length=k:=by simp;omega
 have h2:(xs.take (k+1)).length=k+1:=by simp;omega
 have hp:(pad4 (xs.take k)).length=4:=jaA (by omega)
 by_cases e:k=j
 ·subst e
  rw[if_pos rfl,if_pos (by omega)]
  unfold pad4
  rw[jjd (by omega),jjq (by omega),h]
 ·rw[if_neg e]
  unfold pad4
  rw[h1,h2]
  by_cases hj:j<k
  ·rw[jjd (by omega),jjd (by omega),jjq hj,jjq (by omega)]
  ·rw[List.getElem?_append_right (by omega),List.getElem?_append_right (by omega),h1,h2]
   simp only[List.getElem?_replicate]
   by_cases hj4:j<4
   ·rw[if_pos (by omega),if_pos (by omega)]
   ·rw[if_neg (by omega),if_neg (by omega)]
theorem pz_bd_aux (z:List (Int×Int)):∀ (p q:Int),(∀ a∈z,0≤a.2∧a.2≤a.1-1)→0≤p→p+1≤q →
  0≤z.foldl (fun p a=>p*a.1+a.2) p∧z.foldl (fun p a=>p*a.1+a.2) p+1≤(z.map (·.1)).foldl (· * ·) q:=by
 induction z with
 | nil=>intro p q _ h1 h2;exact⟨h1,h2⟩
 | cons a z ih=>
  intro p q h h1 h2
  have ha:=h a (by simp)
  simp only[List.foldl_cons,List.map_cons]
  have h3:0≤p*a.1:=jiz h1 (by omega)
  have h4:(p+1)*a.1≤q*a.1:=jiH h2 (by omega)
  rw[jiX] at h4
  exact ih _ _ (fun b hb=>h b (by simp[hb])) (by omega) (by omega)
theorem pz_bd {z:List (Int×Int)}(h:∀ a∈z,0≤a.2∧a.2≤a.1-1):0≤pz z∧pz z+1≤prod (z.map (·.1)):=pz_bd_aux z 0 1 h (by omega) (by omega)
theorem jbA {size xs:List Int} : okIdx size xs=true↔xs.length=size.length ∧ ∀ (k:Nat) (n x:Int),size[k]? = some n→xs[k]? = some x→0≤x∧x≤n-1:=by
 unfold okIdx
 rw[jit,decide_eq_true_eq,ji4]
 constructor
 ·rintro⟨h1,h2⟩
  refine⟨h1,fun k n x hn hx=>?_⟩
  have:=h2 (n,x) (ji9 (i:=k) (by rw[List.getElem?_zip_eq_some];exact⟨hn,hx⟩))
  simpa using this
 ·rintro⟨h1,h2⟩
  refine⟨h1,fun a ha=>?_⟩
  obtain⟨k,hk⟩:=List.getElem?_of_mem ha
  rw[List.getElem?_zip_eq_some] at hk
  simpa using h2 k _ _ hk.1 hk.2
theorem jbv {size:List Int}{out:Int}{data:List Int}(h:jaj size out data=true):1≤size.length∧size.length≤4∧1≤out∧out≤4∧size.all (fun n=>decide (2≤n∧n≤9))=true∧(data.length:Int)≤4096∧(data.length:Int)=prod size*out∧data.all (fun v=>decide (0≤v∧v≤65535))=true:=by
 unfold jaj at h
 simp only[jit] at h
 obtain⟨⟨⟨⟨h1,h2⟩,h3⟩,h4⟩,h5⟩:=h
 simp only[decide_eq_true_eq] at h1 h2 h4
 exact⟨h1.1,h1.2,h2.1,h2.2,h3,h4.1,h4.2,h5⟩
theorem okIdx_step {size xs:List Int}{n x:Int}(h:okIdx size xs=true)(hl:size.length=xs.length)(hx:0≤x∧x≤n-1):okIdx (size++[n].toArray.toList) (xs++[x].toArray.toList)=true:=by
 unfold okIdx at *
 rw[List.zip_append hl]
 simp at *
 exact⟨by omega,h.2,by omega⟩
theorem find_c (size:List Int)(out:Int)(data xs:List Int)(hg:jaj size out data=true)(hx:xs.length≤281474976710656) :
  Cl 47 [gridD size out data,.ints .i64 xs] (.tup [.iarr .i64 (if okIdx size xs then pad4 xs else [0,0,0,0]),.bool (okIdx size xs)]):=by
 have hG:=jbv hg
 refine V.en tbOk Tryz.func47 ?_
 (conv=>whnf)
 refine V.st ?_
 refine V.br (fun h=>?_) (fun h=>?_)
 ·have:okIdx size xs=false:=by
   unfold okIdx
   simp at h;simp;omega
  (conv=>whnf)
  refine V.st ?_
  rw[this]
  exact Fin.of rfl
 have hl:xs.length=size.length:=by simp at h;omega
 clear h
 (conv=>whnf)
 refine V.st ?_
 refine lp_go (xs.length) (fun k=>okIdx (size.take k) (xs.take k)=true) (fun k=>[(19,.int .i64 k)]) (fun k=>[(6,.arr .i64 (pad4 (xs.take k)))]) V.wk ?_ ?_
 ·rfl
 intro k hk hI
 (conv=>whnf)
 refine V.st ?_
 refine V.br (fun h=>?_) (fun h=>?_)
 ·simp only[decide_eq_true_eq] at h
  obtain⟨x,hx1,ex⟩:=getx (xs:=xs) (k:=k) (by omega)
  obtain⟨n,hn1,en⟩:=getx (xs:=size) (k:=k) (by omega)
  have hnb:2≤n∧n≤9:=by
   have:=ji4.1 hG.2.2.2.2.1 n (ji9 hn1)
   simpa using this
  (conv=>whnf)
  refine V.st ?_
  rw[en]
  refine V.st ?_
  repeat ((try ((with_reducible refine .ext ?_);(conv=>whnf)));(with_reducible refine jaa (r:=?_) ?_ ?_);rotate_left;(focus (first|exact(jeb _ _ _)));(conv=>whnf);refine V.st ?_)
  rw[ex]
  refine V.br (fun h=>?_) (fun h=>?_)
  ·have:okIdx size xs=false:=by
    cases hb:okIdx size xs with
    | false=>rfl
    | true=>
     have:=(jbA.1 hb).2 k n x hn1 hx1
     simp at h;omega
   (conv=>whnf)
   refine V.st ?_
   rw[this]
   exact Fin.of rfl
  ·(conv=>whnf)
   refine V.st ?_
   simp only[jaA (xs:=xs.take k) (by simp;omega)]
   refine V.st ?_
   simp only[jiA,jiC]
   rw[jgg hx1 (by omega)]
   exact⟨k+1,⟨by omega,(by rw[jjr,jjr,hn1,hx1];exact okIdx_step (n:=n) (x:=x) hI (by simp[jjb];omega) (by simp at h;omega))⟩,by omega,V.wk⟩
 ·simp only[decide_eq_false_iff_not] at h
  rw[jjj (by omega),jjj (by omega)] at hI
  (conv=>whnf)
  refine V.st ?_
  have hp4:(pad4 xs).length=4:=jaA (by omega)
  rw[jjj (by omega)]
  refine V.st ?_
  rw[hI]
  exact Fin.of rfl
theorem place_c (size:List Int)(out:Int)(data xs:List Int)(hg:jaj size out data=true)(hx:xs.length=4)(hi:∀ (k:Nat) (n x:Int),size[k]? = some n→xs[k]? = some x→0≤x∧x≤n-1) :
  Cl 71 [gridD size out data,.iarr .i64 xs] (.int .i64 (pz (size.zip xs)*out)):=by
 have hG:=jbv hg
 have hb:∀ k,k≤size.length→0≤pz ((size.zip xs).take k)∧pz ((size.zip xs).take k)+1≤6561:=fun k hk=>by
  have h1:=pz_bd (z:=(size.zip xs).take k) (fun a ha=>by
   obtain⟨j,hj⟩:=List.getElem?_of_mem (jjg ha)
   rw[List.getElem?_zip_eq_some] at hj
   exact hi j _ _ hj.1 hj.2)
  have h2:=(jgd hG.2.2.2.2.1 k).2.1 hG.2.1
  have h3:((size.zip xs).take k).map (·.1)=size.take k:=by
   rw[List.map_take,List.map_fst_zip (by omega)]
  rw[h3] at h1
  omega
 have hb2:=hb size.length (by omega)
 rw[jjj (by simp;omega)] at hb2
 refine V.en tbOk Tryz.func71 ?_
 (conv=>whnf)
 refine V.st ?_
 refine lp_go (size.length) (fun k=>True) (fun k=>[(5,.int .i64 (pz ((size.zip xs).take k))),(12,.int .i64 k)]) (fun k=>[]) V.wk ?_ ?_
 ·trivial
 intro k hk _
 (conv=>whnf)
 refine V.st ?_
 refine V.br (fun h=>?_) (fun h=>?_)
 ·simp only[decide_eq_true_eq] at h
  obtain⟨n,hn1,en⟩:=getx (xs:=size) (k:=k) (by omega)
  obtain⟨x,hx1,ex⟩:=getx (xs:=xs) (k:=k) (by omega)
  have hz:(size.zip xs)[k]? = some (n,x):=by rw[List.getElem?_zip_eq_some];exact⟨hn1,hx1⟩
  have hs:pz ((size.zip xs).take (k+1))=pz ((size.zip xs).take k)*n+x:=by
   rw[jjr,hz];simp[pz]
  have h1:=hb k (by omega)
  have h2:=hb (k+1) (by omega)
  have h3:=hi k n x hn1 hx1
  rw[hs] at h2
  have h4:0≤pz ((size.zip xs).take k)*n:=jiz h1.1 (by omega)
  refine V.r0 (V.a3 @en ex @jiA) ?_
  rw[← hs]
  exact⟨k+1,⟨by omega,trivial⟩,by omega,V.wk⟩
 ·simp only[decide_eq_false_iff_not] at h
  rw[jjj (l:=size.zip xs) (by simp;omega)]
  have hm:InR .i64 (pz (size.zip xs)*out):=by
   have h5:0≤pz (size.zip xs)*out:=jiz hb2.1 (by omega)
   have h6:pz (size.zip xs)*out≤6561*4:=Int.mul_le_mul (by omega) (by omega) (by omega) (by omega)
   simp only[V.InR,lo,V.hi];omega
  (conv=>whnf)
  refine V.st ?_
  exact Fin.same _
theorem pz_last {size:List Int}{out:Int}{data xs:List Int}(hg:jaj size out data=true)(hx:size.length≤xs.length)(hi:∀ (k:Nat) (n x:Int),size[k]? = some n→xs[k]? = some x→0≤x∧x≤n-1) :
  0≤pz (size.zip xs)*out∧pz (size.zip xs)*out+out≤data.length:=by
 have hG:=jbv hg
 have h1:=pz_bd (z:=size.zip xs) (fun a ha=>by
  obtain⟨j,hj⟩:=List.getElem?_of_mem ha
  rw[List.getElem?_zip_eq_some] at hj
  exact hi j _ _ hj.1 hj.2)
 rw[List.map_fst_zip (by omega)] at h1
 refine⟨jiz h1.1 (by omega),?_⟩
 have h2:(pz (size.zip xs)+1)*out≤prod size*out:=jiH h1.2 (by omega)
 rw[jiX] at h2
 omega
def slot (data:List Int)(p out:Int):List Int:=(data.drop p.toNat).take out.toNat
theorem slot_copy {data:List Int}{p out:Int}(h1:0≤p)(h2:0≤out)(h3:p+out≤data.length) :
  List.take out.toNat (V.setAt (List.replicate out.toNat 0) 0 (List.take out.toNat (List.drop p.toNat (List.take (p+out).toNat data))))=slot data p out:=by
 have e1:List.take out.toNat (List.drop p.toNat (List.take (p+out).toNat data))=slot data p out:=by
  have:(p+out).toNat=p.toNat+out.toNat:=by omega
  rw[this,List.drop_take,List.take_take]
  simp[slot]
 rw[e1]
 have hl:(slot data p out).length=out.toNat:=by simp[slot];omega
 unfold V.setAt
 rw[List.take_zero,List.nil_append,jjh (by omega),jjj (by omega)]
theorem values_c (size:List Int)(out:Int)(data xs:List Int)(hg:jaj size out data=true)(hx:xs.length=4)(hi:∀ (k:Nat) (n x:Int),size[k]? = some n→xs[k]? = some x→0≤x∧x≤n-1) :
  Cl 40 [gridD size out data,.iarr .i64 xs] (.ints .i64 (slot data (pz (size.zip xs)*out) out)):=by
 have hG:=jbv hg
 have hp:=pz_last hg (by omega) hi
 refine V.en tbOk Tryz.func40 ?_
 (conv=>whnf)
 refine V.st ?_
 repeat ((try ((with_reducible refine .ext ?_);(conv=>whnf)));(with_reducible refine jaa (r:=?_) ?_ ?_);rotate_left;(focus (first|exact(place_c _ _ _ _ hg hx hi)));(conv=>whnf);refine V.st ?_)
 try refine And.intro (fun _=>⟨by omega,by simp⟩) ?_
 (conv=>whnf)
 refine V.st ?_
 exact Fin.of (by rw[slot_copy hp.1 (by omega) hp.2])
theorem jhl {data:List Int}{p out:Int}(h1:0≤p)(h2:0≤out)(h3:p+out≤data.length):(slot data p out).length=out.toNat:=by
 simp[slot];omega
theorem jeN {size xs:List Int}(h:okIdx size xs=true)(h4:size.length≤4):(pad4 xs).length=4 ∧ ∀ (k:Nat) (n x:Int),size[k]? = some n→(pad4 xs)[k]? = some x→0≤x∧x≤n-1:=by
 obtain⟨h1,h2⟩:=jbA.1 h
 refine⟨jaA (by omega),fun k n x hn hx=>?_⟩
 have hk:=(jje.1 hn).1
 unfold pad4 at hx
 rw[jjd (by omega)] at hx
 exact h2 k n x hn hx
theorem zip_pad {size xs:List Int}(h:okIdx size xs=true):size.zip (pad4 xs)=size.zip xs:=by
 obtain⟨h1,h2⟩:=jbA.1 h
 unfold pad4
 have:=List.zip_append (l₁:=size) (r₁:=([]:List Int)) (l₂:=xs) (r₂:=List.replicate (4-xs.length) 0) h1.symm
 simpa using this
theorem gat_c (size:List Int)(out:Int)(data xs:List Int)(hs:size.length≤281474976710656)(hd:data.length≤281474976710656)(hx:xs.length≤281474976710656) :
  Cl 20 [gridD size out data,.ints .i64 xs] (.tup [.ints .i64 (if jaj size out data && okIdx size xs then slot data (pz (size.zip xs)*out) out else []),.int .i64 (if jaj size out data then (if okIdx size xs then 0 else 2) else 100)]):=by
 refine V.en tbOk Tryz.func20 ?_
 (conv=>whnf)
 refine V.st ?_
 repeat ((try ((with_reducible refine .ext ?_);(conv=>whnf)));(with_reducible refine jaa (r:=?_) ?_ ?_);rotate_left;(focus (first|exact(jfj _ _ _ hs hd)));(conv=>whnf);refine V.st ?_)
 cases hg:jaj size out data with
 | false=>
  refine V.br (fun h=>?_) (fun h=>?_)
  ·(conv=>whnf)
   refine V.st ?_
   exact Fin.tup ⟨Fin.nil _,Fin.of rfl,trivial⟩
  ·simp at h
 | true=>
  have hG:=jbv hg
  refine V.br (fun h=>?_) (fun h=>?_)
  ·simp at h
  have hpl:(if okIdx size xs=true then pad4 xs else [0,0,0,0]).length=4:=by
   split
   ·rename_i h;exact(jeN h hG.2.1).1
   ·rfl
  (conv=>whnf)
  refine V.st ?_
  repeat ((try ((with_reducible refine .ext ?_);(conv=>whnf)));(with_reducible refine jaa (r:=?_) ?_ ?_);rotate_left;(focus (first|exact(find_c _ _ _ _ hg hx)));(conv=>whnf);refine V.st ?_)
  refine V.br (fun hi=>?_) (fun hi=>?_)
  ·have hi2:okIdx size xs=false:=by simpa using hi
   (conv=>whnf)
   refine V.st ?_
   rw[hi2]
   exact Fin.tup ⟨Fin.nil _,Fin.of rfl,trivial⟩
  ·have hi2:okIdx size xs=true:=by simpa using hi
   obtain⟨hp1,hp2⟩:=jeN hi2 hG.2.1
   rw[hi2,if_pos rfl]
   (conv=>whnf)
   refine V.st ?_
   repeat ((try ((with_reducible refine .ext ?_);(conv=>whnf)));(with_reducible refine jaa (r:=?_) ?_ ?_);rotate_left;(focus (first|exact(values_c _ _ _ _ hg hp1 hp2)));(conv=>whnf);refine V.st ?_)
   rw[zip_pad hi2]
   exact Fin.of rfl
end Go.Proofs.YtgjgpdceghjajaaGreatDoor
end
section
namespace Go.Proofs.YtgjgpdceghjajaaGreatDoor
open Go Go.V Go.Nb
def smF (P:Nat→Rat):Nat→Rat
 | 0=>P 0
 | k+1=>smF P k+P (k+1)
theorem fq_sm {P:Nat→Rat}{a:Nat}(h:∀ k,Fq a (P k)):∀ k,Fq ((k+1)*a+k) (smF P k)
 | 0=>(h 0).mono (by omega)
 | k+1=>((fq_sm h k).add (h (k+1))).mono (by rw[Nat.add_mul (k+1)];omega)
def gvF (zs:List Int)(out:Int)(data:List Int)(j:Nat)(i k l:Int):Rat:=(((slot data (pz (zs.zip ([i,k,l].take zs.length))*out) out).getD j 0:Int):Rat)
def evQ (zs:List Int)(out:Int)(data:List Int)(x0 x1 x2:Rat)(j:Nat):Rat:=evF (zs.getD 0 2) (zs.getD 1 2) (zs.getD 2 2) (gvF zs out data j) x0 x1 x2/65535
theorem jap {zs:List Int}{out:Int}{data:List Int}(h:jaj zs out data=true):(1≤out∧out≤4)∧(∀ z∈zs,2≤z∧z≤9)∧((data.length:Int)≤4096∧(data.length:Int)=prod zs*out) ∧ ∀ v∈data,0≤v∧v≤65535:=by
 unfold jaj at h
 simp only[jit,decide_eq_true_eq,ji4] at h
 exact⟨h.1.1.1.2,h.1.1.2,h.1.2,h.2⟩
theorem jaO {l:List Int}{p:Int→Prop}(h:∀ v∈l,p v)(h0:p 0)(j:Nat):p (l.getD j 0):=by
 by_cases hj:j<l.length
 ·rw[ji5,ji8 hj]
  exact h _ (List.getElem_mem hj)
 ·rw[ji5,List.getElem?_eq_none (by omega)]
  exact h0
theorem jbM {data:List Int}(h:∀ v∈data,0≤v∧v≤65535)(p w:Int)(j:Nat):0≤(slot data p w).getD j 0∧(slot data p w).getD j 0≤65535:=
 jaO (p:=fun v=>0≤v∧v≤65535) (fun v hv=>h v (jjf (jjg hv))) (by omega) j
theorem gat_at {zs:List Int}{out:Int}{data xs:List Int}(h:jaj zs out data=true)(hi:okIdx zs xs=true)(hl:zs.length≤4)(hx:xs.length≤4):Cl 20 [gridD zs out data,.ints .i64 xs] (.tup [.ints .i64 (slot data (pz (zs.zip xs)*out) out),.int .i64 0]):=by
 have o:=jap h
 have c:=gat_c zs out data xs (by omega) (by omega) (by omega)
 rw[h,hi] at c
 exact c
theorem jc4 {zs:List Int}{out:Int}{data xs:List Int}(h:jaj zs out data=true)(hi:okIdx zs xs=true):(slot data (pz (zs.zip xs)*out) out).length=out.toNat:=by
 have o:=jap h
 unfold okIdx at hi
 simp only[jit,decide_eq_true_eq,ji4] at hi
 have b:=pz_bd hi.2
 have e:(zs.zip xs).map (·.1)=zs:=List.map_fst_zip (by omega)
 rw[e] at b
 have h1:0≤pz (zs.zip xs)*out:=jiz b.1 (by omega)
 have h2:pz (zs.zip xs)*out+out≤data.length:=by
  rw[o.2.2.1.2]
  have:=jiH b.2 (show 0≤out by omega)
  rw[jiX,jiY] at this
  exact this
 exact jhl h1 (by omega) h2
theorem ord3_mem (r0 r1 r2:Rat):ord3 r0 r1 r2=[0,1,2]∨ord3 r0 r1 r2=[0,2,1]∨ord3 r0 r1 r2=[1,0,2]∨ord3 r0 r1 r2=[1,2,0]∨ord3 r0 r1 r2=[2,0,1]∨ord3 r0 r1 r2=[2,1,0]:=by
 unfold ord3
 repeat' split
 all_goals simp
theorem ord2_mem (r0 r1:Rat):ord2 r0 r1=[0,1]∨ord2 r0 r1=[1,0]:=by
 unfold ord2
 split
 ·exact .inr rfl
 ·exact .inl rfl
theorem sp_20:spB 2 0=0∧spR 2 0=0:=by decide +kernel
theorem ord3_20 {r0 r1:Rat}(h0:0≤r0)(h1:0≤r1):ord3 r0 r1 0=ord2 r0 r1++[2]:=by
 have g0:¬ r0<0:=Rat.not_lt.2 h0
 have g1:¬ r1<0:=Rat.not_lt.2 h1
 unfold ord3 ord2
 by_cases h:r0<r1
 ·rw[if_pos h,if_neg g0,if_pos h];rfl
 ·rw[if_neg h,if_neg g1,if_neg h];rfl
theorem ord3_10 {r0:Rat}(h0:0≤r0):ord3 r0 0 0=[0,1,2]:=by
 have g0:¬ r0<0:=Rat.not_lt.2 h0
 unfold ord3
 rw[if_neg g0,if_neg (by decide +kernel)]
theorem spR_nn {s:Int}(hs:2≤s)(x:Rat):0≤spR s x:=by
 have h:=(Rat.le_floor_iff (x:=(gp s x).floor) (a:=gp s x)).1 (Int.le_refl _)
 have g:((spB s x:Int):Rat)≤(((gp s x).floor:Int):Rat):=Rat.intCast_le_intCast.2 (by unfold spB;omega)
 unfold spR
 grind
theorem jaF:(65535:Int).natAbs<10^5:=by decide
theorem ja6:((65535:Int):Rat).num≠0:=by decide
theorem valU1 (z0 b0 out:Int)(data O:List Int)(rq:Nat→Rat)(fr:∀ k,Fq 43 (rq k))(U:Nat→List Int)(ho:1≤out∧out≤4)(hU:∀ k,k<2→(U k).length=out.toNat ∧ ∀ j,0≤(U k).getD j 0∧(U k).getD j 0≤65535)(hl:O.length=1)(hx:∀ k,k<1→0≤O.getD k 0∧O.getD k 0<4)(hi:∀ k,k<1→InR .i64 ((atK [b0,0,0,0] O k).getD (O.getD k 0).toNat 0+1))
  (pt:∀ k,k<2→Cl 80 [.agg [.ints .i64 [z0],.int .i64 out,.ints .i64 data,.ints .i64 [b0],.ints .i64 O,slQ (fun k=>txq (wqN rq O 1 k)) 2],.iarr .i64 (atK [b0,0,0,0] O k)] (.tup [.ints .i64 (U k),.int .i64 0])) :
  Cl 45 [.agg [.ints .i64 [z0],.int .i64 out,.ints .i64 data,.ints .i64 [b0],.ints .i64 O,slQ (fun k=>txq (wqN rq O 1 k)) 2]] (.tup [slQ (fun j=>txq (smF (fun k=>wqN rq O 1 k*(((U k).getD j 0:Int):Rat)) 1/65535)) out.toNat,.int .i64 0]):=by
 have v1:∀ j:Nat,j<out.toNat→Cl 83 [.int .i64 (j:Int),.ref [.slf 1 2 (fun j=>List.take 1 (List.drop (j*1) [.ints .i64 (U 0),.ints .i64 (U 1)]))],.ref [slQ (fun k=>txq (wqN rq O 1 k)) 2]] (.tup [frT (smF (fun k=>wqN rq O 1 k*(((U k).getD j 0:Int):Rat)) 1/65535),.int .i64 0]):=by
  intro j hj
  have fu:=jam (n:=65535) (by omega)
  have fm:∀ k,k<2→Fq 92 (wqN rq O 1 k*(((U k).getD j 0:Int):Rat)):=fun k hk=>(fq_wq fr O 1 k).mul (jaD (n:=5) (by have:=(hU k hk).2 j;omega) (by omega))
  have i0:=jam (n:=(U 0).getD j 0) (by have:=(hU 0 (by omega)).2 j;omega)
  have u0:=zmul (fq_wq fr O 1 0) (jaD (n:=5) (z:=(U 0).getD j 0) (by have:=(hU 0 (by omega)).2 j;omega) (by omega)) (by decide) (by decide) (by decide)
  have m0:=prod2_0 (fun k=>txq (wqN rq O 1 k)) (fun k=>txq (wqN rq O 1 k*(((U k).getD j 0:Int):Rat))) U j _ _ (by rw[(hU 0 (by omega)).1];exact hj) i0 u0
  have i1:=jam (n:=(U 1).getD j 0) (by have:=(hU 1 (by omega)).2 j;omega)
  have u1:=zmul (fq_wq fr O 1 1) (jaD (n:=5) (z:=(U 1).getD j 0) (by have:=(hU 1 (by omega)).2 j;omega) (by omega)) (by decide) (by decide) (by decide)
  have m1:=prod2_1 (fun k=>txq (wqN rq O 1 k)) (fun k=>txq (wqN rq O 1 k*(((U k).getD j 0:Int):Rat))) U j _ _ (by rw[(hU 1 (by omega)).1];exact hj) i1 u1
  have li:=list2_3 (fun k=>txq (wqN rq O 1 k*(((U k).getD j 0:Int):Rat))) m0 m1
  have s0:Fq 92 (smF (fun k=>wqN rq O 1 k*(((U k).getD j 0:Int):Rat)) 0):=fm 0 (by omega)
  have s1:Fq 185 (smF (fun k=>wqN rq O 1 k*(((U k).getD j 0:Int):Rat)) 1):=s0.add (fm 1 (by omega))
  have su:=sum2 (fun k=>txq (wqN rq O 1 k*(((U k).getD j 0:Int):Rat))) (fun k=>txq (smF (fun k=>wqN rq O 1 k*(((U k).getD j 0:Int):Rat)) k)) rfl (zadd s0 (fm 1 (by omega)) (by decide) (by decide) (by decide))
  have dv:=zdiv s1 (jaD (n:=5) (z:=65535) jaF (by decide)) ja6 (by decide) (by decide) (by decide)
  rw[show ((65535:Int):Rat)=65535 from rfl] at fu dv
  exact val1_2 (fun k=>txq (wqN rq O 1 k)) (fun k=>txq (wqN rq O 1 k*(((U k).getD j 0:Int):Rat))) (fun k=>txq (smF (fun k=>wqN rq O 1 k*(((U k).getD j 0:Int):Rat)) k)) U j _ _ _ _ li su fu dv
 refine value1_t z0 b0 out data O (fun k=>txq (wqN rq O 1 k)) U _ _ hl hx hi pt ?_
 have h4:out=1∨out=2∨out=3∨out=4:=by omega
 rcases h4 with e|e|e|e<;>subst e
 ·exact jhK (z:=0) (fun j=>txq (smF (fun k=>wqN rq O 1 k*(((U k).getD j 0:Int):Rat)) 1/65535)) (v1 0 (by decide))
 ·exact jhJ (z:=0) (fun j=>txq (smF (fun k=>wqN rq O 1 k*(((U k).getD j 0:Int):Rat)) 1/65535)) (v1 0 (by decide)) (v1 1 (by decide))
 ·exact jhI (z:=0) (fun j=>txq (smF (fun k=>wqN rq O 1 k*(((U k).getD j 0:Int):Rat)) 1/65535)) (v1 0 (by decide)) (v1 1 (by decide)) (v1 2 (by decide))
 ·exact jhH (z:=0) (fun j=>txq (smF (fun k=>wqN rq O 1 k*(((U k).getD j 0:Int):Rat)) 1/65535)) (v1 0 (by decide)) (v1 1 (by decide)) (v1 2 (by decide)) (v1 3 (by decide))
theorem valU2 (z0 z1 b0 b1 out:Int)(data O:List Int)(rq:Nat→Rat)(fr:∀ k,Fq 43 (rq k))(U:Nat→List Int)(ho:1≤out∧out≤4)(hU:∀ k,k<3→(U k).length=out.toNat ∧ ∀ j,0≤(U k).getD j 0∧(U k).getD j 0≤65535)(hl:O.length=2)(hx:∀ k,k<2→0≤O.getD k 0∧O.getD k 0<4)(hi:∀ k,k<2→InR .i64 ((atK [b0,b1,0,0] O k).getD (O.getD k 0).toNat 0+1))
  (pt:∀ k,k<3→Cl 80 [.agg [.ints .i64 [z0,z1],.int .i64 out,.ints .i64 data,.ints .i64 [b0,b1],.ints .i64 O,slQ (fun k=>txq (wqN rq O 2 k)) 3],.iarr .i64 (atK [b0,b1,0,0] O k)] (.tup [.ints .i64 (U k),.int .i64 0])) :
  Cl 45 [.agg [.ints .i64 [z0,z1],.int .i64 out,.ints .i64 data,.ints .i64 [b0,b1],.ints .i64 O,slQ (fun k=>txq (wqN rq O 2 k)) 3]] (.tup [slQ (fun j=>txq (smF (fun k=>wqN rq O 2 k*(((U k).getD j 0:Int):Rat)) 2/65535)) out.toNat,.int .i64 0]):=by
 have v1:∀ j:Nat,j<out.toNat→Cl 83 [.int .i64 (j:Int),.ref [.slf 1 3 (fun j=>List.take 1 (List.drop (j*1) [.ints .i64 (U 0),.ints .i64 (U 1),.ints .i64 (U 2)]))],.ref [slQ (fun k=>txq (wqN rq O 2 k)) 3]] (.tup [frT (smF (fun k=>wqN rq O 2 k*(((U k).getD j 0:Int):Rat)) 2/65535),.int .i64 0]):=by
  intro j hj
  have fu:=jam (n:=65535) (by omega)
  have fm:∀ k,k<3→Fq 92 (wqN rq O 2 k*(((U k).getD j 0:Int):Rat)):=fun k hk=>(fq_wq fr O 2 k).mul (jaD (n:=5) (by have:=(hU k hk).2 j;omega) (by omega))
  have i0:=jam (n:=(U 0).getD j 0) (by have:=(hU 0 (by omega)).2 j;omega)
  have u0:=zmul (fq_wq fr O 2 0) (jaD (n:=5) (z:=(U 0).getD j 0) (by have:=(hU 0 (by omega)).2 j;omega) (by omega)) (by decide) (by decide) (by decide)
  have m0:=prod3_0 (fun k=>txq (wqN rq O 2 k)) (fun k=>txq (wqN rq O 2 k*(((U k).getD j 0:Int):Rat))) U j _ _ (by rw[(hU 0 (by omega)).1];exact hj) i0 u0
  have i1:=jam (n:=(U 1).getD j 0) (by have:=(hU 1 (by omega)).2 j;omega)
  have u1:=zmul (fq_wq fr O 2 1) (jaD (n:=5) (z:=(U 1).getD j 0) (by have:=(hU 1 (by omega)).2 j;omega) (by omega)) (by decide) (by decide) (by decide)
  have m1:=prod3_1 (fun k=>txq (wqN rq O 2 k)) (fun k=>txq (wqN rq O 2 k*(((U k).getD j 0:Int):Rat))) U j _ _ (by rw[(hU 1 (by omega)).1];exact hj) i1 u1
  have i2:=jam (n:=(U 2).getD j 0) (by have:=(hU 2 (by omega)).2 j;omega)
  have u2:=zmul (fq_wq fr O 2 2) (jaD (n:=5) (z:=(U 2).getD j 0) (by have:=(hU 2 (by omega)).2 j;omega) (by omega)) (by decide) (by decide) (by decide)
  have m2:=prod3_2 (fun k=>txq (wqN rq O 2 k)) (fun k=>txq (wqN rq O 2 k*(((U k).getD j 0:Int):Rat))) U j _ _ (by rw[(hU 2 (by omega)).1];exact hj) i2 u2
  have li:=list3_3 (fun k=>txq (wqN rq O 2 k*(((U k).getD j 0:Int):Rat))) m0 m1 m2
  have s0:Fq 92 (smF (fun k=>wqN rq O 2 k*(((U k).getD j 0:Int):Rat)) 0):=fm 0 (by omega)
  have s1:Fq 185 (smF (fun k=>wqN rq O 2 k*(((U k).getD j 0:Int):Rat)) 1):=s0.add (fm 1 (by omega))
  have s2:Fq 278 (smF (fun k=>wqN rq O 2 k*(((U k).getD j 0:Int):Rat)) 2):=s1.add (fm 2 (by omega))
  have su:=sum3 (fun k=>txq (wqN rq O 2 k*(((U k).getD j 0:Int):Rat))) (fun k=>txq (smF (fun k=>wqN rq O 2 k*(((U k).getD j 0:Int):Rat)) k)) rfl (zadd s0 (fm 1 (by omega)) (by decide) (by decide) (by decide)) (zadd s1 (fm 2 (by omega)) (by decide) (by decide) (by decide))
  have dv:=zdiv s2 (jaD (n:=5) (z:=65535) jaF (by decide)) ja6 (by decide) (by decide) (by decide)
  rw[show ((65535:Int):Rat)=65535 from rfl] at fu dv
  exact val1_3 (fun k=>txq (wqN rq O 2 k)) (fun k=>txq (wqN rq O 2 k*(((U k).getD j 0:Int):Rat))) (fun k=>txq (smF (fun k=>wqN rq O 2 k*(((U k).getD j 0:Int):Rat)) k)) U j _ _ _ _ li su fu dv
 refine value2_t z0 z1 b0 b1 out data O (fun k=>txq (wqN rq O 2 k)) U _ _ hl hx hi pt ?_
 have h4:out=1∨out=2∨out=3∨out=4:=by omega
 rcases h4 with e|e|e|e<;>subst e
 ·exact jhK (z:=0) (fun j=>txq (smF (fun k=>wqN rq O 2 k*(((U k).getD j 0:Int):Rat)) 2/65535)) (v1 0 (by decide))
 ·exact jhJ (z:=0) (fun j=>txq (smF (fun k=>wqN rq O 2 k*(((U k).getD j 0:Int):Rat)) 2/65535)) (v1 0 (by decide)) (v1 1 (by decide))
 ·exact jhI (z:=0) (fun j=>txq (smF (fun k=>wqN rq O 2 k*(((U k).getD j 0:Int):Rat)) 2/65535)) (v1 0 (by decide)) (v1 1 (by decide)) (v1 2 (by decide))
 ·exact jhH (z:=0) (fun j=>txq (smF (fun k=>wqN rq O 2 k*(((U k).getD j 0:Int):Rat)) 2/65535)) (v1 0 (by decide)) (v1 1 (by decide)) (v1 2 (by decide)) (v1 3 (by decide))
theorem valU3 (z0 z1 z2 b0 b1 b2 out:Int)(data O:List Int)(rq:Nat→Rat)(fr:∀ k,Fq 43 (rq k))(U:Nat→List Int)(ho:1≤out∧out≤4)(hU:∀ k,k<4→(U k).length=out.toNat ∧ ∀ j,0≤(U k).getD j 0∧(U k).getD j 0≤65535)(hl:O.length=3)(hx:∀ k,k<3→0≤O.getD k 0∧O.getD k 0<4)(hi:∀ k,k<3→InR .i64 ((atK [b0,b1,b2,0] O k).getD (O.getD k 0).toNat 0+1))
  (pt:∀ k,k<4→Cl 80 [.agg [.ints .i64 [z0,z1,z2],.int .i64 out,.ints .i64 data,.ints .i64 [b0,b1,b2],.ints .i64 O,slQ (fun k=>txq (wqN rq O 3 k)) 4],.iarr .i64 (atK [b0,b1,b2,0] O k)] (.tup [.ints .i64 (U k),.int .i64 0])) :
  Cl 45 [.agg [.ints .i64 [z0,z1,z2],.int .i64 out,.ints .i64 data,.ints .i64 [b0,b1,b2],.ints .i64 O,slQ (fun k=>txq (wqN rq O 3 k)) 4]] (.tup [slQ (fun j=>txq (smF (fun k=>wqN rq O 3 k*(((U k).getD j 0:Int):Rat)) 3/65535)) out.toNat,.int .i64 0]):=by
 have v1:∀ j:Nat,j<out.toNat→Cl 83 [.int .i64 (j:Int),.ref [.slf 1 4 (fun j=>List.take 1 (List.drop (j*1) [.ints .i64 (U 0),.ints .i64 (U 1),.ints .i64 (U 2),.ints .i64 (U 3)]))],.ref [slQ (fun k=>txq (wqN rq O 3 k)) 4]] (.tup [frT (smF (fun k=>wqN rq O 3 k*(((U k).getD j 0:Int):Rat)) 3/65535),.int .i64 0]):=by
  intro j hj
  have fu:=jam (n:=65535) (by omega)
  have fm:∀ k,k<4→Fq 92 (wqN rq O 3 k*(((U k).getD j 0:Int):Rat)):=fun k hk=>(fq_wq fr O 3 k).mul (jaD (n:=5) (by have:=(hU k hk).2 j;omega) (by omega))
  have i0:=jam (n:=(U 0).getD j 0) (by have:=(hU 0 (by omega)).2 j;omega)
  have u0:=zmul (fq_wq fr O 3 0) (jaD (n:=5) (z:=(U 0).getD j 0) (by have:=(hU 0 (by omega)).2 j;omega) (by omega)) (by decide) (by decide) (by decide)
  have m0:=prod4_0 (fun k=>txq (wqN rq O 3 k)) (fun k=>txq (wqN rq O 3 k*(((U k).getD j 0:Int):Rat))) U j _ _ (by rw[(hU 0 (by omega)).1];exact hj) i0 u0
  have i1:=jam (n:=(U 1).getD j 0) (by have:=(hU 1 (by omega)).2 j;omega)
  have u1:=zmul (fq_wq fr O 3 1) (jaD (n:=5) (z:=(U 1).getD j 0) (by have:=(hU 1 (by omega)).2 j;omega) (by omega)) (by decide) (by decide) (by decide)
  have m1:=prod4_1 (fun k=>txq (wqN rq O 3 k)) (fun k=>txq (wqN rq O 3 k*(((U k).getD j 0:Int):Rat))) U j _ _ (by rw[(hU 1 (by omega)).1];exact hj) i1 u1
  have i2:=jam (n:=(U 2).getD j 0) (by have:=(hU 2 (by omega)).2 j;omega)
  have u2:=zmul (fq_wq fr O 3 2) (jaD (n:=5) (z:=(U 2).getD j 0) (by have:=(hU 2 (by omega)).2 j;omega) (by omega)) (by decide) (by decide) (by decide)
  have m2:=prod4_2 (fun k=>txq (wqN rq O 3 k)) (fun k=>txq (wqN rq O 3 k*(((U k).getD j 0:Int):Rat))) U j _ _ (by rw[(hU 2 (by omega)).1];exact hj) i2 u2
  have i3:=jam (n:=(U 3).getD j 0) (by have:=(hU 3 (by omega)).2 j;omega)
  have u3:=zmul (fq_wq fr O 3 3) (jaD (n:=5) (z:=(U 3).getD j 0) (by have:=(hU 3 (by omega)).2 j;omega) (by omega)) (by decide) (by decide) (by decide)
  have m3:=prod4_3 (fun k=>txq (wqN rq O 3 k)) (fun k=>txq (wqN rq O 3 k*(((U k).getD j 0:Int):Rat))) U j _ _ (by rw[(hU 3 (by omega)).1];exact hj) i3 u3
  have li:=list4_3 (fun k=>txq (wqN rq O 3 k*(((U k).getD j 0:Int):Rat))) m0 m1 m2 m3
  have s0:Fq 92 (smF (fun k=>wqN rq O 3 k*(((U k).getD j 0:Int):Rat)) 0):=fm 0 (by omega)
  have s1:Fq 185 (smF (fun k=>wqN rq O 3 k*(((U k).getD j 0:Int):Rat)) 1):=s0.add (fm 1 (by omega))
  have s2:Fq 278 (smF (fun k=>wqN rq O 3 k*(((U k).getD j 0:Int):Rat)) 2):=s1.add (fm 2 (by omega))
  have s3:Fq 371 (smF (fun k=>wqN rq O 3 k*(((U k).getD j 0:Int):Rat)) 3):=s2.add (fm 3 (by omega))
  have su:=sum4 (fun k=>txq (wqN rq O 3 k*(((U k).getD j 0:Int):Rat))) (fun k=>txq (smF (fun k=>wqN rq O 3 k*(((U k).getD j 0:Int):Rat)) k)) rfl (zadd s0 (fm 1 (by omega)) (by decide) (by decide) (by decide)) (zadd s1 (fm 2 (by omega)) (by decide) (by decide) (by decide)) (zadd s2 (fm 3 (by omega)) (by decide) (by decide) (by decide))
  have dv:=zdiv s3 (jaD (n:=5) (z:=65535) jaF (by decide)) ja6 (by decide) (by decide) (by decide)
  rw[show ((65535:Int):Rat)=65535 from rfl] at fu dv
  exact val1_4 (fun k=>txq (wqN rq O 3 k)) (fun k=>txq (wqN rq O 3 k*(((U k).getD j 0:Int):Rat))) (fun k=>txq (smF (fun k=>wqN rq O 3 k*(((U k).getD j 0:Int):Rat)) k)) U j _ _ _ _ li su fu dv
 refine value3_t z0 z1 z2 b0 b1 b2 out data O (fun k=>txq (wqN rq O 3 k)) U _ _ hl hx hi pt ?_
 have h4:out=1∨out=2∨out=3∨out=4:=by omega
 rcases h4 with e|e|e|e<;>subst e
 ·exact jhK (z:=0) (fun j=>txq (smF (fun k=>wqN rq O 3 k*(((U k).getD j 0:Int):Rat)) 3/65535)) (v1 0 (by decide))
 ·exact jhJ (z:=0) (fun j=>txq (smF (fun k=>wqN rq O 3 k*(((U k).getD j 0:Int):Rat)) 3/65535)) (v1 0 (by decide)) (v1 1 (by decide))
 ·exact jhI (z:=0) (fun j=>txq (smF (fun k=>wqN rq O 3 k*(((U k).getD j 0:Int):Rat)) 3/65535)) (v1 0 (by decide)) (v1 1 (by decide)) (v1 2 (by decide))
 ·exact jhH (z:=0) (fun j=>txq (smF (fun k=>wqN rq O 3 k*(((U k).getD j 0:Int):Rat)) 3/65535)) (v1 0 (by decide)) (v1 1 (by decide)) (v1 2 (by decide)) (v1 3 (by decide))
theorem pad2 (a b c d e:Rat):a+b+(c-0)*d+0*e=a+b+c*d:=by grind
theorem pad1 (a c d e f:Rat):a+(c-0)*d+(0-0)*e+0*f=a+c*d:=by grind
theorem inr9 {z:Int}(h:0≤z∧z≤100):InR .i64 z:=⟨by show (-9223372036854775808:Int)≤z;omega,by show z≤9223372036854775807;omega⟩
theorem corn1 {O:List Int}(h:O=[0])(b0:Int):O.length=1∧(∀ k,k<1→0≤O.getD k 0∧O.getD k 0<4) ∧ ∀ k,k<2 → ∃ i0:Int,atK [b0,0,0,0] O k=[i0,0,0,0]∧b0≤i0∧i0≤b0+1:=by
 subst h
 ·refine⟨rfl,fun k hk=>?_,fun k hk=>?_⟩
  ·have h:k=0:=by omega
   subst h
   decide
  ·have h:k=0∨k=1:=by omega
   rcases h with rfl|rfl
   ·exact⟨b0,rfl,by omega⟩
   ·exact⟨b0+1,rfl,by omega⟩
theorem ev1_sm {x0:Rat}{z0:Int}(s0:2≤z0)(out:Int)(data:List Int)(j:Nat):evQ [z0] out data x0 0 0 j=smF (fun k=>wqN (rqN (spR z0 x0) 0 0) [0] 1 k*(((slot data (pz ([z0].zip ((atK [spB z0 x0,0,0,0] [0] k).take 1))*out) out).getD j 0:Int):Rat)) 1/65535:=by
 unfold evQ
 refine congrArg (· / 65535) ?_
 show evF z0 2 2 (gvF [z0] out data j) x0 0 0=_
 unfold evF
 rw[sp_20.1,sp_20.2,ord3_10 (spR_nn s0 x0)]
 all_goals exact pad1 _ _ _ _ _
theorem valq1 {x0:Rat}{z0 out:Int}{data:List Int}(hg:jaj [z0] out data=true)(h0:Fq 40 x0) :
  Cl 45 [.agg [.ints .i64 [z0],.int .i64 out,.ints .i64 data,.ints .i64 [spB z0 x0],.ints .i64 [0],slQ (fun k=>txq (wqN (rqN (spR z0 x0) 0 0) [0] 1 k)) 2]] (.tup [slQ (fun j=>txq (evQ [z0] out data x0 0 0 j)) out.toNat,.int .i64 0]):=by
 have og:=jap hg
 have s0:=og.2.1 z0 (by simp)
 have f0:=jbp h0 (by decide) s0
 have b0:=jdX s0.1 x0
 have fr:∀ k,Fq 43 (rqN (spR z0 x0) 0 0 k):=fq_rq f0 jcr jcr
 obtain⟨ol,ox,oc⟩:=corn1 (O:=[0]) rfl (spB z0 x0)
 have oi:∀ k,k<2→okIdx [z0] ((atK [spB z0 x0,0,0,0] [0] k).take 1)=true:=by
  intro k hk
  obtain⟨i0,e,hh⟩:=oc k hk
  rw[e]
  simp[okIdx]
  omega
 have g:=valU1 z0 (spB z0 x0) out data [0] (rqN (spR z0 x0) 0 0) fr (fun k=>slot data (pz ([z0].zip ((atK [spB z0 x0,0,0,0] [0] k).take 1))*out) out) og.1 (fun k hk=>⟨jc4 hg (oi k hk),jbM og.2.2.2 _ _⟩) ol ox (fun k hk=>?_) (fun k hk=>?_)
 ·rw[show (fun j=>txq (evQ [z0] out data x0 0 0 j))=_ from funext fun j=>congrArg txq (ev1_sm s0.1 out data j)]
  exact g
 ·obtain⟨i0,e,hh⟩:=oc k (by omega)
  rw[e]
  refine inr9 ?_
  have:=jaO (l:=[i0,0,0,0]) (p:=fun v=>0≤v∧v≤9) (by intro v hv;simp only[ji7,List.not_mem_nil,or_false] at hv;omega) (by omega) (([0]:List Int).getD k 0).toNat
  omega
 ·exact point1_t z0 (spB z0 x0) out data _ _ _ (fun k=>txq (wqN (rqN (spR z0 x0) 0 0) [0] 1 k)) (ja1 _ _ k rfl) (gat_at hg (oi k hk) (by simp) (by rw[jjb];omega))
theorem corn2 {O:List Int}(h:O=[0,1]∨O=[1,0])(b0 b1:Int):O.length=2∧(∀ k,k<2→0≤O.getD k 0∧O.getD k 0<4) ∧ ∀ k,k<3 → ∃ i0 i1:Int,atK [b0,b1,0,0] O k=[i0,i1,0,0]∧b0≤i0∧i0≤b0+1∧b1≤i1∧i1≤b1+1:=by
 rcases h with rfl|rfl
 ·refine⟨rfl,fun k hk=>?_,fun k hk=>?_⟩
  ·have h:k=0∨k=1:=by omega
   rcases h with rfl|rfl<;>decide
  ·have h:k=0∨k=1∨k=2:=by omega
   rcases h with rfl|rfl|rfl
   ·exact⟨b0,b1,rfl,by omega⟩
   ·exact⟨b0+1,b1,rfl,by omega⟩
   ·exact⟨b0+1,b1+1,rfl,by omega⟩
 ·refine⟨rfl,fun k hk=>?_,fun k hk=>?_⟩
  ·have h:k=0∨k=1:=by omega
   rcases h with rfl|rfl<;>decide
  ·have h:k=0∨k=1∨k=2:=by omega
   rcases h with rfl|rfl|rfl
   ·exact⟨b0,b1,rfl,by omega⟩
   ·exact⟨b0,b1+1,rfl,by omega⟩
   ·exact⟨b0+1,b1+1,rfl,by omega⟩
theorem ev2_sm {x0 x1:Rat}{z0 z1:Int}(s0:2≤z0)(s1:2≤z1)(out:Int)(data:List Int)(j:Nat):evQ [z0,z1] out data x0 x1 0 j=smF (fun k=>wqN (rqN (spR z0 x0) (spR z1 x1) 0) (ord2 (spR z0 x0) (spR z1 x1)) 2 k*(((slot data (pz ([z0,z1].zip ((atK [spB z0 x0,spB z1 x1,0,0] (ord2 (spR z0 x0) (spR z1 x1)) k).take 2))*out) out).getD j 0:Int):Rat)) 2/65535:=by
 unfold evQ
 refine congrArg (· / 65535) ?_
 show evF z0 z1 2 (gvF [z0,z1] out data j) x0 x1 0=_
 unfold evF
 rw[sp_20.1,sp_20.2,ord3_20 (spR_nn s0 x0) (spR_nn s1 x1)]
 rcases ord2_mem (spR z0 x0) (spR z1 x1) with e|e
 all_goals rw[e]
 all_goals exact pad2 _ _ _ _ _
theorem valq2 {x0 x1:Rat}{z0 z1 out:Int}{data:List Int}(hg:jaj [z0,z1] out data=true)(h0:Fq 40 x0)(h1:Fq 40 x1) :
  Cl 45 [.agg [.ints .i64 [z0,z1],.int .i64 out,.ints .i64 data,.ints .i64 [spB z0 x0,spB z1 x1],.ints .i64 (ord2 (spR z0 x0) (spR z1 x1)),slQ (fun k=>txq (wqN (rqN (spR z0 x0) (spR z1 x1) 0) (ord2 (spR z0 x0) (spR z1 x1)) 2 k)) 3]] (.tup [slQ (fun j=>txq (evQ [z0,z1] out data x0 x1 0 j)) out.toNat,.int .i64 0]):=by
 have og:=jap hg
 have s0:=og.2.1 z0 (by simp)
 have f0:=jbp h0 (by decide) s0
 have b0:=jdX s0.1 x0
 have s1:=og.2.1 z1 (by simp)
 have f1:=jbp h1 (by decide) s1
 have b1:=jdX s1.1 x1
 have fr:∀ k,Fq 43 (rqN (spR z0 x0) (spR z1 x1) 0 k):=fq_rq f0 f1 jcr
 obtain⟨ol,ox,oc⟩:=corn2 (O:=(ord2 (spR z0 x0) (spR z1 x1))) (ord2_mem _ _) (spB z0 x0) (spB z1 x1)
 have oi:∀ k,k<3→okIdx [z0,z1] ((atK [spB z0 x0,spB z1 x1,0,0] (ord2 (spR z0 x0) (spR z1 x1)) k).take 2)=true:=by
  intro k hk
  obtain⟨i0,i1,e,hh⟩:=oc k hk
  rw[e]
  simp[okIdx]
  omega
 have g:=valU2 z0 z1 (spB z0 x0) (spB z1 x1) out data (ord2 (spR z0 x0) (spR z1 x1)) (rqN (spR z0 x0) (spR z1 x1) 0) fr (fun k=>slot data (pz ([z0,z1].zip ((atK [spB z0 x0,spB z1 x1,0,0] (ord2 (spR z0 x0) (spR z1 x1)) k).take 2))*out) out) og.1 (fun k hk=>⟨jc4 hg (oi k hk),jbM og.2.2.2 _ _⟩) ol ox (fun k hk=>?_) (fun k hk=>?_)
 ·rw[show (fun j=>txq (evQ [z0,z1] out data x0 x1 0 j))=_ from funext fun j=>congrArg txq (ev2_sm s0.1 s1.1 out data j)]
  exact g
 ·obtain⟨i0,i1,e,hh⟩:=oc k (by omega)
  rw[e]
  refine inr9 ?_
  have:=jaO (l:=[i0,i1,0,0]) (p:=fun v=>0≤v∧v≤9) (by intro v hv;simp only[ji7,List.not_mem_nil,or_false] at hv;omega) (by omega) (((ord2 (spR z0 x0) (spR z1 x1)):List Int).getD k 0).toNat
  omega
 ·exact point2_t z0 z1 (spB z0 x0) (spB z1 x1) out data _ _ _ (fun k=>txq (wqN (rqN (spR z0 x0) (spR z1 x1) 0) (ord2 (spR z0 x0) (spR z1 x1)) 2 k)) (ja1 _ _ k rfl) (gat_at hg (oi k hk) (by simp) (by rw[jjb];omega))
theorem corn3 {O:List Int}(h:O=[0,1,2]∨O=[0,2,1]∨O=[1,0,2]∨O=[1,2,0]∨O=[2,0,1]∨O=[2,1,0])(b0 b1 b2:Int):O.length=3∧(∀ k,k<3→0≤O.getD k 0∧O.getD k 0<4) ∧ ∀ k,k<4 → ∃ i0 i1 i2:Int,atK [b0,b1,b2,0] O k=[i0,i1,i2,0]∧b0≤i0∧i0≤b0+1∧b1≤i1∧i1≤b1+1∧b2≤i2∧i2≤b2+1:=by
 rcases h with rfl|rfl|rfl|rfl|rfl|rfl
 ·refine⟨rfl,fun k hk=>?_,fun k hk=>?_⟩
  ·have h:k=0∨k=1∨k=2:=by omega
   rcases h with rfl|rfl|rfl<;>decide
  ·have h:k=0∨k=1∨k=2∨k=3:=by omega
   rcases h with rfl|rfl|rfl|rfl
   ·exact⟨b0,b1,b2,rfl,by omega⟩
   ·exact⟨b0+1,b1,b2,rfl,by omega⟩
   ·exact⟨b0+1,b1+1,b2,rfl,by omega⟩
   ·exact⟨b0+1,b1+1,b2+1,rfl,by omega⟩
 ·refine⟨rfl,fun k hk=>?_,fun k hk=>?_⟩
  ·have h:k=0∨k=1∨k=2:=by omega
   rcases h with rfl|rfl|rfl<;>decide
  ·have h:k=0∨k=1∨k=2∨k=3:=by omega
   rcases h with rfl|rfl|rfl|rfl
   ·exact⟨b0,b1,b2,rfl,by omega⟩
   ·exact⟨b0+1,b1,b2,rfl,by omega⟩
   ·exact⟨b0+1,b1,b2+1,rfl,by omega⟩
   ·exact⟨b0+1,b1+1,b2+1,rfl,by omega⟩
 ·refine⟨rfl,fun k hk=>?_,fun k hk=>?_⟩
  ·have h:k=0∨k=1∨k=2:=by omega
   rcases h with rfl|rfl|rfl<;>decide
  ·have h:k=0∨k=1∨k=2∨k=3:=by omega
   rcases h with rfl|rfl|rfl|rfl
   ·exact⟨b0,b1,b2,rfl,by omega⟩
   ·exact⟨b0,b1+1,b2,rfl,by omega⟩
   ·exact⟨b0+1,b1+1,b2,rfl,by omega⟩
   ·exact⟨b0+1,b1+1,b2+1,rfl,by omega⟩
 ·refine⟨rfl,fun k hk=>?_,fun k hk=>?_⟩
  ·have h:k=0∨k=1∨k=2:=by omega
   rcases h with rfl|rfl|rfl<;>decide
  ·have h:k=0∨k=1∨k=2∨k=3:=by omega
   rcases h with rfl|rfl|rfl|rfl
   ·exact⟨b0,b1,b2,rfl,by omega⟩
   ·exact⟨b0,b1+1,b2,rfl,by omega⟩
   ·exact⟨b0,b1+1,b2+1,rfl,by omega⟩
   ·exact⟨b0+1,b1+1,b2+1,rfl,by omega⟩
 ·refine⟨rfl,fun k hk=>?_,fun k hk=>?_⟩
  ·have h:k=0∨k=1∨k=2:=by omega
   rcases h with rfl|rfl|rfl<;>decide
  ·have h:k=0∨k=1∨k=2∨k=3:=by omega
   rcases h with rfl|rfl|rfl|rfl
   ·exact⟨b0,b1,b2,rfl,by omega⟩
   ·exact⟨b0,b1,b2+1,rfl,by omega⟩
   ·exact⟨b0+1,b1,b2+1,rfl,by omega⟩
   ·exact⟨b0+1,b1+1,b2+1,rfl,by omega⟩
 ·refine⟨rfl,fun k hk=>?_,fun k hk=>?_⟩
  ·have h:k=0∨k=1∨k=2:=by omega
   rcases h with rfl|rfl|rfl<;>decide
  ·have h:k=0∨k=1∨k=2∨k=3:=by omega
   rcases h with rfl|rfl|rfl|rfl
   ·exact⟨b0,b1,b2,rfl,by omega⟩
   ·exact⟨b0,b1,b2+1,rfl,by omega⟩
   ·exact⟨b0,b1+1,b2+1,rfl,by omega⟩
   ·exact⟨b0+1,b1+1,b2+1,rfl,by omega⟩
theorem ev3_sm {x0 x1 x2:Rat}{z0 z1 z2:Int}(s0:2≤z0)(s1:2≤z1)(s2:2≤z2)(out:Int)(data:List Int)(j:Nat):evQ [z0,z1,z2] out data x0 x1 x2 j=smF (fun k=>wqN (rqN (spR z0 x0) (spR z1 x1) (spR z2 x2)) (ord3 (spR z0 x0) (spR z1 x1) (spR z2 x2)) 3 k*(((slot data (pz ([z0,z1,z2].zip ((atK [spB z0 x0,spB z1 x1,spB z2 x2,0] (ord3 (spR z0 x0) (spR z1 x1) (spR z2 x2)) k).take 3))*out) out).getD j 0:Int):Rat)) 3/65535:=by
 unfold evQ
 refine congrArg (· / 65535) ?_
 show evF z0 z1 z2 (gvF [z0,z1,z2] out data j) x0 x1 x2=_
 unfold evF
 rcases ord3_mem (spR z0 x0) (spR z1 x1) (spR z2 x2) with e|e|e|e|e|e
 all_goals rw[e]
 all_goals exact rfl
theorem valq3 {x0 x1 x2:Rat}{z0 z1 z2 out:Int}{data:List Int}(hg:jaj [z0,z1,z2] out data=true)(h0:Fq 40 x0)(h1:Fq 40 x1)(h2:Fq 40 x2) :
  Cl 45 [.agg [.ints .i64 [z0,z1,z2],.int .i64 out,.ints .i64 data,.ints .i64 [spB z0 x0,spB z1 x1,spB z2 x2],.ints .i64 (ord3 (spR z0 x0) (spR z1 x1) (spR z2 x2)),slQ (fun k=>txq (wqN (rqN (spR z0 x0) (spR z1 x1) (spR z2 x2)) (ord3 (spR z0 x0) (spR z1 x1) (spR z2 x2)) 3 k)) 4]] (.tup [slQ (fun j=>txq (evQ [z0,z1,z2] out data x0 x1 x2 j)) out.toNat,.int .i64 0]):=by
 have og:=jap hg
 have s0:=og.2.1 z0 (by simp)
 have f0:=jbp h0 (by decide) s0
 have b0:=jdX s0.1 x0
 have s1:=og.2.1 z1 (by simp)
 have f1:=jbp h1 (by decide) s1
 have b1:=jdX s1.1 x1
 have s2:=og.2.1 z2 (by simp)
 have f2:=jbp h2 (by decide) s2
 have b2:=jdX s2.1 x2
 have fr:∀ k,Fq 43 (rqN (spR z0 x0) (spR z1 x1) (spR z2 x2) k):=fq_rq f0 f1 f2
 obtain⟨ol,ox,oc⟩:=corn3 (O:=(ord3 (spR z0 x0) (spR z1 x1) (spR z2 x2))) (ord3_mem _ _ _) (spB z0 x0) (spB z1 x1) (spB z2 x2)
 have oi:∀ k,k<4→okIdx [z0,z1,z2] ((atK [spB z0 x0,spB z1 x1,spB z2 x2,0] (ord3 (spR z0 x0) (spR z1 x1) (spR z2 x2)) k).take 3)=true:=by
  intro k hk
  obtain⟨i0,i1,i2,e,hh⟩:=oc k hk
  rw[e]
  simp[okIdx]
  omega
 have g:=valU3 z0 z1 z2 (spB z0 x0) (spB z1 x1) (spB z2 x2) out data (ord3 (spR z0 x0) (spR z1 x1) (spR z2 x2)) (rqN (spR z0 x0) (spR z1 x1) (spR z2 x2)) fr (fun k=>slot data (pz ([z0,z1,z2].zip ((atK [spB z0 x0,spB z1 x1,spB z2 x2,0] (ord3 (spR z0 x0) (spR z1 x1) (spR z2 x2)) k).take 3))*out) out) og.1 (fun k hk=>⟨jc4 hg (oi k hk),jbM og.2.2.2 _ _⟩) ol ox (fun k hk=>?_) (fun k hk=>?_)
 ·rw[show (fun j=>txq (evQ [z0,z1,z2] out data x0 x1 x2 j))=_ from funext fun j=>congrArg txq (ev3_sm s0.1 s1.1 s2.1 out data j)]
  exact g
 ·obtain⟨i0,i1,i2,e,hh⟩:=oc k (by omega)
  rw[e]
  refine inr9 ?_
  have:=jaO (l:=[i0,i1,i2,0]) (p:=fun v=>0≤v∧v≤9) (by intro v hv;simp only[ji7,List.not_mem_nil,or_false] at hv;omega) (by omega) (((ord3 (spR z0 x0) (spR z1 x1) (spR z2 x2)):List Int).getD k 0).toNat
  omega
 ·exact point3_t z0 z1 z2 (spB z0 x0) (spB z1 x1) (spB z2 x2) out data _ _ _ (fun k=>txq (wqN (rqN (spR z0 x0) (spR z1 x1) (spR z2 x2)) (ord3 (spR z0 x0) (spR z1 x1) (spR z2 x2)) 3 k)) (ja1 _ _ k rfl) (gat_at hg (oi k hk) (by simp) (by rw[jjb];omega))
theorem zX20_0:type_of% @jiA∧type_of% @tn0∧type_of% @tn1∧type_of% @tn2∧type_of% @tn3∧type_of% @xt4:=⟨@jiA,@tn0,@tn1,@tn2,@tn3,@xt4⟩
theorem loc1_t (z0 out:Int)(data B O:List Int)(X:Nat→Tx)(m:Nat)(F:Nat→List D)(ck:Cl 37 [.agg [.ints .i64 [z0],.int .i64 out,.ints .i64 data]] (.int .i64 0))(fc:∀ k,k<1→Cl 78 [.agg [.str (X k).1,.str (X k).2]] (.int .i64 0))(fi:Cl 79 [.agg [.ints .i64 [z0],.int .i64 out,.ints .i64 data],V.sl2 1 [.str (X 0).1,.str (X 0).2]] (.tup [.agg [.ints .i64 [z0],.int .i64 out,.ints .i64 data,.ints .i64 B,.ints .i64 O,.slf 2 m F],.int .i64 0])) :
  Cl 44 [.agg [.ints .i64 [z0],.int .i64 out,.ints .i64 data],V.sl2 1 [.str (X 0).1,.str (X 0).2]] (.tup [.agg [.ints .i64 [z0],.int .i64 out,.ints .i64 data,.ints .i64 B,.ints .i64 O,.slf 2 m F],.int .i64 0]):=by
 refine V.en tbOk Tryz.func44 ?_
 refine V.r1 @jiA ck ?_
 refine Cnd.split (CondB.mk (fun h=>absurd h (by simp)) (fun _=>?_))
 refine V.r0 @jiA ?_
 refine jac (0) (fun k=>k≤1) (fun k=>1-k) (fun k=>[(25,.int .i64 k)]) (fun k=>[]) ?_ ?_ ?_
 ·exact V.wk
 ·exact jiv _
 intro k hk
 have hk4:k=0∨k=1:=by omega
 rcases hk4 with e|e
 all_goals subst e
 ·simp only[k0]
  have c:=fc 0 (by omega)
  refine V.r1 (V.a3 zX20_0 @Bool.false_eq_true @if_false.{1}) c ?_
  exact⟨1,by omega,by omega,V.wk⟩
 ·simp only[k1]
  refine V.r1 @jiA fi ?_
  exact Fin.of rfl
theorem loc2_t (z0 z1 out:Int)(data B O:List Int)(X:Nat→Tx)(m:Nat)(F:Nat→List D)(ck:Cl 37 [.agg [.ints .i64 [z0,z1],.int .i64 out,.ints .i64 data]] (.int .i64 0))(fc:∀ k,k<2→Cl 78 [.agg [.str (X k).1,.str (X k).2]] (.int .i64 0))(fi:Cl 79 [.agg [.ints .i64 [z0,z1],.int .i64 out,.ints .i64 data],V.sl2 2 [.str (X 0).1,.str (X 0).2,.str (X 1).1,.str (X 1).2]] (.tup [.agg [.ints .i64 [z0,z1],.int .i64 out,.ints .i64 data,.ints .i64 B,.ints .i64 O,.slf 2 m F],.int .i64 0])) :
  Cl 44 [.agg [.ints .i64 [z0,z1],.int .i64 out,.ints .i64 data],V.sl2 2 [.str (X 0).1,.str (X 0).2,.str (X 1).1,.str (X 1).2]] (.tup [.agg [.ints .i64 [z0,z1],.int .i64 out,.ints .i64 data,.ints .i64 B,.ints .i64 O,.slf 2 m F],.int .i64 0]):=by
 refine V.en tbOk Tryz.func44 ?_
 refine V.r1 @jiA ck ?_
 refine Cnd.split (CondB.mk (fun h=>absurd h (by simp)) (fun _=>?_))
 refine V.r0 @jiA ?_
 refine jac (0) (fun k=>k≤2) (fun k=>2-k) (fun k=>[(25,.int .i64 k)]) (fun k=>[]) ?_ ?_ ?_
 ·exact V.wk
 ·exact jiv _
 intro k hk
 have hk4:k=0∨k=1∨k=2:=by omega
 rcases hk4 with e|e|e
 all_goals subst e
 ·simp only[k0]
  have c:=fc 0 (by omega)
  refine V.r1 (V.a3 zX20_0 @Bool.false_eq_true @if_false.{1}) c ?_
  exact⟨1,by omega,by omega,V.wk⟩
 ·simp only[k1]
  have c:=fc 1 (by omega)
  refine V.r1 (V.a3 zX20_0 @Bool.false_eq_true @if_false.{1}) c ?_
  exact⟨2,by omega,by omega,V.wk⟩
 ·simp only[k2]
  refine V.r1 @jiA fi ?_
  exact Fin.of rfl
theorem loc3_t (z0 z1 z2 out:Int)(data B O:List Int)(X:Nat→Tx)(m:Nat)(F:Nat→List D)(ck:Cl 37 [.agg [.ints .i64 [z0,z1,z2],.int .i64 out,.ints .i64 data]] (.int .i64 0))(fc:∀ k,k<3→Cl 78 [.agg [.str (X k).1,.str (X k).2]] (.int .i64 0))(fi:Cl 79 [.agg [.ints .i64 [z0,z1,z2],.int .i64 out,.ints .i64 data],V.sl2 3 [.str (X 0).1,.str (X 0).2,.str (X 1).1,.str (X 1).2,.str (X 2).1,.str (X 2).2]] (.tup [.agg [.ints .i64 [z0,z1,z2],.int .i64 out,.ints .i64 data,.ints .i64 B,.ints .i64 O,.slf 2 m F],.int .i64 0])) :
  Cl 44 [.agg [.ints .i64 [z0,z1,z2],.int .i64 out,.ints .i64 data],V.sl2 3 [.str (X 0).1,.str (X 0).2,.str (X 1).1,.str (X 1).2,.str (X 2).1,.str (X 2).2]] (.tup [.agg [.ints .i64 [z0,z1,z2],.int .i64 out,.ints .i64 data,.ints .i64 B,.ints .i64 O,.slf 2 m F],.int .i64 0]):=by
 refine V.en tbOk Tryz.func44 ?_
 refine V.r1 @jiA ck ?_
 refine Cnd.split (CondB.mk (fun h=>absurd h (by simp)) (fun _=>?_))
 refine V.r0 @jiA ?_
 refine jac (0) (fun k=>k≤3) (fun k=>3-k) (fun k=>[(25,.int .i64 k)]) (fun k=>[]) ?_ ?_ ?_
 ·exact V.wk
 ·exact jiv _
 intro k hk
 have hk4:k=0∨k=1∨k=2∨k=3:=by omega
 rcases hk4 with e|e|e|e
 all_goals subst e
 ·simp only[k0]
  have c:=fc 0 (by omega)
  refine V.r1 (V.a3 zX20_0 @Bool.false_eq_true @if_false.{1}) c ?_
  exact⟨1,by omega,by omega,V.wk⟩
 ·simp only[k1]
  have c:=fc 1 (by omega)
  refine V.r1 (V.a3 zX20_0 @Bool.false_eq_true @if_false.{1}) c ?_
  exact⟨2,by omega,by omega,V.wk⟩
 ·simp only[k2]
  have c:=fc 2 (by omega)
  refine V.r1 (V.a3 zX20_0 @Bool.false_eq_true @if_false.{1}) c ?_
  exact⟨3,by omega,by omega,V.wk⟩
 ·simp only[k3]
  refine V.r1 @jiA fi ?_
  exact Fin.of rfl
theorem eval_t (zs data B O:List Int)(out:Int)(n m e0:Nat)(X F Y:Nat→List D)(lo:Cl 44 [.agg [.ints .i64 zs,.int .i64 out,.ints .i64 data],.slf 2 n X] (.tup [.agg [.ints .i64 zs,.int .i64 out,.ints .i64 data,.ints .i64 B,.ints .i64 O,.slf 2 m F],.int .i64 0]))(va:Cl 45 [.agg [.ints .i64 zs,.int .i64 out,.ints .i64 data,.ints .i64 B,.ints .i64 O,.slf 2 m F]] (.tup [.slf 2 e0 Y,.int .i64 0])) :
  Cl 15 [.agg [.ints .i64 zs,.int .i64 out,.ints .i64 data],.slf 2 n X] (.tup [.slf 2 e0 Y,.int .i64 0]):=by
 refine V.en tbOk Tryz.func15 ?_
 refine V.r2 @jiA lo va ?_
 exact Fin.of rfl
theorem cell_t (zs data B O:List Int)(out:Int)(n m:Nat)(X F:Nat→List D)(lo:Cl 44 [.agg [.ints .i64 zs,.int .i64 out,.ints .i64 data],.slf 2 n X] (.tup [.agg [.ints .i64 zs,.int .i64 out,.ints .i64 data,.ints .i64 B,.ints .i64 O,.slf 2 m F],.int .i64 0])) :
  Cl 17 [.agg [.ints .i64 zs,.int .i64 out,.ints .i64 data],.slf 2 n X] (.tup [.ints .i64 B,.ints .i64 O,.slf 2 m F,.int .i64 0]):=by
 refine V.en tbOk Tryz.func17 ?_
 refine V.r1 @jiA lo ?_
 refine⟨(V.tk [0,1,2,3,4,5,6,7,8,9] .done),[],V.pok,?_⟩
 refine jab [(4,.ints .i64 B),(5,.ints .i64 O),(6,.slf 2 m F),(7,.int .i64 0)] [] ?_ ?_
 ·exact V.d0 @jiA
 refine V.r0 @jiA ?_
 exact Fin.of rfl
theorem loc_len (zs data:List Int)(out:Int)(n:Nat)(X:Nat→List D)(h:n≠zs.length)(ck:Cl 37 [.agg [.ints .i64 zs,.int .i64 out,.ints .i64 data]] (.int .i64 0)) :
  Cl 44 [.agg [.ints .i64 zs,.int .i64 out,.ints .i64 data],.slf 2 n X] (.tup [.agg [.nil,.int .i64 0,.nil,.nil,.nil,.nil],.int .i64 2]):=by
 refine V.en tbOk Tryz.func44 ?_
 refine V.r1 @jiA ck ?_
 refine Cnd.split (CondB.mk (fun _=>?_) (fun g=>absurd (decide_eq_true (show ((n:Int)≠(zs.length:Int)) from by omega)) (by rw[g];decide)))
 refine V.r0 @jiA ?_
 exact Fin.of rfl
theorem eval_e (zs data:List Int)(out e:Int)(he:e≠0)(n:Nat)(X:Nat→List D)(lo:Cl 44 [.agg [.ints .i64 zs,.int .i64 out,.ints .i64 data],.slf 2 n X] (.tup [.agg [.nil,.int .i64 0,.nil,.nil,.nil,.nil],.int .i64 e])) :
  Cl 15 [.agg [.ints .i64 zs,.int .i64 out,.ints .i64 data],.slf 2 n X] (.tup [.nil,.int .i64 e]):=by
 refine V.en tbOk Tryz.func15 ?_
 refine V.r1 @jiA lo ?_
 refine Cnd.split (CondB.mk (fun _=>?_) (fun g=>absurd (decide_eq_true he) (by rw[g];decide)))
 refine V.r0 @jiA ?_
 exact Fin.of rfl
theorem jcU {n:Nat}{q:Rat}(h:Fq n q)(h0:0<n∧n≤600):Cl 78 [frT q] (.int .i64 0):=by
 have o:=jbc (h.ok h0.1 h0.2)
 have b:=h.ok h0.1 h0.2
 unfold okF at b
 simp only[jit,decide_eq_true_eq] at b
 have c:=fcheck_c (decZ q.num) (dec q.den) (by unfold decZ;split<;>(try simp only[jji])<;>omega) (by omega)
 rw[o.1] at c
 exact c
theorem jbO {zs:List Int}{out:Int}{data:List Int}(hg:jaj zs out data=true)(hl:zs.length≤4):Cl 37 [gridD zs out data] (.int .i64 0):=by
 have o:=jap hg
 have c:=jfj zs out data (by omega) (by omega)
 rw[hg] at c
 exact c
theorem locq1 {x0:Rat}{z0 out:Int}{data:List Int}(hg:jaj [z0] out data=true)(h0:Fq 40 x0):Cl 44 [gridD [z0] out data,slQ (fun i=>txq (rqN x0 0 0 i)) 1] (.tup [.agg [.ints .i64 [z0],.int .i64 out,.ints .i64 data,.ints .i64 [spB z0 x0],.ints .i64 [0],slQ (fun k=>txq (wqN (rqN (spR z0 x0) 0 0) [0] 1 k)) 2],.int .i64 0]):=by
 have og:=jap hg
 have s0:=og.2.1 z0 (by simp)
 have fc:∀ k,k<1→Cl 78 [frT (rqN x0 0 0 k)] (.int .i64 0):=fun k hk=>by
  have h:k=0:=by omega
  subst h
  ·exact jcU h0 (by decide)
 exact loc1_t z0 out data _ _ (fun i=>txq (rqN x0 0 0 i)) _ _ (jbO hg (by simp)) fc (find1_q out data h0 s0)
theorem evalq1 {x0:Rat}{z0 out:Int}{data:List Int}(hg:jaj [z0] out data=true)(h0:Fq 40 x0):Cl 15 [gridD [z0] out data,slQ (fun i=>txq (rqN x0 0 0 i)) 1] (.tup [slQ (fun j=>txq (evQ [z0] out data x0 0 0 j)) out.toNat,.int .i64 0]):=
 eval_t _ _ _ _ _ _ _ _ _ _ _ (locq1 hg h0) (valq1 hg h0)
theorem locq2 {x0 x1:Rat}{z0 z1 out:Int}{data:List Int}(hg:jaj [z0,z1] out data=true)(h0:Fq 40 x0)(h1:Fq 40 x1):Cl 44 [gridD [z0,z1] out data,slQ (fun i=>txq (rqN x0 x1 0 i)) 2] (.tup [.agg [.ints .i64 [z0,z1],.int .i64 out,.ints .i64 data,.ints .i64 [spB z0 x0,spB z1 x1],.ints .i64 (ord2 (spR z0 x0) (spR z1 x1)),slQ (fun k=>txq (wqN (rqN (spR z0 x0) (spR z1 x1) 0) (ord2 (spR z0 x0) (spR z1 x1)) 2 k)) 3],.int .i64 0]):=by
 have og:=jap hg
 have s0:=og.2.1 z0 (by simp)
 have s1:=og.2.1 z1 (by simp)
 have fc:∀ k,k<2→Cl 78 [frT (rqN x0 x1 0 k)] (.int .i64 0):=fun k hk=>by
  have h:k=0∨k=1:=by omega
  rcases h with rfl|rfl
  ·exact jcU h0 (by decide)
  ·exact jcU h1 (by decide)
 exact loc2_t z0 z1 out data _ _ (fun i=>txq (rqN x0 x1 0 i)) _ _ (jbO hg (by simp)) fc (find2_q out data h0 h1 s0 s1)
theorem evalq2 {x0 x1:Rat}{z0 z1 out:Int}{data:List Int}(hg:jaj [z0,z1] out data=true)(h0:Fq 40 x0)(h1:Fq 40 x1):Cl 15 [gridD [z0,z1] out data,slQ (fun i=>txq (rqN x0 x1 0 i)) 2] (.tup [slQ (fun j=>txq (evQ [z0,z1] out data x0 x1 0 j)) out.toNat,.int .i64 0]):=
 eval_t _ _ _ _ _ _ _ _ _ _ _ (locq2 hg h0 h1) (valq2 hg h0 h1)
theorem cellq2 {x0 x1:Rat}{z0 z1 out:Int}{data:List Int}(hg:jaj [z0,z1] out data=true)(h0:Fq 40 x0)(h1:Fq 40 x1):Cl 17 [gridD [z0,z1] out data,slQ (fun i=>txq (rqN x0 x1 0 i)) 2] (.tup [.ints .i64 [spB z0 x0,spB z1 x1],.ints .i64 (ord2 (spR z0 x0) (spR z1 x1)),slQ (fun k=>txq (wqN (rqN (spR z0 x0) (spR z1 x1) 0) (ord2 (spR z0 x0) (spR z1 x1)) 2 k)) 3,.int .i64 0]):=
 cell_t _ _ _ _ _ _ _ _ _ (locq2 hg h0 h1)
theorem locq3 {x0 x1 x2:Rat}{z0 z1 z2 out:Int}{data:List Int}(hg:jaj [z0,z1,z2] out data=true)(h0:Fq 40 x0)(h1:Fq 40 x1)(h2:Fq 40 x2):Cl 44 [gridD [z0,z1,z2] out data,slQ (fun i=>txq (rqN x0 x1 x2 i)) 3] (.tup [.agg [.ints .i64 [z0,z1,z2],.int .i64 out,.ints .i64 data,.ints .i64 [spB z0 x0,spB z1 x1,spB z2 x2],.ints .i64 (ord3 (spR z0 x0) (spR z1 x1) (spR z2 x2)),slQ (fun k=>txq (wqN (rqN (spR z0 x0) (spR z1 x1) (spR z2 x2)) (ord3 (spR z0 x0) (spR z1 x1) (spR z2 x2)) 3 k)) 4],.int .i64 0]):=by
 have og:=jap hg
 have s0:=og.2.1 z0 (by simp)
 have s1:=og.2.1 z1 (by simp)
 have s2:=og.2.1 z2 (by simp)
 have fc:∀ k,k<3→Cl 78 [frT (rqN x0 x1 x2 k)] (.int .i64 0):=fun k hk=>by
  have h:k=0∨k=1∨k=2:=by omega
  rcases h with rfl|rfl|rfl
  ·exact jcU h0 (by decide)
  ·exact jcU h1 (by decide)
  ·exact jcU h2 (by decide)
 exact loc3_t z0 z1 z2 out data _ _ (fun i=>txq (rqN x0 x1 x2 i)) _ _ (jbO hg (by simp)) fc (find3_q out data h0 h1 h2 s0 s1 s2)
theorem evalq3 {x0 x1 x2:Rat}{z0 z1 z2 out:Int}{data:List Int}(hg:jaj [z0,z1,z2] out data=true)(h0:Fq 40 x0)(h1:Fq 40 x1)(h2:Fq 40 x2):Cl 15 [gridD [z0,z1,z2] out data,slQ (fun i=>txq (rqN x0 x1 x2 i)) 3] (.tup [slQ (fun j=>txq (evQ [z0,z1,z2] out data x0 x1 x2 j)) out.toNat,.int .i64 0]):=
 eval_t _ _ _ _ _ _ _ _ _ _ _ (locq3 hg h0 h1 h2) (valq3 hg h0 h1 h2)
def flU (x:Rat):Int:=(x*1000000000000).floor
def clU (x:Rat):Int := -((-(x*1000000000000)).floor)
theorem jgE (m:Int):unit m=(m:Rat)/1000000000000:=by
 unfold unit
 rw[Rat.divInt_eq_div]
 rfl
theorem jey {x:Rat}{m:Int} : unit m≤x↔(m:Rat)≤x*1000000000000:=by
 rw[jgE]
 constructor<;>intro h<;>grind
theorem jeR {x:Rat}{m:Int} : x≤unit m↔x*1000000000000≤(m:Rat):=by
 rw[jgE]
 constructor<;>intro h<;>grind
theorem je1 {x:Rat}{m:Int} : m≤flU x↔(m:Rat)≤x*1000000000000:=Rat.le_floor_iff
theorem jfi {x:Rat}{m:Int} : clU x≤m↔x*1000000000000≤(m:Rat):=by
 unfold clU
 have:=Rat.le_floor_iff (x := -m) (a := -(x*1000000000000))
 rw[Rat.intCast_neg] at this
 constructor
 ·intro h
  have:=this.1 (by omega)
  grind
 ·intro h
  have:=this.2 (by grind)
  omega
theorem jen {x y:Rat}(h:x≤y):flU x≤flU y:=je1.2 (by
 have:=je1.1 (Int.le_refl (flU x))
 grind)
theorem jep {x y:Rat}(h:x≤y):clU x≤clU y:=jfi.2 (by
 have:=jfi.1 (Int.le_refl (clU y))
 grind)
theorem fl_cl {x y:Rat}(h:x≤y):flU x≤clU y:=by
 have h1:=je1.1 (Int.le_refl (flU x))
 have h2:=jfi.1 (Int.le_refl (clU y))
 have h3:((flU x:Int):Rat)≤((clU y:Int):Rat):=by grind
 exact Rat.intCast_le_intCast.1 h3
theorem around_fl {x:Rat}(h : -100000≤x∧x≤100000):jda x=(flU x,clU x,0)∧(-100000000000000001≤nearZ x 1000000000000∧nearZ x 1000000000000≤100000000000000001):=by
 have hd:=x.den_pos
 have k1:x.num≤100000*x.den:=by
  have:=(Rat.le_iff (a:=x) (b:=100000)).1 h.2
  rw[show (100000:Rat).num=100000 from rfl,show (100000:Rat).den=1 from rfl] at this
  omega
 have k2 : -(100000*(x.den:Int))≤x.num:=by
  have:=(Rat.le_iff (a := -100000) (b:=x)).1 h.1
  rw[show (-100000:Rat).num = -100000 from rfl,show (-100000:Rat).den=1 from rfl] at this
  omega
 have nl:=near_le x 100000 ⟨k2,k1⟩
 refine⟨?_,by omega⟩
 obtain⟨p,q,e,hv,hq,hh,hu⟩:=around_law x (by omega)
 have hb:=(jeY x p q).1 hh
 have p1:unit p≤x:=Rat.not_lt.1 fun g=>by have:=(jhE p x).1 g;omega
 have q1:x≤unit q:=Rat.not_lt.1 fun g=>by have:=(jfX q x).1 g;omega
 have vi:=jaR.1 hv
 have f1:p≤flU x:=je1.2 (jey.1 p1)
 have c1:clU x≤q:=jfi.2 (jeR.1 q1)
 have f2:flU x≤p:=by
  have g1:=je1.1 (Int.le_refl (flU x))
  rcases Int.lt_or_le p (flU x) with g|g
  ·have e2:flU x≤q:=ji2 (fl_cl Rat.le_refl) c1
   have e3:flU x=q:=by omega
   have e4:unit q=x:=Rat.le_antisymm (jey.2 (by rw[← e3];exact g1)) q1
   have e5:=jfn q (jaR.2 (by omega))
   rw[e4,e] at e5
   have:p=q:=congrArg Prod.fst e5
   omega
  ·exact g
 have c2:q≤clU x:=by
  have g1:=jfi.1 (Int.le_refl (clU x))
  rcases Int.lt_or_le (clU x) q with g|g
  ·have e2:p≤clU x:=ji2 f1 (fl_cl Rat.le_refl)
   have e3:clU x=p:=by omega
   have e4:unit p=x:=Rat.le_antisymm p1 (jeR.2 (by rw[← e3];exact g1))
   have e5:=jfn p (jaR.2 (by omega))
   rw[e4,e] at e5
   have:q=p:=congrArg (fun r=>r.2.1) e5
   omega
  ·exact g
 rw[e,show p=flU x from by omega,show q=clU x from by omega]
theorem jeu {n:Nat}{x:Rat}(h:Fq n x)(h0:0<n∧n≤600)(hb : -100000≤x∧x≤100000):Cl 102 [frT x] (.tup [.agg [.int .i64 (flU x),.int .i64 (clU x)],.int .i64 0]):=by
 have o:=jbc (h.ok h0.1 h0.2)
 have a:=around_fl hb
 have c:=around_b (decZ x.num) (dec x.den) o.1 (by rw[o.2];omega)
 rw[o.2,a.1] at c
 exact c
def preI (k:Nat)(l:List D):List D:=l.take k++List.replicate (l.length-k) (.int .i64 0)
theorem jic:type_of% @jiA∧type_of% @tn0∧type_of% @tn1∧type_of% @tn2∧type_of% @tn3∧type_of% @xt4:=⟨@jiA,@tn0,@tn1,@tn2,@tn3,@xt4⟩
theorem blist1a {F:Nat}{e0 n0:Nat}{f0:Nat→List D}(T:Nat→Int×Int)(c0:Cl F (.int .i64 0::[.ref [.slf e0 n0 f0]]) (.tup [.agg [.int .i64 (T 0).1,.int .i64 (T 0).2],.int .i64 0])) :
  Cl 55 [.int .i64 1,.fn F [] [.ref [.slf e0 n0 f0]]] (.tup [V.sl2 1 [.int .i64 (T 0).1,.int .i64 (T 0).2],.int .i64 0]):=by
 refine V.en tbOk Tryz.func55 ?_
 refine V.r0 @jiA ?_
 refine jac (0) (fun k=>k≤1) (fun k=>1-k) (fun k=>[(14,.int .i64 k)]) (fun k=>[(11,.box (preI (2*k) [.int .i64 (T 0).1,.int .i64 (T 0).2]))]) ?_ ?_ ?_
 ·exact V.wk
 ·exact jiv _
 intro k hk
 have hk4:k=0∨k=1:=by omega
 rcases hk4 with e|e
 all_goals subst e
 ·simp only[k0]
  refine V.r1 jic c0 ?_
  exact⟨1,by omega,by omega,V.wk⟩
 ·simp only[k1]
  refine V.r0 @jiA ?_
  exact Fin.of rfl
theorem blist2a {F:Nat}{e0 n0:Nat}{f0:Nat→List D}(T:Nat→Int×Int)(c0:Cl F (.int .i64 0::[.ref [.slf e0 n0 f0]]) (.tup [.agg [.int .i64 (T 0).1,.int .i64 (T 0).2],.int .i64 0]))(c1:Cl F (.int .i64 1::[.ref [.slf e0 n0 f0]]) (.tup [.agg [.int .i64 (T 1).1,.int .i64 (T 1).2],.int .i64 0])) :
  Cl 55 [.int .i64 2,.fn F [] [.ref [.slf e0 n0 f0]]] (.tup [V.sl2 2 [.int .i64 (T 0).1,.int .i64 (T 0).2,.int .i64 (T 1).1,.int .i64 (T 1).2],.int .i64 0]):=by
 refine V.en tbOk Tryz.func55 ?_
 refine V.r0 @jiA ?_
 refine jac (0) (fun k=>k≤2) (fun k=>2-k) (fun k=>[(14,.int .i64 k)]) (fun k=>[(11,.box (preI (2*k) [.int .i64 (T 0).1,.int .i64 (T 0).2,.int .i64 (T 1).1,.int .i64 (T 1).2]))]) ?_ ?_ ?_
 ·exact V.wk
 ·exact jiv _
 intro k hk
 have hk4:k=0∨k=1∨k=2:=by omega
 rcases hk4 with e|e|e
 all_goals subst e
 ·simp only[k0]
  refine V.r1 jic c0 ?_
  exact⟨1,by omega,by omega,V.wk⟩
 ·simp only[k1]
  refine V.r1 jic c1 ?_
  exact⟨2,by omega,by omega,V.wk⟩
 ·simp only[k2]
  refine V.r0 @jiA ?_
  exact Fin.of rfl
theorem blist3a {F:Nat}{e0 n0:Nat}{f0:Nat→List D}(T:Nat→Int×Int)(c0:Cl F (.int .i64 0::[.ref [.slf e0 n0 f0]]) (.tup [.agg [.int .i64 (T 0).1,.int .i64 (T 0).2],.int .i64 0]))(c1:Cl F (.int .i64 1::[.ref [.slf e0 n0 f0]]) (.tup [.agg [.int .i64 (T 1).1,.int .i64 (T 1).2],.int .i64 0]))(c2:Cl F (.int .i64 2::[.ref [.slf e0 n0 f0]]) (.tup [.agg [.int .i64 (T 2).1,.int .i64 (T 2).2],.int .i64 0])) :
  Cl 55 [.int .i64 3,.fn F [] [.ref [.slf e0 n0 f0]]] (.tup [V.sl2 3 [.int .i64 (T 0).1,.int .i64 (T 0).2,.int .i64 (T 1).1,.int .i64 (T 1).2,.int .i64 (T 2).1,.int .i64 (T 2).2],.int .i64 0]):=by
 refine V.en tbOk Tryz.func55 ?_
 refine V.r0 @jiA ?_
 refine jac (0) (fun k=>k≤3) (fun k=>3-k) (fun k=>[(14,.int .i64 k)]) (fun k=>[(11,.box (preI (2*k) [.int .i64 (T 0).1,.int .i64 (T 0).2,.int .i64 (T 1).1,.int .i64 (T 1).2,.int .i64 (T 2).1,.int .i64 (T 2).2]))]) ?_ ?_ ?_
 ·exact V.wk
 ·exact jiv _
 intro k hk
 have hk4:k=0∨k=1∨k=2∨k=3:=by omega
 rcases hk4 with e|e|e|e
 all_goals subst e
 ·simp only[k0]
  refine V.r1 jic c0 ?_
  exact⟨1,by omega,by omega,V.wk⟩
 ·simp only[k1]
  refine V.r1 jic c1 ?_
  exact⟨2,by omega,by omega,V.wk⟩
 ·simp only[k2]
  refine V.r1 jic c2 ?_
  exact⟨3,by omega,by omega,V.wk⟩
 ·simp only[k3]
  refine V.r0 @jiA ?_
  exact Fin.of rfl
theorem blist4b {F:Nat}{p0 p1 p2 p3 q0 q1 q2 q3:List UInt8}(T:Nat→Int×Int)(c0:Cl F (.int .i64 0::[.ref [.str p0,.str q0],.ref [.str p1,.str q1],.ref [.str p2,.str q2],.ref [.str p3,.str q3]]) (.tup [.agg [.int .i64 (T 0).1,.int .i64 (T 0).2],.int .i64 0]))(c1:Cl F (.int .i64 1::[.ref [.str p0,.str q0],.ref [.str p1,.str q1],.ref [.str p2,.str q2],.ref [.str p3,.str q3]]) (.tup [.agg [.int .i64 (T 1).1,.int .i64 (T 1).2],.int .i64 0]))(c2:Cl F (.int .i64 2::[.ref [.str p0,.str q0],.ref [.str p1,.str q1],.ref [.str p2,.str q2],.ref [.str p3,.str q3]]) (.tup [.agg [.int .i64 (T 2).1,.int .i64 (T 2).2],.int .i64 0]))(c3:Cl F (.int .i64 3::[.ref [.str p0,.str q0],.ref [.str p1,.str q1],.ref [.str p2,.str q2],.ref [.str p3,.str q3]]) (.tup [.agg [.int .i64 (T 3).1,.int .i64 (T 3).2],.int .i64 0])) :
  Cl 55 [.int .i64 4,.fn F [] [.ref [.str p0,.str q0],.ref [.str p1,.str q1],.ref [.str p2,.str q2],.ref [.str p3,.str q3]]] (.tup [V.sl2 4 [.int .i64 (T 0).1,.int .i64 (T 0).2,.int .i64 (T 1).1,.int .i64 (T 1).2,.int .i64 (T 2).1,.int .i64 (T 2).2,.int .i64 (T 3).1,.int .i64 (T 3).2],.int .i64 0]):=by
 refine V.en tbOk Tryz.func55 ?_
 refine V.r0 @jiA ?_
 refine jac (0) (fun k=>k≤4) (fun k=>4-k) (fun k=>[(14,.int .i64 k)]) (fun k=>[(11,.box (preI (2*k) [.int .i64 (T 0).1,.int .i64 (T 0).2,.int .i64 (T 1).1,.int .i64 (T 1).2,.int .i64 (T 2).1,.int .i64 (T 2).2,.int .i64 (T 3).1,.int .i64 (T 3).2]))]) ?_ ?_ ?_
 ·exact V.wk
 ·exact jiv _
 intro k hk
 have hk4:k=0∨k=1∨k=2∨k=3∨k=4:=by omega
 rcases hk4 with e|e|e|e|e
 all_goals subst e
 ·simp only[k0]
  refine V.r1 jic c0 ?_
  exact⟨1,by omega,by omega,V.wk⟩
 ·simp only[k1]
  refine V.r1 jic c1 ?_
  exact⟨2,by omega,by omega,V.wk⟩
 ·simp only[k2]
  refine V.r1 jic c2 ?_
  exact⟨3,by omega,by omega,V.wk⟩
 ·simp only[k3]
  refine V.r1 jic c3 ?_
  exact⟨4,by omega,by omega,V.wk⟩
 ·simp only[xk4]
  refine V.r0 @jiA ?_
  exact Fin.of rfl
theorem blist1c {F:Nat}{e0 n0 e1 n1 e2 n2:Nat}{f0 f1 f2:Nat→List D}{g0 g1:List Int}(T:Nat→Int×Int)(c0:Cl F (.int .i64 0::[.ref [.slf e0 n0 f0],.ref [.slf e1 n1 f1],.ref [.slf e2 n2 f2],.ref [.ints .i64 g0],.ref [.ints .i64 g1]]) (.tup [.agg [.int .i64 (T 0).1,.int .i64 (T 0).2],.int .i64 0])) :
  Cl 55 [.int .i64 1,.fn F [] [.ref [.slf e0 n0 f0],.ref [.slf e1 n1 f1],.ref [.slf e2 n2 f2],.ref [.ints .i64 g0],.ref [.ints .i64 g1]]] (.tup [V.sl2 1 [.int .i64 (T 0).1,.int .i64 (T 0).2],.int .i64 0]):=by
 refine V.en tbOk Tryz.func55 ?_
 refine V.r0 @jiA ?_
 refine jac (0) (fun k=>k≤1) (fun k=>1-k) (fun k=>[(14,.int .i64 k)]) (fun k=>[(11,.box (preI (2*k) [.int .i64 (T 0).1,.int .i64 (T 0).2]))]) ?_ ?_ ?_
 ·exact V.wk
 ·exact jiv _
 intro k hk
 have hk4:k=0∨k=1:=by omega
 rcases hk4 with e|e
 all_goals subst e
 ·simp only[k0]
  refine V.r1 jic c0 ?_
  exact⟨1,by omega,by omega,V.wk⟩
 ·simp only[k1]
  refine V.r0 @jiA ?_
  exact Fin.of rfl
theorem blist2c {F:Nat}{e0 n0 e1 n1 e2 n2:Nat}{f0 f1 f2:Nat→List D}{g0 g1:List Int}(T:Nat→Int×Int)(c0:Cl F (.int .i64 0::[.ref [.slf e0 n0 f0],.ref [.slf e1 n1 f1],.ref [.slf e2 n2 f2],.ref [.ints .i64 g0],.ref [.ints .i64 g1]]) (.tup [.agg [.int .i64 (T 0).1,.int .i64 (T 0).2],.int .i64 0]))(c1:Cl F (.int .i64 1::[.ref [.slf e0 n0 f0],.ref [.slf e1 n1 f1],.ref [.slf e2 n2 f2],.ref [.ints .i64 g0],.ref [.ints .i64 g1]]) (.tup [.agg [.int .i64 (T 1).1,.int .i64 (T 1).2],.int .i64 0])) :
  Cl 55 [.int .i64 2,.fn F [] [.ref [.slf e0 n0 f0],.ref [.slf e1 n1 f1],.ref [.slf e2 n2 f2],.ref [.ints .i64 g0],.ref [.ints .i64 g1]]] (.tup [V.sl2 2 [.int .i64 (T 0).1,.int .i64 (T 0).2,.int .i64 (T 1).1,.int .i64 (T 1).2],.int .i64 0]):=by
 refine V.en tbOk Tryz.func55 ?_
 refine V.r0 @jiA ?_
 refine jac (0) (fun k=>k≤2) (fun k=>2-k) (fun k=>[(14,.int .i64 k)]) (fun k=>[(11,.box (preI (2*k) [.int .i64 (T 0).1,.int .i64 (T 0).2,.int .i64 (T 1).1,.int .i64 (T 1).2]))]) ?_ ?_ ?_
 ·exact V.wk
 ·exact jiv _
 intro k hk
 have hk4:k=0∨k=1∨k=2:=by omega
 rcases hk4 with e|e|e
 all_goals subst e
 ·simp only[k0]
  refine V.r1 jic c0 ?_
  exact⟨1,by omega,by omega,V.wk⟩
 ·simp only[k1]
  refine V.r1 jic c1 ?_
  exact⟨2,by omega,by omega,V.wk⟩
 ·simp only[k2]
  refine V.r0 @jiA ?_
  exact Fin.of rfl
theorem blist3c {F:Nat}{e0 n0 e1 n1 e2 n2:Nat}{f0 f1 f2:Nat→List D}{g0 g1:List Int}(T:Nat→Int×Int)(c0:Cl F (.int .i64 0::[.ref [.slf e0 n0 f0],.ref [.slf e1 n1 f1],.ref [.slf e2 n2 f2],.ref [.ints .i64 g0],.ref [.ints .i64 g1]]) (.tup [.agg [.int .i64 (T 0).1,.int .i64 (T 0).2],.int .i64 0]))(c1:Cl F (.int .i64 1::[.ref [.slf e0 n0 f0],.ref [.slf e1 n1 f1],.ref [.slf e2 n2 f2],.ref [.ints .i64 g0],.ref [.ints .i64 g1]]) (.tup [.agg [.int .i64 (T 1).1,.int .i64 (T 1).2],.int .i64 0]))(c2:Cl F (.int .i64 2::[.ref [.slf e0 n0 f0],.ref [.slf e1 n1 f1],.ref [.slf e2 n2 f2],.ref [.ints .i64 g0],.ref [.ints .i64 g1]]) (.tup [.agg [.int .i64 (T 2).1,.int .i64 (T 2).2],.int .i64 0])) :
  Cl 55 [.int .i64 3,.fn F [] [.ref [.slf e0 n0 f0],.ref [.slf e1 n1 f1],.ref [.slf e2 n2 f2],.ref [.ints .i64 g0],.ref [.ints .i64 g1]]] (.tup [V.sl2 3 [.int .i64 (T 0).1,.int .i64 (T 0).2,.int .i64 (T 1).1,.int .i64 (T 1).2,.int .i64 (T 2).1,.int .i64 (T 2).2],.int .i64 0]):=by
 refine V.en tbOk Tryz.func55 ?_
 refine V.r0 @jiA ?_
 refine jac (0) (fun k=>k≤3) (fun k=>3-k) (fun k=>[(14,.int .i64 k)]) (fun k=>[(11,.box (preI (2*k) [.int .i64 (T 0).1,.int .i64 (T 0).2,.int .i64 (T 1).1,.int .i64 (T 1).2,.int .i64 (T 2).1,.int .i64 (T 2).2]))]) ?_ ?_ ?_
 ·exact V.wk
 ·exact jiv _
 intro k hk
 have hk4:k=0∨k=1∨k=2∨k=3:=by omega
 rcases hk4 with e|e|e|e
 all_goals subst e
 ·simp only[k0]
  refine V.r1 jic c0 ?_
  exact⟨1,by omega,by omega,V.wk⟩
 ·simp only[k1]
  refine V.r1 jic c1 ?_
  exact⟨2,by omega,by omega,V.wk⟩
 ·simp only[k2]
  refine V.r1 jic c2 ?_
  exact⟨3,by omega,by omega,V.wk⟩
 ·simp only[k3]
  refine V.r0 @jiA ?_
  exact Fin.of rfl
theorem blist4c {F:Nat}{e0 n0 e1 n1 e2 n2:Nat}{f0 f1 f2:Nat→List D}{g0 g1:List Int}(T:Nat→Int×Int)(c0:Cl F (.int .i64 0::[.ref [.slf e0 n0 f0],.ref [.slf e1 n1 f1],.ref [.slf e2 n2 f2],.ref [.ints .i64 g0],.ref [.ints .i64 g1]]) (.tup [.agg [.int .i64 (T 0).1,.int .i64 (T 0).2],.int .i64 0]))(c1:Cl F (.int .i64 1::[.ref [.slf e0 n0 f0],.ref [.slf e1 n1 f1],.ref [.slf e2 n2 f2],.ref [.ints .i64 g0],.ref [.ints .i64 g1]]) (.tup [.agg [.int .i64 (T 1).1,.int .i64 (T 1).2],.int .i64 0]))(c2:Cl F (.int .i64 2::[.ref [.slf e0 n0 f0],.ref [.slf e1 n1 f1],.ref [.slf e2 n2 f2],.ref [.ints .i64 g0],.ref [.ints .i64 g1]]) (.tup [.agg [.int .i64 (T 2).1,.int .i64 (T 2).2],.int .i64 0]))(c3:Cl F (.int .i64 3::[.ref [.slf e0 n0 f0],.ref [.slf e1 n1 f1],.ref [.slf e2 n2 f2],.ref [.ints .i64 g0],.ref [.ints .i64 g1]]) (.tup [.agg [.int .i64 (T 3).1,.int .i64 (T 3).2],.int .i64 0])) :
  Cl 55 [.int .i64 4,.fn F [] [.ref [.slf e0 n0 f0],.ref [.slf e1 n1 f1],.ref [.slf e2 n2 f2],.ref [.ints .i64 g0],.ref [.ints .i64 g1]]] (.tup [V.sl2 4 [.int .i64 (T 0).1,.int .i64 (T 0).2,.int .i64 (T 1).1,.int .i64 (T 1).2,.int .i64 (T 2).1,.int .i64 (T 2).2,.int .i64 (T 3).1,.int .i64 (T 3).2],.int .i64 0]):=by
 refine V.en tbOk Tryz.func55 ?_
 refine V.r0 @jiA ?_
 refine jac (0) (fun k=>k≤4) (fun k=>4-k) (fun k=>[(14,.int .i64 k)]) (fun k=>[(11,.box (preI (2*k) [.int .i64 (T 0).1,.int .i64 (T 0).2,.int .i64 (T 1).1,.int .i64 (T 1).2,.int .i64 (T 2).1,.int .i64 (T 2).2,.int .i64 (T 3).1,.int .i64 (T 3).2]))]) ?_ ?_ ?_
 ·exact V.wk
 ·exact jiv _
 intro k hk
 have hk4:k=0∨k=1∨k=2∨k=3∨k=4:=by omega
 rcases hk4 with e|e|e|e|e
 all_goals subst e
 ·simp only[k0]
  refine V.r1 jic c0 ?_
  exact⟨1,by omega,by omega,V.wk⟩
 ·simp only[k1]
  refine V.r1 jic c1 ?_
  exact⟨2,by omega,by omega,V.wk⟩
 ·simp only[k2]
  refine V.r1 jic c2 ?_
  exact⟨3,by omega,by omega,V.wk⟩
 ·simp only[k3]
  refine V.r1 jic c3 ?_
  exact⟨4,by omega,by omega,V.wk⟩
 ·simp only[xk4]
  refine V.r0 @jiA ?_
  exact Fin.of rfl
theorem conf1_0 (p0 p1 p2 p3 q0 q1 q2 q3:List UInt8)(b:Int×Int)(c:Cl 102 [.agg [.str p0,.str q0]] (.tup [.agg [.int .i64 b.1,.int .i64 b.2],.int .i64 0])):Cl 101 (.int .i64 0::[.ref [.str p0,.str q0],.ref [.str p1,.str q1],.ref [.str p2,.str q2],.ref [.str p3,.str q3]]) (.tup [.agg [.int .i64 b.1,.int .i64 b.2],.int .i64 0]):=by
 refine V.en tbOk Tryz.func101 ?_
 refine V.r1 jic c ?_
 exact Fin.of rfl
theorem conf1_1 (p0 p1 p2 p3 q0 q1 q2 q3:List UInt8)(b:Int×Int)(c:Cl 102 [.agg [.str p1,.str q1]] (.tup [.agg [.int .i64 b.1,.int .i64 b.2],.int .i64 0])):Cl 101 (.int .i64 1::[.ref [.str p0,.str q0],.ref [.str p1,.str q1],.ref [.str p2,.str q2],.ref [.str p3,.str q3]]) (.tup [.agg [.int .i64 b.1,.int .i64 b.2],.int .i64 0]):=by
 refine V.en tbOk Tryz.func101 ?_
 refine V.r1 jic c ?_
 exact Fin.of rfl
theorem conf1_2 (p0 p1 p2 p3 q0 q1 q2 q3:List UInt8)(b:Int×Int)(c:Cl 102 [.agg [.str p2,.str q2]] (.tup [.agg [.int .i64 b.1,.int .i64 b.2],.int .i64 0])):Cl 101 (.int .i64 2::[.ref [.str p0,.str q0],.ref [.str p1,.str q1],.ref [.str p2,.str q2],.ref [.str p3,.str q3]]) (.tup [.agg [.int .i64 b.1,.int .i64 b.2],.int .i64 0]):=by
 refine V.en tbOk Tryz.func101 ?_
 refine V.r1 jic c ?_
 exact Fin.of rfl
theorem conf1_3 (p0 p1 p2 p3 q0 q1 q2 q3:List UInt8)(b:Int×Int)(c:Cl 102 [.agg [.str p3,.str q3]] (.tup [.agg [.int .i64 b.1,.int .i64 b.2],.int .i64 0])):Cl 101 (.int .i64 3::[.ref [.str p0,.str q0],.ref [.str p1,.str q1],.ref [.str p2,.str q2],.ref [.str p3,.str q3]]) (.tup [.agg [.int .i64 b.1,.int .i64 b.2],.int .i64 0]):=by
 refine V.en tbOk Tryz.func101 ?_
 refine V.r1 jic c ?_
 exact Fin.of rfl
theorem bands1_10 (X:Nat→Int×Int)(b:Int×Int)(c:Cl 57 [.agg [.int .i64 (X 0).1,.int .i64 (X 0).2],.int .i64 0,.int .i64 1000000000000] (.tup [.agg [.int .i64 b.1,.int .i64 b.2],.int .i64 0])):Cl 56 (.int .i64 0::[.ref [V.sl2 1 [.int .i64 (X 0).1,.int .i64 (X 0).2]]]) (.tup [.agg [.int .i64 b.1,.int .i64 b.2],.int .i64 0]):=by
 refine V.en tbOk Tryz.func56 ?_
 refine V.r1 jic c ?_
 exact Fin.of rfl
theorem jhc (X:Nat→Int×Int)(b:Int×Int)(c:Cl 57 [.agg [.int .i64 (X 0).1,.int .i64 (X 0).2],.int .i64 0,.int .i64 1000000000000] (.tup [.agg [.int .i64 b.1,.int .i64 b.2],.int .i64 0])):Cl 56 (.int .i64 0::[.ref [V.sl2 2 [.int .i64 (X 0).1,.int .i64 (X 0).2,.int .i64 (X 1).1,.int .i64 (X 1).2]]]) (.tup [.agg [.int .i64 b.1,.int .i64 b.2],.int .i64 0]):=by
 refine V.en tbOk Tryz.func56 ?_
 refine V.r1 jic c ?_
 exact Fin.of rfl
theorem jhb (X:Nat→Int×Int)(b:Int×Int)(c:Cl 57 [.agg [.int .i64 (X 1).1,.int .i64 (X 1).2],.int .i64 0,.int .i64 1000000000000] (.tup [.agg [.int .i64 b.1,.int .i64 b.2],.int .i64 0])):Cl 56 (.int .i64 1::[.ref [V.sl2 2 [.int .i64 (X 0).1,.int .i64 (X 0).2,.int .i64 (X 1).1,.int .i64 (X 1).2]]]) (.tup [.agg [.int .i64 b.1,.int .i64 b.2],.int .i64 0]):=by
 refine V.en tbOk Tryz.func56 ?_
 refine V.r1 jic c ?_
 exact Fin.of rfl
theorem bands1_30 (X:Nat→Int×Int)(b:Int×Int)(c:Cl 57 [.agg [.int .i64 (X 0).1,.int .i64 (X 0).2],.int .i64 0,.int .i64 1000000000000] (.tup [.agg [.int .i64 b.1,.int .i64 b.2],.int .i64 0])):Cl 56 (.int .i64 0::[.ref [V.sl2 3 [.int .i64 (X 0).1,.int .i64 (X 0).2,.int .i64 (X 1).1,.int .i64 (X 1).2,.int .i64 (X 2).1,.int .i64 (X 2).2]]]) (.tup [.agg [.int .i64 b.1,.int .i64 b.2],.int .i64 0]):=by
 refine V.en tbOk Tryz.func56 ?_
 refine V.r1 jic c ?_
 exact Fin.of rfl
theorem bands1_31 (X:Nat→Int×Int)(b:Int×Int)(c:Cl 57 [.agg [.int .i64 (X 1).1,.int .i64 (X 1).2],.int .i64 0,.int .i64 1000000000000] (.tup [.agg [.int .i64 b.1,.int .i64 b.2],.int .i64 0])):Cl 56 (.int .i64 1::[.ref [V.sl2 3 [.int .i64 (X 0).1,.int .i64 (X 0).2,.int .i64 (X 1).1,.int .i64 (X 1).2,.int .i64 (X 2).1,.int .i64 (X 2).2]]]) (.tup [.agg [.int .i64 b.1,.int .i64 b.2],.int .i64 0]):=by
 refine V.en tbOk Tryz.func56 ?_
 refine V.r1 jic c ?_
 exact Fin.of rfl
theorem bands1_32 (X:Nat→Int×Int)(b:Int×Int)(c:Cl 57 [.agg [.int .i64 (X 2).1,.int .i64 (X 2).2],.int .i64 0,.int .i64 1000000000000] (.tup [.agg [.int .i64 b.1,.int .i64 b.2],.int .i64 0])):Cl 56 (.int .i64 2::[.ref [V.sl2 3 [.int .i64 (X 0).1,.int .i64 (X 0).2,.int .i64 (X 1).1,.int .i64 (X 1).2,.int .i64 (X 2).1,.int .i64 (X 2).2]]]) (.tup [.agg [.int .i64 b.1,.int .i64 b.2],.int .i64 0]):=by
 refine V.en tbOk Tryz.func56 ?_
 refine V.r1 jic c ?_
 exact Fin.of rfl
end Go.Proofs.YtgjgpdceghjajaaGreatDoor
end
section
namespace Go.V
open Go Go.RowKit
def Env.alias (E:Env)(i j:Nat):Env:=⟨fun x=>if x=j then E.blk i else E.blk x,fun x=>if x=j then E.siz i else E.siz x,fun x=>if x=j then E.kn i else E.kn x,fun x=>if x=j then E.real i else E.real x,fun x=>if x=j then E.lpr i else E.lpr x⟩
theorem Env.off_alias (E:Env)(i j:Nat):E.off (E.alias i j) j:=fun k hk=>by simp[Env.alias,hk]
section
variable {cx : Cx} {E : Env} {h : Pub} {a : Act} {w : World} {L : Sl} {H : Hp}
theorem Sat.renArr (S:Sat cx E h a w L H){i j:Nat}{k:IntKind}{xs:List Int}(hij:i≠j)(hoff':cx.off≤j)(hi:lookH H i=some (.arr k xs)) :
  Sat cx (E.alias i j) h a w (purge j L) ((j,.arr k xs)::(i,.gone)::jaG j H):=by
 have hoff:=E.off_alias i j
 have ej:(E.alias i j).blk j=E.blk i∧(E.alias i j).siz j=E.siz i∧(E.alias i j).kn j=E.kn i∧(E.alias i j).real j=E.real i:=by simp[Env.alias]
 have ne:∀ x,x≠j→(E.alias i j).blk x=E.blk x∧(E.alias i j).real x=E.real x:=fun x hx=>⟨(hoff x hx).1,(hoff x hx).2.2.2.1⟩
 have live:∀ x c',x≠j→lookH ((j,.arr k xs)::(i,.gone)::jaG j H) x=some c'→c'.live=true→x≠i ∧ ∃ c0,lookH H x=some c0∧c'=jb9 j c0∧c0.live=true:=by
  intro x c' hx hc' hl
  rw[jag,if_neg (Ne.symm hx),jag] at hc'
  by_cases hxi:i=x
  ·rw[if_pos hxi] at hc';cases hc';cases hl
  ·rw[if_neg hxi] at hc'
   obtain⟨c0,h1,h2⟩:=jbd hc'
   exact⟨Ne.symm hxi,c0,h1,h2,by rw[h2,jba] at hl;exact hl⟩
 have atj:∀ c',lookH ((j,.arr k xs)::(i,.gone)::jaG j H) j=some c'→c' = .arr k xs:=fun c' hc'=>by
  rw[jag,if_pos rfl] at hc';cases hc';rfl
 refine { knows:=?_,mem:=?_,agree:=S.agree,since:=S.since,low:=fun x hx=>jeQ S.low hoff hoff' x hx,side:=S.side }
 ·exact fun t=>jbJ hoff (S.knows t)
 ·refine { ok:=?_,base:=?_,unpub:=?_,inj:=?_ }
  ·intro x c' hc'
   by_cases hx:x=j
   ·subst hx
    rw[atj c' hc']
    have:=S.mem.ok i _ hi
    simp only[ChunkOk] at this ⊢
    rw[ej.1,ej.2.1,ej.2.2.1,ej.2.2.2]
    exact this
   ·cases hl:c'.live with
    | false=>cases c'<;>first|trivial|(simp[Chunk.live] at hl)
    | true=>
     obtain⟨_,c0,h1,rfl,hl'⟩:=live x c' hx hc' hl
     exact ChunkOk.env hoff hx (S.mem.ok x _ h1)
  ·intro x c' hc' hl hr
   by_cases hx:x=j
   ·subst hx
    rw[ej.2.2.2] at hr
    rw[ej.1]
    exact S.mem.base i _ hi rfl hr
   ·obtain⟨_,c0,h1,rfl,hl'⟩:=live x c' hx hc' hl
    rw[(ne x hx).2] at hr
    rw[(ne x hx).1]
    exact S.mem.base x _ h1 hl' hr
  ·intro x c' hc' hl hr o
   by_cases hx:x=j
   ·subst hx
    rw[ej.2.2.2] at hr
    rw[ej.1]
    exact S.mem.unpub i _ hi rfl hr o
   ·obtain⟨_,c0,h1,rfl,hl'⟩:=live x c' hx hc' hl
    rw[(ne x hx).2] at hr
    rw[(ne x hx).1]
    exact S.mem.unpub x _ h1 hl' hr o
  ·intro x y c1 c2 hxy h1 h2 l1 l2 r1 r2
   by_cases hx:x=j
   ·subst hx
    obtain⟨hyi,c0',g2,rfl,l2'⟩:=live y c2 (Ne.symm hxy) h2 l2
    rw[ej.2.2.2] at r1
    rw[(ne y (Ne.symm hxy)).2] at r2
    rw[ej.1,(ne y (Ne.symm hxy)).1]
    exact S.mem.inj i y _ _ (Ne.symm hyi) hi g2 rfl l2' r1 r2
   ·obtain⟨hxi,c0,g1,rfl,l1'⟩:=live x c1 hx h1 l1
    rw[(ne x hx).2] at r1
    rw[(ne x hx).1]
    by_cases hy:y=j
    ·subst hy
     rw[ej.2.2.2] at r2
     rw[ej.1]
     exact S.mem.inj x i _ _ hxi g1 hi l1' rfl r1 r2
    ·obtain⟨hyi,c0',g2,rfl,l2'⟩:=live y c2 hy h2 l2
     rw[(ne y hy).2] at r2
     rw[(ne y hy).1]
     exact S.mem.inj x y _ _ hxy g1 g2 l1' l2' r1 r2
end
theorem Wk.renBox {off:Nat}{L:Sl}{H:Hp}{L2:Sl}{H2:Hp}(i j b p n:Nat){k:IntKind}{xs:List Int}{ds:List D}(hij:i≠j)(hb:b≠i∧b≠j)(hoff:off≤j)(hi:lookH H i=some (.arr k xs))(hj:lookH (jaG j H) b=some (.box ds))(hp:ds[p]? = some (.osl i 0 n))
  (h:Wk off (purge j L) ((b,.box (ds.set p (.osl j 0 n)))::(j,.arr k xs)::(i,.gone)::jaG j H) L2 H2):Wk off L H L2 H2:=by
 refine⟨fun cx E h' a w e S=>?_⟩
 subst e
 have S1:=S.renArr hij hoff hi
 have hb1:lookH ((j,.arr k xs)::(i,.gone)::jaG j H) b=some (.box ds):=by
  rw[jag,if_neg (Ne.symm hb.2),jag,if_neg (Ne.symm hb.1)];exact hj
 have fe:∀ v,Den (E.alias i j) h' (.osl i 0 n) v→Den (E.alias i j) h' (.osl j 0 n) v:=fun v hv=>by
  simp only[Den,Env.alias,if_true,if_neg hij] at hv ⊢
  exact hv
 refine h.out cx (E.alias i j) h' a w rfl (S1.rechunk hb1 rfl ?_)
 obtain⟨h1,vs,rest,T,h2,h3,h4⟩:=S1.mem.ok b _ hb1
 exact⟨h1,vs,rest,T,h2,jgv h3 hp fe,h4⟩
end Go.V
end
