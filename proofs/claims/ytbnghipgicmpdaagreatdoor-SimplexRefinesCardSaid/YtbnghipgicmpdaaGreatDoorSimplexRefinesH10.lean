/- What functions of the program answer at given values, part 10. Conditions: those that each theorem names. -/
import Derived.Test.YtbnghipgicmpdaaGreatDoorSimplexRefinesH9
import Derived.Test.YtbnghipgicmpdaaGreatDoorSimplexRefinesH8
import Derived.Test.YtbnghipgicmpdaaGreatDoorSimplexRefinesH4
set_option linter.unusedSimpArgs false
set_option linter.unusedVariables false
set_option maxHeartbeats 8000000
set_option maxRecDepth 100000
section
namespace Go.Proofs.YtbnghipgicmpdaaGreatDoor
open Go Go.V
def gridD (size:List Int)(out:Int)(data:List Int):D := .agg [.ints .i64 size,.int .i64 out,.ints .i64 data]
def jag (size:List Int)(out:Int)(data:List Int):Bool:=
 decide (1≤size.length∧size.length≤4) && decide (1≤out∧out≤4) && size.all (fun n=>decide (2≤n∧n≤9)) && decide ((data.length:Int)≤4096∧(data.length:Int)=prod size*out) && data.all fun v=>decide (0≤v∧v≤65535)
theorem jfa {size:List Int}{out:Int}{data:List Int}{k:Nat}{x:Int}(hx:size[k]? = some x)(h:¬ (2≤x∧x≤9)):jag size out data=false:=by
 have hm:x∈size:=jjK hx
 have:size.all (fun n=>decide (2≤n∧n≤9))=false:=by
  rw[List.all_eq_false];exact⟨x,hm,by simpa using h⟩
 unfold jag;rw[this];simp only[Bool.and_false,Bool.false_and]
theorem jfb {size:List Int}{out:Int}{data:List Int}{k:Nat}{x:Int}(hx:data[k]? = some x)(h:¬ (0≤x∧x≤65535)):jag size out data=false:=by
 have hm:x∈data:=jjK hx
 have:data.all (fun v=>decide (0≤v∧v≤65535))=false:=by
  rw[List.all_eq_false];exact⟨x,hm,by simpa using h⟩
 unfold jag;rw[this];simp only[Bool.and_false,Bool.false_and]
theorem jcR {size:List Int}(hall:size.all (fun n=>decide (2≤n∧n≤9))=true)(k:Nat):0≤prod (size.take k)∧(size.length≤4→prod (size.take k)≤6561)∧(size.length≤4→InR .i64 (prod (size.take k))):=by
 have hb:∀ l:List Int,(∀ n∈l,2≤n∧n≤9) → ∀ a:Int,0≤a→0≤l.foldl (· * ·) a∧l.foldl (· * ·) a≤a*9^l.length:=by
  intro l
  induction l with
  | nil=>intro _ a ha;simp;exact ha
  | cons x l ih=>
   intro hl a ha
   have hx:=hl x (by simp)
   have h1:0≤a*x:=ji6 ha (by omega)
   have h2:=ih (fun n hn=>hl n (by simp[hn])) (a*x) h1
   refine⟨h2.1,Int.le_trans h2.2 ?_⟩
   have h3:a*x≤a*9:=jjq hx.2 ha
   have h4:a*x*9^l.length≤a*9*9^l.length:=jji h3 (Int.pow_nonneg (by omega))
   have h5:a*9^(x::l).length=a*9*9^l.length:=by
    rw[jjV,Int.pow_succ,jjo _ 9,← jjp]
   rw[h5];exact h4
 simp only[jjE,decide_eq_true_eq] at hall
 have h1:=hb (size.take k) (fun n hn=>hall n (jjR hn)) 1 (by omega)
 have h2:size.length≤4→prod (size.take k)≤6561:=by
  intro h
  refine Int.le_trans h1.2 ?_
  have:(size.take k).length≤4:=by simp;omega
  generalize (size.take k).length=m at this
  match m,this with
  | 0,_=>decide
  | 1,_=>decide
  | 2,_=>decide
  | 3,_=>decide
  | 4,_=>decide
  | m+5,h=>omega
 refine⟨h1.1,h2,fun h=>?_⟩
 have h3:=h2 h
 have h4:=h1.1
 simp only[V.InR,lo,hi]
 simp only[prod] at *
 omega
theorem prodm_bd {size:List Int}{out:Int}(hall:size.all (fun n=>decide (2≤n∧n≤9))=true)(h1:size.length≤4)(h2:1≤out∧out≤4):InR .i64 (prod size*out):=by
 have h3:=jcR hall size.length
 rw[jj6] at h3
 have h4:prod size≤6561:=h3.2.1 h1
 have h5:0≤prod size*out:=ji6 h3.1 (by omega)
 have h6:prod size*out≤6561*4:=jjB h4 h2.2 (by omega) (by omega)
 simp only[V.InR,lo,hi];omega
theorem jcD (size:List Int)(out:Int)(data:List Int)(hs:size.length≤281474976710656)(hd:data.length≤281474976710656) :
  Cl 58 [gridD size out data] (.int .i64 (if jag size out data then 0 else 100)):=by
 refine V.en tbOk Tryz.func58 ?_
 (conv=>whnf)
 refine V.st ?_
 repeat ((try ((with_reducible refine .ext ?_);(conv=>whnf)));(with_reducible refine jaa (r:=?_) ?_ ?_);rotate_left;(focus (first|exact(jey _ _ _)));(conv=>whnf);refine V.st ?_)
 refine V.br (fun h=>?_) (fun h=>?_)
 ·(conv=>whnf)
  refine V.st ?_
  refine Fin.of ?_
  have:jag size out data=false:=by
   simp only[jag]
   simp at h
   simp
   omega
  rw[this];rfl
 have h1:1≤size.length∧size.length≤4∧1≤out∧out≤4:=by
  simp at h;omega
 clear h
 (conv=>whnf)
 refine V.st ?_
 refine lp_inv size.length (fun k=>(size.take k).all (fun n=>decide (2≤n∧n≤9))=true) (fun k=>[(1,.box 1 0),(19,.ints .i64 size),(20,.int .i64 size.length),(21,.int .i64 k)]) (fun _=>[(1,.box [.ints .i64 size,.int .i64 out,.ints .i64 data])]) ?_ rfl ?_
 ·exact Wk.of ⟨rfl,rfl,rfl,rfl,trivial⟩ ⟨rfl,trivial⟩
 intro k hk hI
 (conv=>whnf)
 refine V.st ?_
 refine V.br (fun h=>?_) (fun h=>?_)
 ·simp only[decide_eq_true_eq] at h
  obtain⟨x,hx1⟩:∃ x,size[k]? = some x:=⟨size[k],jjI (by omega)⟩
  have ex:=V.getD_toNat size k x hx1
  (conv=>whnf)
  refine V.st ?_
  repeat ((try ((with_reducible refine .ext ?_);(conv=>whnf)));(with_reducible refine jaa (r:=?_) ?_ ?_);rotate_left;(focus (first|exact(jey _ _ _)));(conv=>whnf);refine V.st ?_)
  rw[ex]
  refine V.br (fun h=>?_) (fun h=>?_)
  ·(conv=>whnf)
   refine V.st ?_
   refine Fin.of ?_
   rw[jfa hx1 (by simp at h;omega)];rfl
  ·(conv=>whnf)
   refine V.st ?_
   exact⟨k+1,⟨by omega,by rw[jj5,List.all_append,hI,hx1];simp at h ⊢; omega⟩,by omega,Wk.of ⟨rfl,rfl,rfl,rfl,trivial⟩ ⟨rfl,trivial⟩⟩
 ·(conv=>whnf)
  refine V.st ?_
  simp only[decide_eq_false_iff_not] at h
  have hall:size.all (fun n=>decide (2≤n∧n≤9))=true:=by rw[← hI,jjW (by omega)]
  have hp:=jcR hall
  have hm:=prodm_bd hall h1.2.1 h1.2.2
  refine⟨(V.tk [0,1,2,3,4,5,6,7,8,9,11,12] (V.e1 10 [12,11,7,6,5] (V.tk [13,14,15] .done))),[],V.pok,.go (jac ?_)⟩
  (conv=>whnf)
  refine V.st ?_
  repeat ((try ((with_reducible refine .ext ?_);(conv=>whnf)));(with_reducible refine jaa (r:=?_) ?_ ?_);rotate_left;(focus (first|exact(product_c _ (fun k _=>(hp k).2.2 h1.2.1) hs)));(conv=>whnf);refine V.st ?_)
  refine V.br (fun h=>?_) (fun h=>?_)
  ·(conv=>whnf)
   refine V.st ?_
   refine Fin.of ?_
   have:jag size out data=false:=by
    unfold jag
    have:(decide ((data.length:Int)≤4096∧(data.length:Int)=prod size*out))=false:=by simp at h ⊢; omega
    rw[this];simp
   rw[this];rfl
  have h2:(data.length:Int)≤4096∧(data.length:Int)=prod size*out:=by simp at h;omega
  clear h
  (conv=>whnf)
  refine V.st ?_
  refine lp_inv data.length (fun k=>(data.take k).all (fun v=>decide (0≤v∧v≤65535))=true) (fun k=>[(1,.box 1 0),(46,.ints .i64 data),(47,.int .i64 data.length),(48,.int .i64 k)]) (fun _=>[(1,.box [.ints .i64 size,.int .i64 out,.ints .i64 data])]) ?_ rfl ?_
  ·exact Wk.of ⟨rfl,rfl,rfl,rfl,trivial⟩ ⟨rfl,trivial⟩
  intro k hk hI
  (conv=>whnf)
  refine V.st ?_
  refine V.br (fun h=>?_) (fun h=>?_)
  ·simp only[decide_eq_true_eq] at h
   obtain⟨x,hx1⟩:∃ x,data[k]? = some x:=⟨data[k],jjI (by omega)⟩
   have ex:=V.getD_toNat data k x hx1
   (conv=>whnf)
   refine V.st ?_
   repeat ((try ((with_reducible refine .ext ?_);(conv=>whnf)));(with_reducible refine jaa (r:=?_) ?_ ?_);rotate_left;(focus (first|exact(jey _ _ _)));(conv=>whnf);refine V.st ?_)
   rw[ex]
   refine V.br (fun h=>?_) (fun h=>?_)
   ·(conv=>whnf)
    refine V.st ?_
    refine Fin.of ?_
    rw[jfb hx1 (by simp at h;omega)];rfl
   ·(conv=>whnf)
    refine V.st ?_
    exact⟨k+1,⟨by omega,by rw[jj5,List.all_append,hI,hx1];simp at h ⊢; omega⟩,by omega,Wk.of ⟨rfl,rfl,rfl,rfl,trivial⟩ ⟨rfl,trivial⟩⟩
  ·(conv=>whnf)
   refine V.st ?_
   simp only[decide_eq_false_iff_not] at h
   have hall2:data.all (fun v=>decide (0≤v∧v≤65535))=true:=by rw[← hI,jjW (by omega)]
   have:jag size out data=true:=by
    unfold jag
    rw[hall,hall2];simp;omega
   refine Fin.of ?_
   rw[this];rfl
theorem jcc (size:List Int)(out:Int)(data:List Int)(hs:size.length≤281474976710656)(hd:data.length≤281474976710656) :
  Cl 35 [gridD size out data] (.bool (jag size out data)):=by
 refine V.en tbOk Tryz.func35 ?_
 (conv=>whnf)
 refine V.st ?_
 repeat ((try ((with_reducible refine .ext ?_);(conv=>whnf)));(with_reducible refine jaa (r:=?_) ?_ ?_);rotate_left;(focus (first|exact(jdA _ _ _)));(conv=>whnf);refine V.st ?_)
 refine V.br (fun h=>?_) (fun h=>?_)
 ·(conv=>whnf)
  refine V.st ?_
  refine Fin.of ?_
  have:jag size out data=false:=by
   simp only[jag]
   simp at h
   simp
   omega
  rw[this]
 have h1:1≤size.length∧size.length≤4∧1≤out∧out≤4:=by
  simp at h;omega
 clear h
 (conv=>whnf)
 refine V.st ?_
 refine lp_go (size.length) (fun k=>(size.take k).all (fun n=>decide (2≤n∧n≤9))=true) (fun k=>[(3,.int .i64 k)]) (fun k=>[]) V.wk ?_ ?_
 ·rfl
 intro k hk hI
 (conv=>whnf)
 refine V.st ?_
 refine V.br (fun h=>?_) (fun h=>?_)
 ·simp only[decide_eq_true_eq] at h
  obtain⟨x,hx1,ex⟩:=getx (xs:=size) (k:=k) (by omega)
  (conv=>whnf)
  refine V.st ?_
  repeat ((try ((with_reducible refine .ext ?_);(conv=>whnf)));(with_reducible refine jaa (r:=?_) ?_ ?_);rotate_left;(focus (first|exact(jdA _ _ _)));(conv=>whnf);refine V.st ?_)
  rw[ex]
  refine V.br (fun h=>?_) (fun h=>?_)
  ·(conv=>whnf)
   refine V.st ?_
   refine Fin.of ?_
   rw[jfa hx1 (by simp at h;omega)]
  ·(conv=>whnf)
   refine V.st ?_
   exact⟨k+1,⟨by omega,(by rw[jj5,List.all_append,hI,hx1];simp at h ⊢; omega)⟩,by omega,V.wk⟩
 ·(conv=>whnf)
  refine V.st ?_
  simp only[decide_eq_false_iff_not] at h
  have hall:size.all (fun n=>decide (2≤n∧n≤9))=true:=by rw[← hI,jjW (by omega)]
  have hp:=jcR hall
  have hm:=prodm_bd hall h1.2.1 h1.2.2
  refine⟨(V.tk [0,1,2,3,4,6,7] (V.e1 5 [7,6,2,1,0] (V.tk [8,9,10,11,12,13,14,15] .done))),[],V.pok,.go (jac ?_)⟩
  (conv=>whnf)
  refine V.st ?_
  repeat ((try ((with_reducible refine .ext ?_);(conv=>whnf)));(with_reducible refine jaa (r:=?_) ?_ ?_);rotate_left;(focus (first|exact(jeE _ (fun k _=>(hp k).2.2 h1.2.1) hs)));(conv=>whnf);refine V.st ?_)
  refine V.br (fun h=>?_) (fun h=>?_)
  ·(conv=>whnf)
   refine V.st ?_
   refine Fin.of ?_
   have:jag size out data=false:=by
    unfold jag
    have:(decide ((data.length:Int)≤4096∧(data.length:Int)=prod size*out))=false:=by simp at h ⊢; omega
    rw[this];simp
   rw[this]
  have h2:(data.length:Int)≤4096∧(data.length:Int)=prod size*out:=by simp at h;omega
  clear h
  (conv=>whnf)
  refine V.st ?_
  refine lp_go (data.length) (fun k=>(data.take k).all (fun v=>decide (0≤v∧v≤65535))=true) (fun k=>[(4,.int .i64 k)]) (fun k=>[]) V.wk ?_ ?_
  ·rfl
  intro k hk hI
  (conv=>whnf)
  refine V.st ?_
  refine V.br (fun h=>?_) (fun h=>?_)
  ·simp only[decide_eq_true_eq] at h
   obtain⟨x,hx1,ex⟩:=getx (xs:=data) (k:=k) (by omega)
   (conv=>whnf)
   refine V.st ?_
   repeat ((try ((with_reducible refine .ext ?_);(conv=>whnf)));(with_reducible refine jaa (r:=?_) ?_ ?_);rotate_left;(focus (first|exact(jdA _ _ _)));(conv=>whnf);refine V.st ?_)
   rw[ex]
   refine V.br (fun h=>?_) (fun h=>?_)
   ·(conv=>whnf)
    refine V.st ?_
    refine Fin.of ?_
    rw[jfb hx1 (by simp at h;omega)]
   ·(conv=>whnf)
    refine V.st ?_
    exact⟨k+1,⟨by omega,(by rw[jj5,List.all_append,hI,hx1];simp at h ⊢; omega)⟩,by omega,V.wk⟩
  ·(conv=>whnf)
   refine V.st ?_
   simp only[decide_eq_false_iff_not] at h
   have hall2:data.all (fun v=>decide (0≤v∧v≤65535))=true:=by rw[← hI,jjW (by omega)]
   have:jag size out data=true:=by
    unfold jag
    rw[hall,hall2];simp;omega
   refine Fin.of ?_
   rw[this]
theorem rsame_c (s1:List Int)(o1:Int)(d1:List Int)(s2:List Int)(o2:Int)(d2:List Int)(h1:s1.length≤281474976710656)(h2:d1.length≤281474976710656)(h3:s2.length≤281474976710656)(h4:d2.length≤281474976710656) :
  Cl 28 [gridD s1 o1 d1,gridD s2 o2 d2] (.bool (decide (s1=s2∧o1=o2∧d1=d2))):=by
 refine V.en tbOk Tryz.func28 ?_
 (conv=>whnf)
 refine V.st ?_
 repeat ((try ((with_reducible refine .ext ?_);(conv=>whnf)));(with_reducible refine jaa (r:=?_) ?_ ?_);rotate_left;(focus (first|exact(ints_c _ _ h1 h3)|exact(ints_c _ _ h2 h4)));(conv=>whnf);refine V.st ?_)
 refine Fin.of ?_
 congr 1
 by_cases a:s1=s2<;>by_cases b:o1=o2<;>by_cases c:d1=d2<;>simp[a,b,c]
def pz (z:List (Int×Int)):Int:=z.foldl (fun p a=>p*a.1+a.2) 0
def okIdx (size xs:List Int):Bool:=decide (xs.length=size.length) && (size.zip xs).all fun a=>decide (0≤a.2∧a.2≤a.1-1)
def pad4 (xs:List Int):List Int:=xs++List.replicate (4-xs.length) 0
theorem jaq {xs:List Int}(h:xs.length≤4):(pad4 xs).length=4:=by simp[pad4];omega
theorem jdL {xs:List Int}{k:Nat}{x:Int}(h:xs[k]? = some x)(hl:xs.length≤4):(pad4 (xs.take k)).set k x=pad4 (xs.take (k+1)):=by
 have hk:k<xs.length:=(jjP.1 h).1
 refine List.ext_getElem? fun j=>?_
 rw[List.getElem?_set]
 have h1:(xs.take k).length=k:=by simp;omega
 have h2:(xs.take (k+1)).length=k+1:=by simp;omega
 have hp:(pad4 (xs.take k)).length=4:=jaq (by omega)
 by_cases e:k=j
 ·subst e
  rw[if_pos rfl,if_pos (by omega)]
  unfold pad4
  rw[jjO (by omega),jj4 (by omega),h]
 ·rw[if_neg e]
  unfold pad4
  rw[h1,h2]
  by_cases hj:j<k
  ·rw[jjO (by omega),jjO (by omega),jj4 hj,jj4 (by omega)]
  ·rw[List.getElem?_append_right (by omega),List.getElem?_append_right (by omega),h1,h2]
   simp only[List.getElem?_replicate]
   by_cases hj4:j<4
   ·rw[if_pos (by omega),if_pos (by omega)]
   ·rw[if_neg (by omega),if_neg (by omega)]
theorem pz_bd_aux (z:List (Int×Int)):∀ (p q:Int),(∀ a∈z,0≤a.2∧a.2≤a.1-1)→0≤p→p+1≤q →
  0≤z.foldl (fun p a=>p*a.1+a.2) p∧z.foldl (fun p a=>p*a.1+a.2) p+1≤(z.map (·.1)).foldl (· * ·) q:=by
 induction z with
 | nil=>intro p q _ h1 h2;exact⟨h1,h2⟩
 | cons a z ih=>
  intro p q h h1 h2
  have ha:=h a (by simp)
  simp only[List.foldl_cons,List.map_cons]
  have h3:0≤p*a.1:=ji6 h1 (by omega)
  have h4:(p+1)*a.1≤q*a.1:=jji h2 (by omega)
  rw[jjx] at h4
  exact ih _ _ (fun b hb=>h b (by simp[hb])) (by omega) (by omega)
theorem pz_bd {z:List (Int×Int)}(h:∀ a∈z,0≤a.2∧a.2≤a.1-1):0≤pz z∧pz z+1≤prod (z.map (·.1)):=pz_bd_aux z 0 1 h (by omega) (by omega)
theorem ja4 {size xs:List Int} : okIdx size xs=true↔xs.length=size.length ∧ ∀ (k:Nat) (n x:Int),size[k]? = some n→xs[k]? = some x→0≤x∧x≤n-1:=by
 unfold okIdx
 rw[ji0,decide_eq_true_eq,jjE]
 constructor
 ·rintro⟨h1,h2⟩
  refine⟨h1,fun k n x hn hx=>?_⟩
  have:=h2 (n,x) (jjK (i:=k) (by rw[List.getElem?_zip_eq_some];exact⟨hn,hx⟩))
  simpa using this
 ·rintro⟨h1,h2⟩
  refine⟨h1,fun a ha=>?_⟩
  obtain⟨k,hk⟩:=List.getElem?_of_mem ha
  rw[List.getElem?_zip_eq_some] at hk
  simpa using h2 k _ _ hk.1 hk.2
theorem jaZ {size:List Int}{out:Int}{data:List Int}(h:jag size out data=true):1≤size.length∧size.length≤4∧1≤out∧out≤4∧size.all (fun n=>decide (2≤n∧n≤9))=true∧(data.length:Int)≤4096∧(data.length:Int)=prod size*out∧data.all (fun v=>decide (0≤v∧v≤65535))=true:=by
 unfold jag at h
 simp only[ji0] at h
 obtain⟨⟨⟨⟨h1,h2⟩,h3⟩,h4⟩,h5⟩:=h
 simp only[decide_eq_true_eq] at h1 h2 h4
 exact⟨h1.1,h1.2,h2.1,h2.2,h3,h4.1,h4.2,h5⟩
theorem jf2 {size xs:List Int}{n x:Int}(h:okIdx size xs=true)(hl:size.length=xs.length)(hx:0≤x∧x≤n-1):okIdx (size++[n].toArray.toList) (xs++[x].toArray.toList)=true:=by
 unfold okIdx at *
 rw[List.zip_append hl]
 simp at *
 exact⟨by omega,h.2,by omega⟩
theorem find_c (size:List Int)(out:Int)(data xs:List Int)(hg:jag size out data=true)(hx:xs.length≤281474976710656) :
  Cl 186 [gridD size out data,.ints .i64 xs] (.tup [.iarr .i64 (if okIdx size xs then pad4 xs else [0,0,0,0]),.bool (okIdx size xs)]):=by
 have hG:=jaZ hg
 refine V.en tbOk Tryz.func186 ?_
 (conv=>whnf)
 refine V.st ?_
 refine V.br (fun h=>?_) (fun h=>?_)
 ·have:okIdx size xs=false:=by
   unfold okIdx
   simp at h;simp;omega
  (conv=>whnf)
  refine V.st ?_
  rw[this]
  exact Fin.of rfl
 have hl:xs.length=size.length:=by simp at h;omega
 clear h
 (conv=>whnf)
 refine V.st ?_
 refine lp_go (xs.length) (fun k=>okIdx (size.take k) (xs.take k)=true) (fun k=>[(19,.int .i64 k)]) (fun k=>[(6,.arr .i64 (pad4 (xs.take k)))]) V.wk ?_ ?_
 ·rfl
 intro k hk hI
 (conv=>whnf)
 refine V.st ?_
 refine V.br (fun h=>?_) (fun h=>?_)
 ·simp only[decide_eq_true_eq] at h
  obtain⟨x,hx1,ex⟩:=getx (xs:=xs) (k:=k) (by omega)
  obtain⟨n,hn1,en⟩:=getx (xs:=size) (k:=k) (by omega)
  have hnb:2≤n∧n≤9:=by
   have:=jjE.1 hG.2.2.2.2.1 n (jjK hn1)
   simpa using this
  (conv=>whnf)
  refine V.st ?_
  rw[en]
  refine V.st ?_
  repeat ((try ((with_reducible refine .ext ?_);(conv=>whnf)));(with_reducible refine jaa (r:=?_) ?_ ?_);rotate_left;(focus (first|exact(jey _ _ _)));(conv=>whnf);refine V.st ?_)
  rw[ex]
  refine V.br (fun h=>?_) (fun h=>?_)
  ·have:okIdx size xs=false:=by
    cases hb:okIdx size xs with
    | false=>rfl
    | true=>
     have:=(ja4.1 hb).2 k n x hn1 hx1
     simp at h;omega
   (conv=>whnf)
   refine V.st ?_
   rw[this]
   exact Fin.of rfl
  ·(conv=>whnf)
   refine V.st ?_
   simp only[jaq (xs:=xs.take k) (by simp;omega)]
   refine V.st ?_
   simp only[ji8,jjb]
   rw[jdL hx1 (by omega)]
   exact⟨k+1,⟨by omega,(by rw[jj5,jj5,hn1,hx1];exact jf2 (n:=n) (x:=x) hI (by simp[jjM];omega) (by simp at h;omega))⟩,by omega,V.wk⟩
 ·simp only[decide_eq_false_iff_not] at h
  rw[jjW (by omega),jjW (by omega)] at hI
  (conv=>whnf)
  refine V.st ?_
  have hp4:(pad4 xs).length=4:=jaq (by omega)
  rw[jjW (by omega)]
  refine V.st ?_
  rw[hI]
  exact Fin.of rfl
theorem place_c (size:List Int)(out:Int)(data xs:List Int)(hg:jag size out data=true)(hx:xs.length=4)(hi:∀ (k:Nat) (n x:Int),size[k]? = some n→xs[k]? = some x→0≤x∧x≤n-1) :
  Cl 189 [gridD size out data,.iarr .i64 xs] (.int .i64 (pz (size.zip xs)*out)):=by
 have hG:=jaZ hg
 have hb:∀ k,k≤size.length→0≤pz ((size.zip xs).take k)∧pz ((size.zip xs).take k)+1≤6561:=fun k hk=>by
  have h1:=pz_bd (z:=(size.zip xs).take k) (fun a ha=>by
   obtain⟨j,hj⟩:=List.getElem?_of_mem (jjR ha)
   rw[List.getElem?_zip_eq_some] at hj
   exact hi j _ _ hj.1 hj.2)
  have h2:=(jcR hG.2.2.2.2.1 k).2.1 hG.2.1
  have h3:((size.zip xs).take k).map (·.1)=size.take k:=by
   rw[List.map_take,List.map_fst_zip (by omega)]
  rw[h3] at h1
  omega
 have hb2:=hb size.length (by omega)
 rw[jjW (by simp;omega)] at hb2
 refine V.en tbOk Tryz.func189 ?_
 (conv=>whnf)
 refine V.st ?_
 refine lp_go (size.length) (fun k=>True) (fun k=>[(5,.int .i64 (pz ((size.zip xs).take k))),(12,.int .i64 k)]) (fun k=>[]) V.wk ?_ ?_
 ·trivial
 intro k hk _
 (conv=>whnf)
 refine V.st ?_
 refine V.br (fun h=>?_) (fun h=>?_)
 ·simp only[decide_eq_true_eq] at h
  obtain⟨n,hn1,en⟩:=getx (xs:=size) (k:=k) (by omega)
  obtain⟨x,hx1,ex⟩:=getx (xs:=xs) (k:=k) (by omega)
  have hz:(size.zip xs)[k]? = some (n,x):=by rw[List.getElem?_zip_eq_some];exact⟨hn1,hx1⟩
  have hs:pz ((size.zip xs).take (k+1))=pz ((size.zip xs).take k)*n+x:=by
   rw[jj5,hz];simp[pz]
  have h1:=hb k (by omega)
  have h2:=hb (k+1) (by omega)
  have h3:=hi k n x hn1 hx1
  rw[hs] at h2
  have h4:0≤pz ((size.zip xs).take k)*n:=ji6 h1.1 (by omega)
  refine V.r0 (V.a3 @en ex @ji8) ?_
  rw[← hs]
  exact⟨k+1,⟨by omega,trivial⟩,by omega,V.wk⟩
 ·simp only[decide_eq_false_iff_not] at h
  rw[jjW (l:=size.zip xs) (by simp;omega)]
  have hm:InR .i64 (pz (size.zip xs)*out):=by
   have h5:0≤pz (size.zip xs)*out:=ji6 hb2.1 (by omega)
   have h6:pz (size.zip xs)*out≤6561*4:=jjB (by omega) (by omega) (by omega) (by omega)
   simp only[V.InR,lo,V.hi];omega
  (conv=>whnf)
  refine V.st ?_
  exact Fin.same _
theorem pz_last {size:List Int}{out:Int}{data xs:List Int}(hg:jag size out data=true)(hx:size.length≤xs.length)(hi:∀ (k:Nat) (n x:Int),size[k]? = some n→xs[k]? = some x→0≤x∧x≤n-1) :
  0≤pz (size.zip xs)*out∧pz (size.zip xs)*out+out≤data.length:=by
 have hG:=jaZ hg
 have h1:=pz_bd (z:=size.zip xs) (fun a ha=>by
  obtain⟨j,hj⟩:=List.getElem?_of_mem ha
  rw[List.getElem?_zip_eq_some] at hj
  exact hi j _ _ hj.1 hj.2)
 rw[List.map_fst_zip (by omega)] at h1
 refine⟨ji6 h1.1 (by omega),?_⟩
 have h2:(pz (size.zip xs)+1)*out≤prod size*out:=jji h1.2 (by omega)
 rw[jjx] at h2
 omega
def slot (data:List Int)(p out:Int):List Int:=(data.drop p.toNat).take out.toNat
theorem slot_copy {data:List Int}{p out:Int}(h1:0≤p)(h2:0≤out)(h3:p+out≤data.length) :
  List.take out.toNat (V.setAt (List.replicate out.toNat 0) 0 (List.take out.toNat (List.drop p.toNat (List.take (p+out).toNat data))))=slot data p out:=by
 have e1:List.take out.toNat (List.drop p.toNat (List.take (p+out).toNat data))=slot data p out:=by
  have:(p+out).toNat=p.toNat+out.toNat:=by omega
  rw[this,List.drop_take,List.take_take]
  simp[slot]
 rw[e1]
 have hl:(slot data p out).length=out.toNat:=by simp[slot];omega
 unfold V.setAt
 rw[List.take_zero,jjS,jjT (by omega),jjW (by omega)]
theorem values_c (size:List Int)(out:Int)(data xs:List Int)(hg:jag size out data=true)(hx:xs.length=4)(hi:∀ (k:Nat) (n x:Int),size[k]? = some n→xs[k]? = some x→0≤x∧x≤n-1) :
  Cl 149 [gridD size out data,.iarr .i64 xs] (.ints .i64 (slot data (pz (size.zip xs)*out) out)):=by
 have hG:=jaZ hg
 have hp:=pz_last hg (by omega) hi
 refine V.en tbOk Tryz.func149 ?_
 (conv=>whnf)
 refine V.st ?_
 repeat ((try ((with_reducible refine .ext ?_);(conv=>whnf)));(with_reducible refine jaa (r:=?_) ?_ ?_);rotate_left;(focus (first|exact(place_c _ _ _ _ hg hx hi)));(conv=>whnf);refine V.st ?_)
 try refine And.intro (fun _=>⟨by omega,by simp⟩) ?_
 (conv=>whnf)
 refine V.st ?_
 exact Fin.of (by rw[slot_copy hp.1 (by omega) hp.2])
theorem jhw {data:List Int}{p out:Int}(h1:0≤p)(h2:0≤out)(h3:p+out≤data.length):(slot data p out).length=out.toNat:=by
 simp[slot];omega
theorem je9 {size xs:List Int}(h:okIdx size xs=true)(h4:size.length≤4):(pad4 xs).length=4 ∧ ∀ (k:Nat) (n x:Int),size[k]? = some n→(pad4 xs)[k]? = some x→0≤x∧x≤n-1:=by
 obtain⟨h1,h2⟩:=ja4.1 h
 refine⟨jaq (by omega),fun k n x hn hx=>?_⟩
 have hk:=(jjP.1 hn).1
 unfold pad4 at hx
 rw[jjO (by omega)] at hx
 exact h2 k n x hn hx
theorem zip_pad {size xs:List Int}(h:okIdx size xs=true):size.zip (pad4 xs)=size.zip xs:=by
 obtain⟨h1,h2⟩:=ja4.1 h
 unfold pad4
 have:=List.zip_append (l₁:=size) (r₁:=([]:List Int)) (l₂:=xs) (r₂:=List.replicate (4-xs.length) 0) h1.symm
 simpa using this
theorem gat_c (size:List Int)(out:Int)(data xs:List Int)(hs:size.length≤281474976710656)(hd:data.length≤281474976710656)(hx:xs.length≤281474976710656) :
  Cl 140 [gridD size out data,.ints .i64 xs] (.tup [.ints .i64 (if jag size out data && okIdx size xs then slot data (pz (size.zip xs)*out) out else []),.int .i64 (if jag size out data then (if okIdx size xs then 0 else 2) else 100)]):=by
 refine V.en tbOk Tryz.func140 ?_
 (conv=>whnf)
 refine V.st ?_
 repeat ((try ((with_reducible refine .ext ?_);(conv=>whnf)));(with_reducible refine jaa (r:=?_) ?_ ?_);rotate_left;(focus (first|exact(jcD _ _ _ hs hd)));(conv=>whnf);refine V.st ?_)
 cases hg:jag size out data with
 | false=>
  refine V.br (fun h=>?_) (fun h=>?_)
  ·(conv=>whnf)
   refine V.st ?_
   exact Fin.tup ⟨Fin.nil _,Fin.of rfl,trivial⟩
  ·simp at h
 | true=>
  have hG:=jaZ hg
  refine V.br (fun h=>?_) (fun h=>?_)
  ·simp at h
  have hpl:(if okIdx size xs=true then pad4 xs else [0,0,0,0]).length=4:=by
   split
   ·rename_i h;exact(je9 h hG.2.1).1
   ·rfl
  (conv=>whnf)
  refine V.st ?_
  repeat ((try ((with_reducible refine .ext ?_);(conv=>whnf)));(with_reducible refine jaa (r:=?_) ?_ ?_);rotate_left;(focus (first|exact(find_c _ _ _ _ hg hx)));(conv=>whnf);refine V.st ?_)
  refine V.br (fun hi=>?_) (fun hi=>?_)
  ·have hi2:okIdx size xs=false:=by simpa using hi
   (conv=>whnf)
   refine V.st ?_
   rw[hi2]
   exact Fin.tup ⟨Fin.nil _,Fin.of rfl,trivial⟩
  ·have hi2:okIdx size xs=true:=by simpa using hi
   obtain⟨hp1,hp2⟩:=je9 hi2 hG.2.1
   rw[hi2,if_pos rfl]
   (conv=>whnf)
   refine V.st ?_
   repeat ((try ((with_reducible refine .ext ?_);(conv=>whnf)));(with_reducible refine jaa (r:=?_) ?_ ?_);rotate_left;(focus (first|exact(values_c _ _ _ _ hg hp1 hp2)));(conv=>whnf);refine V.st ?_)
   rw[zip_pad hi2]
   exact Fin.of rfl
theorem okIdx_take {size xs:List Int}(h:okIdx size xs=true):∀ a∈size.zip xs,0≤a.2∧a.2≤a.1-1:=fun a ha=>by
 unfold okIdx at h
 simp only[ji0,jjE,decide_eq_true_eq] at h
 exact h.2 a ha
theorem take_zip2 {α β:Type}(a:List α)(b:List β)(j:Nat):(a.zip b).take j=(a.take j).zip (b.take j):=by
 simp[List.zip_eq_zipWith,List.take_zipWith]
theorem rplace_c (size:List Int)(out:Int)(data xs:List Int)(hg:jag size out data=true)(hx:xs.length≤281474976710656) :
  Cl 148 [gridD size out data,.ints .i64 xs] (.tup [.int .i64 (if okIdx size xs then pz (size.zip xs)*out else 0),.bool (okIdx size xs)]):=by
 have hG:=jaZ hg
 refine V.en tbOk Tryz.func148 ?_
 (conv=>whnf)
 refine V.st ?_
 refine V.br (fun h=>?_) (fun h=>?_)
 ·have:okIdx size xs=false:=by
   unfold okIdx
   simp at h;simp;omega
  (conv=>whnf)
  refine V.st ?_
  rw[this]
  exact Fin.of rfl
 have hl:xs.length=size.length:=by simp at h;omega
 clear h
 (conv=>whnf)
 refine V.st ?_
 refine lp_go (xs.length) (fun k=>okIdx (size.take k) (xs.take k)=true) (fun k=>[(6,.int .i64 (pz ((size.zip xs).take k))),(7,.int .i64 k)]) (fun k=>[]) V.wk ?_ ?_
 ·rfl
 intro k hk hI
 have hb:∀ j,okIdx (size.take j) (xs.take j)=true→0≤pz ((size.zip xs).take j)∧pz ((size.zip xs).take j)+1≤6561:=fun j hj=>by
  have h1:=pz_bd (okIdx_take hj)
  have h2:=(jcR hG.2.2.2.2.1 j).2.1 hG.2.1
  rw[List.map_fst_zip (by simp;omega)] at h1
  rw[← take_zip2] at h1
  omega
 (conv=>whnf)
 refine V.st ?_
 refine V.br (fun h=>?_) (fun h=>?_)
 ·simp only[decide_eq_true_eq] at h
  obtain⟨x,hx1,ex⟩:=getx (xs:=xs) (k:=k) (by omega)
  obtain⟨n,hn1,en⟩:=getx (xs:=size) (k:=k) (by omega)
  have hnb:2≤n∧n≤9:=by
   have:=jjE.1 hG.2.2.2.2.1 n (jjK hn1)
   simpa using this
  (conv=>whnf)
  refine V.st ?_
  refine⟨(V.tk [0,1,2,3,4,5,6,7,8,9] (V.e1 10 [] (V.tk [11] .done))),[],V.pok,.go (jac ?_)⟩
  (conv=>whnf)
  (try simp only[ex,en])
  repeat ((first|refine V.s1 ?_|((try ((with_reducible refine .ext ?_);(conv=>whnf);(try simp only[ex,en])));(with_reducible refine jaa (r:=?_) ?_ ?_);rotate_left;(focus (first|exact(jdA _ _ _)));(conv=>whnf)));(try simp only[ex,en]))
  refine V.br (fun h=>?_) (fun h=>?_)
  ·have:okIdx size xs=false:=by
    cases hb:okIdx size xs with
    | false=>rfl
    | true=>
     have:=(ja4.1 hb).2 k n x hn1 hx1
     simp at h;omega
   (conv=>whnf)
   refine V.st ?_
   rw[this]
   exact Fin.of rfl
  ·have hI2:okIdx (size.take (k+1)) (xs.take (k+1))=true:=by
    rw[jj5,jj5,hn1,hx1];exact jf2 (n:=n) (x:=x) hI (by simp[jjM];omega) (by simp at h;omega)
   have hz:(size.zip xs)[k]? = some (n,x):=by rw[List.getElem?_zip_eq_some];exact⟨hn1,hx1⟩
   have hs:pz ((size.zip xs).take (k+1))=pz ((size.zip xs).take k)*n+x:=by
    rw[jj5,hz];simp[pz]
   have h1:=hb k hI
   have h2:=hb (k+1) hI2
   rw[hs] at h2
   have h4:0≤pz ((size.zip xs).take k)*n:=ji6 h1.1 (by omega)
   simp at h
   (conv=>whnf)
   refine V.st ?_
   refine⟨(V.tk [0,1,2,3,4,5,6,7,8,9,10,11] (V.e1 12 [] .done)),[],V.pok,.go (jac ?_)⟩
   refine V.r0 (V.a2 ex @en) ?_
   rw[← hs]
   exact⟨k+1,⟨by omega,hI2⟩,by omega,V.wk⟩
 ·simp only[decide_eq_false_iff_not] at h
  rw[jjW (by omega),jjW (by omega)] at hI
  have hb2:=hb size.length (by rw[jj6,jjW (by omega)];exact hI)
  rw[jjW (by simp;omega)] at hb2
  rw[jjW (l:=size.zip xs) (by simp;omega)]
  have hm:InR .i64 (pz (size.zip xs)*out):=by
   have h5:0≤pz (size.zip xs)*out:=ji6 hb2.1 (by omega)
   have h6:pz (size.zip xs)*out≤6561*4:=jjB (by omega) (by omega) (by omega) (by omega)
   simp only[V.InR,lo,V.hi];omega
  (conv=>whnf)
  refine V.st ?_
  rw[hI]
  exact Fin.of rfl
theorem jc6 (size:List Int)(out:Int)(data xs:List Int)(hs:size.length≤281474976710656)(hd:data.length≤281474976710656)(hx:xs.length≤281474976710656) :
  Cl 91 [gridD size out data,.ints .i64 xs] (.tup [.int .i64 (if jag size out data && okIdx size xs then pz (size.zip xs)*out else 0),.int .i64 (if jag size out data then (if okIdx size xs then 0 else 2) else 100)]):=by
 refine V.en tbOk Tryz.func91 ?_
 (conv=>whnf)
 refine V.st ?_
 repeat ((try ((with_reducible refine .ext ?_);(conv=>whnf)));(with_reducible refine jaa (r:=?_) ?_ ?_);rotate_left;(focus (first|exact(jcc _ _ _ hs hd)));(conv=>whnf);refine V.st ?_)
 refine V.br (fun hg=>?_) (fun hg=>?_)
 ·have hg:jag size out data=false:=by simpa using hg
  (conv=>whnf)
  refine V.st ?_
  rw[hg]
  exact Fin.of rfl
 ·have hg:jag size out data=true:=by simpa using hg
  (conv=>whnf)
  refine V.st ?_
  repeat ((try ((with_reducible refine .ext ?_);(conv=>whnf)));(with_reducible refine jaa (r:=?_) ?_ ?_);rotate_left;(focus (first|exact(rplace_c _ _ _ _ hg hx)));(conv=>whnf);refine V.st ?_)
  refine V.br (fun hi=>?_) (fun hi=>?_)
  ·have hi:okIdx size xs=false:=by simpa using hi
   (conv=>whnf)
   refine V.st ?_
   rw[hg,hi]
   exact Fin.of rfl
  ·have hi:okIdx size xs=true:=by simpa using hi
   (conv=>whnf)
   refine V.st ?_
   rw[hg,hi]
   exact Fin.of rfl
end Go.Proofs.YtbnghipgicmpdaaGreatDoor
end
section
namespace Go.Proofs.YtbnghipgicmpdaaGreatDoor
open Go Go.V Go.Nb
def smF (P:Nat→Rat):Nat→Rat
 | 0=>P 0
 | k+1=>smF P k+P (k+1)
theorem fq_sm {P:Nat→Rat}{a:Nat}(h:∀ k,Fq a (P k)):∀ k,Fq ((k+1)*a+k) (smF P k)
 | 0=>(h 0).mono (by omega)
 | k+1=>((fq_sm h k).add (h (k+1))).mono (by rw[ji7 (k+1)];omega)
def gvF (zs:List Int)(out:Int)(data:List Int)(j:Nat)(i k l:Int):Rat:=(((slot data (pz (zs.zip ([i,k,l].take zs.length))*out) out).getD j 0:Int):Rat)
def evQ (zs:List Int)(out:Int)(data:List Int)(x0 x1 x2:Rat)(j:Nat):Rat:=evF (zs.getD 0 2) (zs.getD 1 2) (zs.getD 2 2) (gvF zs out data j) x0 x1 x2/65535
theorem jap {zs:List Int}{out:Int}{data:List Int}(h:jag zs out data=true):(1≤out∧out≤4)∧(∀ z∈zs,2≤z∧z≤9)∧((data.length:Int)≤4096∧(data.length:Int)=prod zs*out) ∧ ∀ v∈data,0≤v∧v≤65535:=by
 unfold jag at h
 simp only[ji0,decide_eq_true_eq,jjE] at h
 exact⟨h.1.1.1.2,h.1.1.2,h.1.2,h.2⟩
theorem jaQ {l:List Int}{p:Int→Prop}(h:∀ v∈l,p v)(h0:p 0)(j:Nat):p (l.getD j 0):=by
 by_cases hj:j<l.length
 ·rw[jjF,jjI hj]
  exact h _ (jjJ hj)
 ·rw[jjF,List.getElem?_eq_none (by omega)]
  exact h0
theorem jaR {data:List Int}(h:∀ v∈data,0≤v∧v≤65535)(p w:Int)(j:Nat):0≤(slot data p w).getD j 0∧(slot data p w).getD j 0≤65535:=
 jaQ (p:=fun v=>0≤v∧v≤65535) (fun v hv=>h v (jjQ (jjR hv))) (by omega) j
theorem gat_at {zs:List Int}{out:Int}{data xs:List Int}(h:jag zs out data=true)(hi:okIdx zs xs=true)(hl:zs.length≤4)(hx:xs.length≤4):Cl 140 [gridD zs out data,.ints .i64 xs] (.tup [.ints .i64 (slot data (pz (zs.zip xs)*out) out),.int .i64 0]):=by
 have o:=jap h
 have c:=gat_c zs out data xs (by omega) (by omega) (by omega)
 rw[h,hi] at c
 exact c
theorem ja3 {zs:List Int}{out:Int}{data xs:List Int}(h:jag zs out data=true)(hi:okIdx zs xs=true):(slot data (pz (zs.zip xs)*out) out).length=out.toNat:=by
 have o:=jap h
 unfold okIdx at hi
 simp only[ji0,decide_eq_true_eq,jjE] at hi
 have b:=pz_bd hi.2
 have e:(zs.zip xs).map (·.1)=zs:=List.map_fst_zip (by omega)
 rw[e] at b
 have h1:0≤pz (zs.zip xs)*out:=ji6 b.1 (by omega)
 have h2:pz (zs.zip xs)*out+out≤data.length:=by
  rw[o.2.2.1.2]
  have:=jji b.2 (show 0≤out by omega)
  rw[jjx,jjy] at this
  exact this
 exact jhw h1 (by omega) h2
theorem jeF (r0 r1 r2:Rat):ord3 r0 r1 r2=[0,1,2]∨ord3 r0 r1 r2=[0,2,1]∨ord3 r0 r1 r2=[1,0,2]∨ord3 r0 r1 r2=[1,2,0]∨ord3 r0 r1 r2=[2,0,1]∨ord3 r0 r1 r2=[2,1,0]:=by
 unfold ord3
 repeat' split
 all_goals simp
theorem jeG (r0 r1:Rat):ord2 r0 r1=[0,1]∨ord2 r0 r1=[1,0]:=by
 unfold ord2
 split
 ·exact .inr rfl
 ·exact .inl rfl
theorem sp_20:spB 2 0=0∧spR 2 0=0:=by decide +kernel
theorem ord3_20 {r0 r1:Rat}(h0:0≤r0)(h1:0≤r1):ord3 r0 r1 0=ord2 r0 r1++[2]:=by
 have g0:¬ r0<0:=Rat.not_lt.2 h0
 have g1:¬ r1<0:=Rat.not_lt.2 h1
 unfold ord3 ord2
 by_cases h:r0<r1
 ·rw[if_pos h,if_neg g0,if_pos h];rfl
 ·rw[if_neg h,if_neg g1,if_neg h];rfl
theorem ord3_10 {r0:Rat}(h0:0≤r0):ord3 r0 0 0=[0,1,2]:=by
 have g0:¬ r0<0:=Rat.not_lt.2 h0
 unfold ord3
 rw[if_neg g0,if_neg (by decide +kernel)]
theorem spR_nn {s:Int}(hs:2≤s)(x:Rat):0≤spR s x:=by
 have h:=(Rat.le_floor_iff (x:=(gp s x).floor) (a:=gp s x)).1 (Int.le_refl _)
 have g:((spB s x:Int):Rat)≤(((gp s x).floor:Int):Rat):=Rat.intCast_le_intCast.2 (by unfold spB;omega)
 unfold spR
 grind
theorem jaF:(65535:Int).natAbs<10^5:=by decide
theorem jbu:((65535:Int):Rat).num≠0:=by decide
theorem valU1 (z0 b0 out:Int)(data O:List Int)(rq:Nat→Rat)(fr:∀ k,Fq 43 (rq k))(U:Nat→List Int)(ho:1≤out∧out≤4)(hU:∀ k,k<2→(U k).length=out.toNat ∧ ∀ j,0≤(U k).getD j 0∧(U k).getD j 0≤65535)(hl:O.length=1)(hx:∀ k,k<1→0≤O.getD k 0∧O.getD k 0<4)(hi:∀ k,k<1→InR .i64 ((atK [b0,0,0,0] O k).getD (O.getD k 0).toNat 0+1))
  (pt:∀ k,k<2→Cl 82 [.agg [.ints .i64 [z0],.int .i64 out,.ints .i64 data,.ints .i64 [b0],.ints .i64 O,slQ (fun k=>txq (wqN rq O 1 k)) 2],.iarr .i64 (atK [b0,0,0,0] O k)] (.tup [.ints .i64 (U k),.int .i64 0])) :
  Cl 43 [.agg [.ints .i64 [z0],.int .i64 out,.ints .i64 data,.ints .i64 [b0],.ints .i64 O,slQ (fun k=>txq (wqN rq O 1 k)) 2]] (.tup [slQ (fun j=>txq (smF (fun k=>wqN rq O 1 k*(((U k).getD j 0:Int):Rat)) 1/65535)) out.toNat,.int .i64 0]):=by
 have v1:∀ j:Nat,j<out.toNat→Cl 85 [.int .i64 (j:Int),.ref [.slf 1 2 (fun j=>List.take 1 (List.drop (j*1) [.ints .i64 (U 0),.ints .i64 (U 1)]))],.ref [slQ (fun k=>txq (wqN rq O 1 k)) 2]] (.tup [frT (smF (fun k=>wqN rq O 1 k*(((U k).getD j 0:Int):Rat)) 1/65535),.int .i64 0]):=by
  intro j hj
  have fu:=jat (n:=65535) (by omega)
  have fm:∀ k,k<2→Fq 92 (wqN rq O 1 k*(((U k).getD j 0:Int):Rat)):=fun k hk=>(fq_wq fr O 1 k).mul (jaB (n:=5) (by have:=(hU k hk).2 j;omega) (by omega))
  have i0:=jat (n:=(U 0).getD j 0) (by have:=(hU 0 (by omega)).2 j;omega)
  have u0:=zmul (fq_wq fr O 1 0) (jaB (n:=5) (z:=(U 0).getD j 0) (by have:=(hU 0 (by omega)).2 j;omega) (by omega)) (by decide) (by decide) (by decide)
  have m0:=prod2_0 (fun k=>txq (wqN rq O 1 k)) (fun k=>txq (wqN rq O 1 k*(((U k).getD j 0:Int):Rat))) U j _ _ (by rw[(hU 0 (by omega)).1];exact hj) i0 u0
  have i1:=jat (n:=(U 1).getD j 0) (by have:=(hU 1 (by omega)).2 j;omega)
  have u1:=zmul (fq_wq fr O 1 1) (jaB (n:=5) (z:=(U 1).getD j 0) (by have:=(hU 1 (by omega)).2 j;omega) (by omega)) (by decide) (by decide) (by decide)
  have m1:=prod2_1 (fun k=>txq (wqN rq O 1 k)) (fun k=>txq (wqN rq O 1 k*(((U k).getD j 0:Int):Rat))) U j _ _ (by rw[(hU 1 (by omega)).1];exact hj) i1 u1
  have li:=list2_3 (fun k=>txq (wqN rq O 1 k*(((U k).getD j 0:Int):Rat))) m0 m1
  have s0:Fq 92 (smF (fun k=>wqN rq O 1 k*(((U k).getD j 0:Int):Rat)) 0):=fm 0 (by omega)
  have s1:Fq 185 (smF (fun k=>wqN rq O 1 k*(((U k).getD j 0:Int):Rat)) 1):=s0.add (fm 1 (by omega))
  have su:=sum2 (fun k=>txq (wqN rq O 1 k*(((U k).getD j 0:Int):Rat))) (fun k=>txq (smF (fun k=>wqN rq O 1 k*(((U k).getD j 0:Int):Rat)) k)) rfl (zadd s0 (fm 1 (by omega)) (by decide) (by decide) (by decide))
  have dv:=zdiv s1 (jaB (n:=5) (z:=65535) jaF (by decide)) jbu (by decide) (by decide) (by decide)
  rw[show ((65535:Int):Rat)=65535 from rfl] at fu dv
  exact val1_2 (fun k=>txq (wqN rq O 1 k)) (fun k=>txq (wqN rq O 1 k*(((U k).getD j 0:Int):Rat))) (fun k=>txq (smF (fun k=>wqN rq O 1 k*(((U k).getD j 0:Int):Rat)) k)) U j _ _ _ _ li su fu dv
 refine value1_t z0 b0 out data O (fun k=>txq (wqN rq O 1 k)) U _ _ hl hx hi pt ?_
 have h4:out=1∨out=2∨out=3∨out=4:=by omega
 rcases h4 with e|e|e|e<;>subst e
 ·exact jhU (z:=0) (fun j=>txq (smF (fun k=>wqN rq O 1 k*(((U k).getD j 0:Int):Rat)) 1/65535)) (v1 0 (by decide))
 ·exact jhT (z:=0) (fun j=>txq (smF (fun k=>wqN rq O 1 k*(((U k).getD j 0:Int):Rat)) 1/65535)) (v1 0 (by decide)) (v1 1 (by decide))
 ·exact jhS (z:=0) (fun j=>txq (smF (fun k=>wqN rq O 1 k*(((U k).getD j 0:Int):Rat)) 1/65535)) (v1 0 (by decide)) (v1 1 (by decide)) (v1 2 (by decide))
 ·exact jhR (z:=0) (fun j=>txq (smF (fun k=>wqN rq O 1 k*(((U k).getD j 0:Int):Rat)) 1/65535)) (v1 0 (by decide)) (v1 1 (by decide)) (v1 2 (by decide)) (v1 3 (by decide))
theorem valU2 (z0 z1 b0 b1 out:Int)(data O:List Int)(rq:Nat→Rat)(fr:∀ k,Fq 43 (rq k))(U:Nat→List Int)(ho:1≤out∧out≤4)(hU:∀ k,k<3→(U k).length=out.toNat ∧ ∀ j,0≤(U k).getD j 0∧(U k).getD j 0≤65535)(hl:O.length=2)(hx:∀ k,k<2→0≤O.getD k 0∧O.getD k 0<4)(hi:∀ k,k<2→InR .i64 ((atK [b0,b1,0,0] O k).getD (O.getD k 0).toNat 0+1))
  (pt:∀ k,k<3→Cl 82 [.agg [.ints .i64 [z0,z1],.int .i64 out,.ints .i64 data,.ints .i64 [b0,b1],.ints .i64 O,slQ (fun k=>txq (wqN rq O 2 k)) 3],.iarr .i64 (atK [b0,b1,0,0] O k)] (.tup [.ints .i64 (U k),.int .i64 0])) :
  Cl 43 [.agg [.ints .i64 [z0,z1],.int .i64 out,.ints .i64 data,.ints .i64 [b0,b1],.ints .i64 O,slQ (fun k=>txq (wqN rq O 2 k)) 3]] (.tup [slQ (fun j=>txq (smF (fun k=>wqN rq O 2 k*(((U k).getD j 0:Int):Rat)) 2/65535)) out.toNat,.int .i64 0]):=by
 have v1:∀ j:Nat,j<out.toNat→Cl 85 [.int .i64 (j:Int),.ref [.slf 1 3 (fun j=>List.take 1 (List.drop (j*1) [.ints .i64 (U 0),.ints .i64 (U 1),.ints .i64 (U 2)]))],.ref [slQ (fun k=>txq (wqN rq O 2 k)) 3]] (.tup [frT (smF (fun k=>wqN rq O 2 k*(((U k).getD j 0:Int):Rat)) 2/65535),.int .i64 0]):=by
  intro j hj
  have fu:=jat (n:=65535) (by omega)
  have fm:∀ k,k<3→Fq 92 (wqN rq O 2 k*(((U k).getD j 0:Int):Rat)):=fun k hk=>(fq_wq fr O 2 k).mul (jaB (n:=5) (by have:=(hU k hk).2 j;omega) (by omega))
  have i0:=jat (n:=(U 0).getD j 0) (by have:=(hU 0 (by omega)).2 j;omega)
  have u0:=zmul (fq_wq fr O 2 0) (jaB (n:=5) (z:=(U 0).getD j 0) (by have:=(hU 0 (by omega)).2 j;omega) (by omega)) (by decide) (by decide) (by decide)
  have m0:=prod3_0 (fun k=>txq (wqN rq O 2 k)) (fun k=>txq (wqN rq O 2 k*(((U k).getD j 0:Int):Rat))) U j _ _ (by rw[(hU 0 (by omega)).1];exact hj) i0 u0
  have i1:=jat (n:=(U 1).getD j 0) (by have:=(hU 1 (by omega)).2 j;omega)
  have u1:=zmul (fq_wq fr O 2 1) (jaB (n:=5) (z:=(U 1).getD j 0) (by have:=(hU 1 (by omega)).2 j;omega) (by omega)) (by decide) (by decide) (by decide)
  have m1:=prod3_1 (fun k=>txq (wqN rq O 2 k)) (fun k=>txq (wqN rq O 2 k*(((U k).getD j 0:Int):Rat))) U j _ _ (by rw[(hU 1 (by omega)).1];exact hj) i1 u1
  have i2:=jat (n:=(U 2).getD j 0) (by have:=(hU 2 (by omega)).2 j;omega)
  have u2:=zmul (fq_wq fr O 2 2) (jaB (n:=5) (z:=(U 2).getD j 0) (by have:=(hU 2 (by omega)).2 j;omega) (by omega)) (by decide) (by decide) (by decide)
  have m2:=prod3_2 (fun k=>txq (wqN rq O 2 k)) (fun k=>txq (wqN rq O 2 k*(((U k).getD j 0:Int):Rat))) U j _ _ (by rw[(hU 2 (by omega)).1];exact hj) i2 u2
  have li:=list3_3 (fun k=>txq (wqN rq O 2 k*(((U k).getD j 0:Int):Rat))) m0 m1 m2
  have s0:Fq 92 (smF (fun k=>wqN rq O 2 k*(((U k).getD j 0:Int):Rat)) 0):=fm 0 (by omega)
  have s1:Fq 185 (smF (fun k=>wqN rq O 2 k*(((U k).getD j 0:Int):Rat)) 1):=s0.add (fm 1 (by omega))
  have s2:Fq 278 (smF (fun k=>wqN rq O 2 k*(((U k).getD j 0:Int):Rat)) 2):=s1.add (fm 2 (by omega))
  have su:=sum3 (fun k=>txq (wqN rq O 2 k*(((U k).getD j 0:Int):Rat))) (fun k=>txq (smF (fun k=>wqN rq O 2 k*(((U k).getD j 0:Int):Rat)) k)) rfl (zadd s0 (fm 1 (by omega)) (by decide) (by decide) (by decide)) (zadd s1 (fm 2 (by omega)) (by decide) (by decide) (by decide))
  have dv:=zdiv s2 (jaB (n:=5) (z:=65535) jaF (by decide)) jbu (by decide) (by decide) (by decide)
  rw[show ((65535:Int):Rat)=65535 from rfl] at fu dv
  exact val1_3 (fun k=>txq (wqN rq O 2 k)) (fun k=>txq (wqN rq O 2 k*(((U k).getD j 0:Int):Rat))) (fun k=>txq (smF (fun k=>wqN rq O 2 k*(((U k).getD j 0:Int):Rat)) k)) U j _ _ _ _ li su fu dv
 refine value2_t z0 z1 b0 b1 out data O (fun k=>txq (wqN rq O 2 k)) U _ _ hl hx hi pt ?_
 have h4:out=1∨out=2∨out=3∨out=4:=by omega
 rcases h4 with e|e|e|e<;>subst e
 ·exact jhU (z:=0) (fun j=>txq (smF (fun k=>wqN rq O 2 k*(((U k).getD j 0:Int):Rat)) 2/65535)) (v1 0 (by decide))
 ·exact jhT (z:=0) (fun j=>txq (smF (fun k=>wqN rq O 2 k*(((U k).getD j 0:Int):Rat)) 2/65535)) (v1 0 (by decide)) (v1 1 (by decide))
 ·exact jhS (z:=0) (fun j=>txq (smF (fun k=>wqN rq O 2 k*(((U k).getD j 0:Int):Rat)) 2/65535)) (v1 0 (by decide)) (v1 1 (by decide)) (v1 2 (by decide))
 ·exact jhR (z:=0) (fun j=>txq (smF (fun k=>wqN rq O 2 k*(((U k).getD j 0:Int):Rat)) 2/65535)) (v1 0 (by decide)) (v1 1 (by decide)) (v1 2 (by decide)) (v1 3 (by decide))
theorem valU3 (z0 z1 z2 b0 b1 b2 out:Int)(data O:List Int)(rq:Nat→Rat)(fr:∀ k,Fq 43 (rq k))(U:Nat→List Int)(ho:1≤out∧out≤4)(hU:∀ k,k<4→(U k).length=out.toNat ∧ ∀ j,0≤(U k).getD j 0∧(U k).getD j 0≤65535)(hl:O.length=3)(hx:∀ k,k<3→0≤O.getD k 0∧O.getD k 0<4)(hi:∀ k,k<3→InR .i64 ((atK [b0,b1,b2,0] O k).getD (O.getD k 0).toNat 0+1))
  (pt:∀ k,k<4→Cl 82 [.agg [.ints .i64 [z0,z1,z2],.int .i64 out,.ints .i64 data,.ints .i64 [b0,b1,b2],.ints .i64 O,slQ (fun k=>txq (wqN rq O 3 k)) 4],.iarr .i64 (atK [b0,b1,b2,0] O k)] (.tup [.ints .i64 (U k),.int .i64 0])) :
  Cl 43 [.agg [.ints .i64 [z0,z1,z2],.int .i64 out,.ints .i64 data,.ints .i64 [b0,b1,b2],.ints .i64 O,slQ (fun k=>txq (wqN rq O 3 k)) 4]] (.tup [slQ (fun j=>txq (smF (fun k=>wqN rq O 3 k*(((U k).getD j 0:Int):Rat)) 3/65535)) out.toNat,.int .i64 0]):=by
 have v1:∀ j:Nat,j<out.toNat→Cl 85 [.int .i64 (j:Int),.ref [.slf 1 4 (fun j=>List.take 1 (List.drop (j*1) [.ints .i64 (U 0),.ints .i64 (U 1),.ints .i64 (U 2),.ints .i64 (U 3)]))],.ref [slQ (fun k=>txq (wqN rq O 3 k)) 4]] (.tup [frT (smF (fun k=>wqN rq O 3 k*(((U k).getD j 0:Int):Rat)) 3/65535),.int .i64 0]):=by
  intro j hj
  have fu:=jat (n:=65535) (by omega)
  have fm:∀ k,k<4→Fq 92 (wqN rq O 3 k*(((U k).getD j 0:Int):Rat)):=fun k hk=>(fq_wq fr O 3 k).mul (jaB (n:=5) (by have:=(hU k hk).2 j;omega) (by omega))
  have i0:=jat (n:=(U 0).getD j 0) (by have:=(hU 0 (by omega)).2 j;omega)
  have u0:=zmul (fq_wq fr O 3 0) (jaB (n:=5) (z:=(U 0).getD j 0) (by have:=(hU 0 (by omega)).2 j;omega) (by omega)) (by decide) (by decide) (by decide)
  have m0:=prod4_0 (fun k=>txq (wqN rq O 3 k)) (fun k=>txq (wqN rq O 3 k*(((U k).getD j 0:Int):Rat))) U j _ _ (by rw[(hU 0 (by omega)).1];exact hj) i0 u0
  have i1:=jat (n:=(U 1).getD j 0) (by have:=(hU 1 (by omega)).2 j;omega)
  have u1:=zmul (fq_wq fr O 3 1) (jaB (n:=5) (z:=(U 1).getD j 0) (by have:=(hU 1 (by omega)).2 j;omega) (by omega)) (by decide) (by decide) (by decide)
  have m1:=prod4_1 (fun k=>txq (wqN rq O 3 k)) (fun k=>txq (wqN rq O 3 k*(((U k).getD j 0:Int):Rat))) U j _ _ (by rw[(hU 1 (by omega)).1];exact hj) i1 u1
  have i2:=jat (n:=(U 2).getD j 0) (by have:=(hU 2 (by omega)).2 j;omega)
  have u2:=zmul (fq_wq fr O 3 2) (jaB (n:=5) (z:=(U 2).getD j 0) (by have:=(hU 2 (by omega)).2 j;omega) (by omega)) (by decide) (by decide) (by decide)
  have m2:=prod4_2 (fun k=>txq (wqN rq O 3 k)) (fun k=>txq (wqN rq O 3 k*(((U k).getD j 0:Int):Rat))) U j _ _ (by rw[(hU 2 (by omega)).1];exact hj) i2 u2
  have i3:=jat (n:=(U 3).getD j 0) (by have:=(hU 3 (by omega)).2 j;omega)
  have u3:=zmul (fq_wq fr O 3 3) (jaB (n:=5) (z:=(U 3).getD j 0) (by have:=(hU 3 (by omega)).2 j;omega) (by omega)) (by decide) (by decide) (by decide)
  have m3:=prod4_3 (fun k=>txq (wqN rq O 3 k)) (fun k=>txq (wqN rq O 3 k*(((U k).getD j 0:Int):Rat))) U j _ _ (by rw[(hU 3 (by omega)).1];exact hj) i3 u3
  have li:=list4_3 (fun k=>txq (wqN rq O 3 k*(((U k).getD j 0:Int):Rat))) m0 m1 m2 m3
  have s0:Fq 92 (smF (fun k=>wqN rq O 3 k*(((U k).getD j 0:Int):Rat)) 0):=fm 0 (by omega)
  have s1:Fq 185 (smF (fun k=>wqN rq O 3 k*(((U k).getD j 0:Int):Rat)) 1):=s0.add (fm 1 (by omega))
  have s2:Fq 278 (smF (fun k=>wqN rq O 3 k*(((U k).getD j 0:Int):Rat)) 2):=s1.add (fm 2 (by omega))
  have s3:Fq 371 (smF (fun k=>wqN rq O 3 k*(((U k).getD j 0:Int):Rat)) 3):=s2.add (fm 3 (by omega))
  have su:=sum4 (fun k=>txq (wqN rq O 3 k*(((U k).getD j 0:Int):Rat))) (fun k=>txq (smF (fun k=>wqN rq O 3 k*(((U k).getD j 0:Int):Rat)) k)) rfl (zadd s0 (fm 1 (by omega)) (by decide) (by decide) (by decide)) (zadd s1 (fm 2 (by omega)) (by decide) (by decide) (by decide)) (zadd s2 (fm 3 (by omega)) (by decide) (by decide) (by decide))
  have dv:=zdiv s3 (jaB (n:=5) (z:=65535) jaF (by decide)) jbu (by decide) (by decide) (by decide)
  rw[show ((65535:Int):Rat)=65535 from rfl] at fu dv
  exact val1_4 (fun k=>txq (wqN rq O 3 k)) (fun k=>txq (wqN rq O 3 k*(((U k).getD j 0:Int):Rat))) (fun k=>txq (smF (fun k=>wqN rq O 3 k*(((U k).getD j 0:Int):Rat)) k)) U j _ _ _ _ li su fu dv
 refine value3_t z0 z1 z2 b0 b1 b2 out data O (fun k=>txq (wqN rq O 3 k)) U _ _ hl hx hi pt ?_
 have h4:out=1∨out=2∨out=3∨out=4:=by omega
 rcases h4 with e|e|e|e<;>subst e
 ·exact jhU (z:=0) (fun j=>txq (smF (fun k=>wqN rq O 3 k*(((U k).getD j 0:Int):Rat)) 3/65535)) (v1 0 (by decide))
 ·exact jhT (z:=0) (fun j=>txq (smF (fun k=>wqN rq O 3 k*(((U k).getD j 0:Int):Rat)) 3/65535)) (v1 0 (by decide)) (v1 1 (by decide))
 ·exact jhS (z:=0) (fun j=>txq (smF (fun k=>wqN rq O 3 k*(((U k).getD j 0:Int):Rat)) 3/65535)) (v1 0 (by decide)) (v1 1 (by decide)) (v1 2 (by decide))
 ·exact jhR (z:=0) (fun j=>txq (smF (fun k=>wqN rq O 3 k*(((U k).getD j 0:Int):Rat)) 3/65535)) (v1 0 (by decide)) (v1 1 (by decide)) (v1 2 (by decide)) (v1 3 (by decide))
theorem pad2 (a b c d e:Rat):a+b+(c-0)*d+0*e=a+b+c*d:=by grind
theorem pad1 (a c d e f:Rat):a+(c-0)*d+(0-0)*e+0*f=a+c*d:=by grind
theorem inr9 {z:Int}(h:0≤z∧z≤100):InR .i64 z:=⟨by show (-9223372036854775808:Int)≤z;omega,by show z≤9223372036854775807;omega⟩
theorem corn1 {O:List Int}(h:O=[0])(b0:Int):O.length=1∧(∀ k,k<1→0≤O.getD k 0∧O.getD k 0<4) ∧ ∀ k,k<2 → ∃ i0:Int,atK [b0,0,0,0] O k=[i0,0,0,0]∧b0≤i0∧i0≤b0+1:=by
 subst h
 ·refine⟨rfl,fun k hk=>?_,fun k hk=>?_⟩
  ·have h:k=0:=by omega
   subst h
   decide
  ·have h:k=0∨k=1:=by omega
   rcases h with rfl|rfl
   ·exact⟨b0,rfl,by omega⟩
   ·exact⟨b0+1,rfl,by omega⟩
theorem ev1_sm {x0:Rat}{z0:Int}(s0:2≤z0)(out:Int)(data:List Int)(j:Nat):evQ [z0] out data x0 0 0 j=smF (fun k=>wqN (rqN (spR z0 x0) 0 0) [0] 1 k*(((slot data (pz ([z0].zip ((atK [spB z0 x0,0,0,0] [0] k).take 1))*out) out).getD j 0:Int):Rat)) 1/65535:=by
 unfold evQ
 refine congrArg (· / 65535) ?_
 show evF z0 2 2 (gvF [z0] out data j) x0 0 0=_
 unfold evF
 rw[sp_20.1,sp_20.2,ord3_10 (spR_nn s0 x0)]
 all_goals exact pad1 _ _ _ _ _
theorem valq1 {x0:Rat}{z0 out:Int}{data:List Int}(hg:jag [z0] out data=true)(h0:Fq 40 x0) :
  Cl 43 [.agg [.ints .i64 [z0],.int .i64 out,.ints .i64 data,.ints .i64 [spB z0 x0],.ints .i64 [0],slQ (fun k=>txq (wqN (rqN (spR z0 x0) 0 0) [0] 1 k)) 2]] (.tup [slQ (fun j=>txq (evQ [z0] out data x0 0 0 j)) out.toNat,.int .i64 0]):=by
 have og:=jap hg
 have s0:=og.2.1 z0 (by simp)
 have f0:=jaX h0 (by decide) s0
 have b0:=jb2 s0.1 x0
 have fr:∀ k,Fq 43 (rqN (spR z0 x0) 0 0 k):=fq_rq f0 jbj jbj
 obtain⟨ol,ox,oc⟩:=corn1 (O:=[0]) rfl (spB z0 x0)
 have oi:∀ k,k<2→okIdx [z0] ((atK [spB z0 x0,0,0,0] [0] k).take 1)=true:=by
  intro k hk
  obtain⟨i0,e,hh⟩:=oc k hk
  rw[e]
  simp[okIdx]
  omega
 have g:=valU1 z0 (spB z0 x0) out data [0] (rqN (spR z0 x0) 0 0) fr (fun k=>slot data (pz ([z0].zip ((atK [spB z0 x0,0,0,0] [0] k).take 1))*out) out) og.1 (fun k hk=>⟨ja3 hg (oi k hk),jaR og.2.2.2 _ _⟩) ol ox (fun k hk=>?_) (fun k hk=>?_)
 ·rw[show (fun j=>txq (evQ [z0] out data x0 0 0 j))=_ from funext fun j=>congrArg txq (ev1_sm s0.1 out data j)]
  exact g
 ·obtain⟨i0,e,hh⟩:=oc k (by omega)
  rw[e]
  refine inr9 ?_
  have:=jaQ (l:=[i0,0,0,0]) (p:=fun v=>0≤v∧v≤9) (by intro v hv;simp only[jjH,List.not_mem_nil,or_false] at hv;omega) (by omega) (([0]:List Int).getD k 0).toNat
  omega
 ·exact point1_t z0 (spB z0 x0) out data _ _ _ (fun k=>txq (wqN (rqN (spR z0 x0) 0 0) [0] 1 k)) (jbb _ _ k rfl) (gat_at hg (oi k hk) (by simp) (by rw[jjM];omega))
theorem corn2 {O:List Int}(h:O=[0,1]∨O=[1,0])(b0 b1:Int):O.length=2∧(∀ k,k<2→0≤O.getD k 0∧O.getD k 0<4) ∧ ∀ k,k<3 → ∃ i0 i1:Int,atK [b0,b1,0,0] O k=[i0,i1,0,0]∧b0≤i0∧i0≤b0+1∧b1≤i1∧i1≤b1+1:=by
 rcases h with rfl|rfl
 ·refine⟨rfl,fun k hk=>?_,fun k hk=>?_⟩
  ·have h:k=0∨k=1:=by omega
   rcases h with rfl|rfl<;>decide
  ·have h:k=0∨k=1∨k=2:=by omega
   rcases h with rfl|rfl|rfl
   ·exact⟨b0,b1,rfl,by omega⟩
   ·exact⟨b0+1,b1,rfl,by omega⟩
   ·exact⟨b0+1,b1+1,rfl,by omega⟩
 ·refine⟨rfl,fun k hk=>?_,fun k hk=>?_⟩
  ·have h:k=0∨k=1:=by omega
   rcases h with rfl|rfl<;>decide
  ·have h:k=0∨k=1∨k=2:=by omega
   rcases h with rfl|rfl|rfl
   ·exact⟨b0,b1,rfl,by omega⟩
   ·exact⟨b0,b1+1,rfl,by omega⟩
   ·exact⟨b0+1,b1+1,rfl,by omega⟩
theorem ev2_sm {x0 x1:Rat}{z0 z1:Int}(s0:2≤z0)(s1:2≤z1)(out:Int)(data:List Int)(j:Nat):evQ [z0,z1] out data x0 x1 0 j=smF (fun k=>wqN (rqN (spR z0 x0) (spR z1 x1) 0) (ord2 (spR z0 x0) (spR z1 x1)) 2 k*(((slot data (pz ([z0,z1].zip ((atK [spB z0 x0,spB z1 x1,0,0] (ord2 (spR z0 x0) (spR z1 x1)) k).take 2))*out) out).getD j 0:Int):Rat)) 2/65535:=by
 unfold evQ
 refine congrArg (· / 65535) ?_
 show evF z0 z1 2 (gvF [z0,z1] out data j) x0 x1 0=_
 unfold evF
 rw[sp_20.1,sp_20.2,ord3_20 (spR_nn s0 x0) (spR_nn s1 x1)]
 rcases jeG (spR z0 x0) (spR z1 x1) with e|e
 all_goals rw[e]
 all_goals exact pad2 _ _ _ _ _
theorem valq2 {x0 x1:Rat}{z0 z1 out:Int}{data:List Int}(hg:jag [z0,z1] out data=true)(h0:Fq 40 x0)(h1:Fq 40 x1) :
  Cl 43 [.agg [.ints .i64 [z0,z1],.int .i64 out,.ints .i64 data,.ints .i64 [spB z0 x0,spB z1 x1],.ints .i64 (ord2 (spR z0 x0) (spR z1 x1)),slQ (fun k=>txq (wqN (rqN (spR z0 x0) (spR z1 x1) 0) (ord2 (spR z0 x0) (spR z1 x1)) 2 k)) 3]] (.tup [slQ (fun j=>txq (evQ [z0,z1] out data x0 x1 0 j)) out.toNat,.int .i64 0]):=by
 have og:=jap hg
 have s0:=og.2.1 z0 (by simp)
 have f0:=jaX h0 (by decide) s0
 have b0:=jb2 s0.1 x0
 have s1:=og.2.1 z1 (by simp)
 have f1:=jaX h1 (by decide) s1
 have b1:=jb2 s1.1 x1
 have fr:∀ k,Fq 43 (rqN (spR z0 x0) (spR z1 x1) 0 k):=fq_rq f0 f1 jbj
 obtain⟨ol,ox,oc⟩:=corn2 (O:=(ord2 (spR z0 x0) (spR z1 x1))) (jeG _ _) (spB z0 x0) (spB z1 x1)
 have oi:∀ k,k<3→okIdx [z0,z1] ((atK [spB z0 x0,spB z1 x1,0,0] (ord2 (spR z0 x0) (spR z1 x1)) k).take 2)=true:=by
  intro k hk
  obtain⟨i0,i1,e,hh⟩:=oc k hk
  rw[e]
  simp[okIdx]
  omega
 have g:=valU2 z0 z1 (spB z0 x0) (spB z1 x1) out data (ord2 (spR z0 x0) (spR z1 x1)) (rqN (spR z0 x0) (spR z1 x1) 0) fr (fun k=>slot data (pz ([z0,z1].zip ((atK [spB z0 x0,spB z1 x1,0,0] (ord2 (spR z0 x0) (spR z1 x1)) k).take 2))*out) out) og.1 (fun k hk=>⟨ja3 hg (oi k hk),jaR og.2.2.2 _ _⟩) ol ox (fun k hk=>?_) (fun k hk=>?_)
 ·rw[show (fun j=>txq (evQ [z0,z1] out data x0 x1 0 j))=_ from funext fun j=>congrArg txq (ev2_sm s0.1 s1.1 out data j)]
  exact g
 ·obtain⟨i0,i1,e,hh⟩:=oc k (by omega)
  rw[e]
  refine inr9 ?_
  have:=jaQ (l:=[i0,i1,0,0]) (p:=fun v=>0≤v∧v≤9) (by intro v hv;simp only[jjH,List.not_mem_nil,or_false] at hv;omega) (by omega) (((ord2 (spR z0 x0) (spR z1 x1)):List Int).getD k 0).toNat
  omega
 ·exact point2_t z0 z1 (spB z0 x0) (spB z1 x1) out data _ _ _ (fun k=>txq (wqN (rqN (spR z0 x0) (spR z1 x1) 0) (ord2 (spR z0 x0) (spR z1 x1)) 2 k)) (jbb _ _ k rfl) (gat_at hg (oi k hk) (by simp) (by rw[jjM];omega))
theorem corn3 {O:List Int}(h:O=[0,1,2]∨O=[0,2,1]∨O=[1,0,2]∨O=[1,2,0]∨O=[2,0,1]∨O=[2,1,0])(b0 b1 b2:Int):O.length=3∧(∀ k,k<3→0≤O.getD k 0∧O.getD k 0<4) ∧ ∀ k,k<4 → ∃ i0 i1 i2:Int,atK [b0,b1,b2,0] O k=[i0,i1,i2,0]∧b0≤i0∧i0≤b0+1∧b1≤i1∧i1≤b1+1∧b2≤i2∧i2≤b2+1:=by
 rcases h with rfl|rfl|rfl|rfl|rfl|rfl
 ·refine⟨rfl,fun k hk=>?_,fun k hk=>?_⟩
  ·have h:k=0∨k=1∨k=2:=by omega
   rcases h with rfl|rfl|rfl<;>decide
  ·have h:k=0∨k=1∨k=2∨k=3:=by omega
   rcases h with rfl|rfl|rfl|rfl
   ·exact⟨b0,b1,b2,rfl,by omega⟩
   ·exact⟨b0+1,b1,b2,rfl,by omega⟩
   ·exact⟨b0+1,b1+1,b2,rfl,by omega⟩
   ·exact⟨b0+1,b1+1,b2+1,rfl,by omega⟩
 ·refine⟨rfl,fun k hk=>?_,fun k hk=>?_⟩
  ·have h:k=0∨k=1∨k=2:=by omega
   rcases h with rfl|rfl|rfl<;>decide
  ·have h:k=0∨k=1∨k=2∨k=3:=by omega
   rcases h with rfl|rfl|rfl|rfl
   ·exact⟨b0,b1,b2,rfl,by omega⟩
   ·exact⟨b0+1,b1,b2,rfl,by omega⟩
   ·exact⟨b0+1,b1,b2+1,rfl,by omega⟩
   ·exact⟨b0+1,b1+1,b2+1,rfl,by omega⟩
 ·refine⟨rfl,fun k hk=>?_,fun k hk=>?_⟩
  ·have h:k=0∨k=1∨k=2:=by omega
   rcases h with rfl|rfl|rfl<;>decide
  ·have h:k=0∨k=1∨k=2∨k=3:=by omega
   rcases h with rfl|rfl|rfl|rfl
   ·exact⟨b0,b1,b2,rfl,by omega⟩
   ·exact⟨b0,b1+1,b2,rfl,by omega⟩
   ·exact⟨b0+1,b1+1,b2,rfl,by omega⟩
   ·exact⟨b0+1,b1+1,b2+1,rfl,by omega⟩
 ·refine⟨rfl,fun k hk=>?_,fun k hk=>?_⟩
  ·have h:k=0∨k=1∨k=2:=by omega
   rcases h with rfl|rfl|rfl<;>decide
  ·have h:k=0∨k=1∨k=2∨k=3:=by omega
   rcases h with rfl|rfl|rfl|rfl
   ·exact⟨b0,b1,b2,rfl,by omega⟩
   ·exact⟨b0,b1+1,b2,rfl,by omega⟩
   ·exact⟨b0,b1+1,b2+1,rfl,by omega⟩
   ·exact⟨b0+1,b1+1,b2+1,rfl,by omega⟩
 ·refine⟨rfl,fun k hk=>?_,fun k hk=>?_⟩
  ·have h:k=0∨k=1∨k=2:=by omega
   rcases h with rfl|rfl|rfl<;>decide
  ·have h:k=0∨k=1∨k=2∨k=3:=by omega
   rcases h with rfl|rfl|rfl|rfl
   ·exact⟨b0,b1,b2,rfl,by omega⟩
   ·exact⟨b0,b1,b2+1,rfl,by omega⟩
   ·exact⟨b0+1,b1,b2+1,rfl,by omega⟩
   ·exact⟨b0+1,b1+1,b2+1,rfl,by omega⟩
 ·refine⟨rfl,fun k hk=>?_,fun k hk=>?_⟩
  ·have h:k=0∨k=1∨k=2:=by omega
   rcases h with rfl|rfl|rfl<;>decide
  ·have h:k=0∨k=1∨k=2∨k=3:=by omega
   rcases h with rfl|rfl|rfl|rfl
   ·exact⟨b0,b1,b2,rfl,by omega⟩
   ·exact⟨b0,b1,b2+1,rfl,by omega⟩
   ·exact⟨b0,b1+1,b2+1,rfl,by omega⟩
   ·exact⟨b0+1,b1+1,b2+1,rfl,by omega⟩
theorem ev3_sm {x0 x1 x2:Rat}{z0 z1 z2:Int}(s0:2≤z0)(s1:2≤z1)(s2:2≤z2)(out:Int)(data:List Int)(j:Nat):evQ [z0,z1,z2] out data x0 x1 x2 j=smF (fun k=>wqN (rqN (spR z0 x0) (spR z1 x1) (spR z2 x2)) (ord3 (spR z0 x0) (spR z1 x1) (spR z2 x2)) 3 k*(((slot data (pz ([z0,z1,z2].zip ((atK [spB z0 x0,spB z1 x1,spB z2 x2,0] (ord3 (spR z0 x0) (spR z1 x1) (spR z2 x2)) k).take 3))*out) out).getD j 0:Int):Rat)) 3/65535:=by
 unfold evQ
 refine congrArg (· / 65535) ?_
 show evF z0 z1 z2 (gvF [z0,z1,z2] out data j) x0 x1 x2=_
 unfold evF
 rcases jeF (spR z0 x0) (spR z1 x1) (spR z2 x2) with e|e|e|e|e|e
 all_goals rw[e]
 all_goals exact rfl
theorem valq3 {x0 x1 x2:Rat}{z0 z1 z2 out:Int}{data:List Int}(hg:jag [z0,z1,z2] out data=true)(h0:Fq 40 x0)(h1:Fq 40 x1)(h2:Fq 40 x2) :
  Cl 43 [.agg [.ints .i64 [z0,z1,z2],.int .i64 out,.ints .i64 data,.ints .i64 [spB z0 x0,spB z1 x1,spB z2 x2],.ints .i64 (ord3 (spR z0 x0) (spR z1 x1) (spR z2 x2)),slQ (fun k=>txq (wqN (rqN (spR z0 x0) (spR z1 x1) (spR z2 x2)) (ord3 (spR z0 x0) (spR z1 x1) (spR z2 x2)) 3 k)) 4]] (.tup [slQ (fun j=>txq (evQ [z0,z1,z2] out data x0 x1 x2 j)) out.toNat,.int .i64 0]):=by
 have og:=jap hg
 have s0:=og.2.1 z0 (by simp)
 have f0:=jaX h0 (by decide) s0
 have b0:=jb2 s0.1 x0
 have s1:=og.2.1 z1 (by simp)
 have f1:=jaX h1 (by decide) s1
 have b1:=jb2 s1.1 x1
 have s2:=og.2.1 z2 (by simp)
 have f2:=jaX h2 (by decide) s2
 have b2:=jb2 s2.1 x2
 have fr:∀ k,Fq 43 (rqN (spR z0 x0) (spR z1 x1) (spR z2 x2) k):=fq_rq f0 f1 f2
 obtain⟨ol,ox,oc⟩:=corn3 (O:=(ord3 (spR z0 x0) (spR z1 x1) (spR z2 x2))) (jeF _ _ _) (spB z0 x0) (spB z1 x1) (spB z2 x2)
 have oi:∀ k,k<4→okIdx [z0,z1,z2] ((atK [spB z0 x0,spB z1 x1,spB z2 x2,0] (ord3 (spR z0 x0) (spR z1 x1) (spR z2 x2)) k).take 3)=true:=by
  intro k hk
  obtain⟨i0,i1,i2,e,hh⟩:=oc k hk
  rw[e]
  simp[okIdx]
  omega
 have g:=valU3 z0 z1 z2 (spB z0 x0) (spB z1 x1) (spB z2 x2) out data (ord3 (spR z0 x0) (spR z1 x1) (spR z2 x2)) (rqN (spR z0 x0) (spR z1 x1) (spR z2 x2)) fr (fun k=>slot data (pz ([z0,z1,z2].zip ((atK [spB z0 x0,spB z1 x1,spB z2 x2,0] (ord3 (spR z0 x0) (spR z1 x1) (spR z2 x2)) k).take 3))*out) out) og.1 (fun k hk=>⟨ja3 hg (oi k hk),jaR og.2.2.2 _ _⟩) ol ox (fun k hk=>?_) (fun k hk=>?_)
 ·rw[show (fun j=>txq (evQ [z0,z1,z2] out data x0 x1 x2 j))=_ from funext fun j=>congrArg txq (ev3_sm s0.1 s1.1 s2.1 out data j)]
  exact g
 ·obtain⟨i0,i1,i2,e,hh⟩:=oc k (by omega)
  rw[e]
  refine inr9 ?_
  have:=jaQ (l:=[i0,i1,i2,0]) (p:=fun v=>0≤v∧v≤9) (by intro v hv;simp only[jjH,List.not_mem_nil,or_false] at hv;omega) (by omega) (((ord3 (spR z0 x0) (spR z1 x1) (spR z2 x2)):List Int).getD k 0).toNat
  omega
 ·exact point3_t z0 z1 z2 (spB z0 x0) (spB z1 x1) (spB z2 x2) out data _ _ _ (fun k=>txq (wqN (rqN (spR z0 x0) (spR z1 x1) (spR z2 x2)) (ord3 (spR z0 x0) (spR z1 x1) (spR z2 x2)) 3 k)) (jbb _ _ k rfl) (gat_at hg (oi k hk) (by simp) (by rw[jjM];omega))
theorem jiW:type_of% @ji8∧type_of% @tn0∧type_of% @tn1∧type_of% @tn2∧type_of% @tn3∧type_of% @xt4:=⟨@ji8,@tn0,@tn1,@tn2,@tn3,@xt4⟩
theorem loc1_t (z0 out:Int)(data B O:List Int)(X:Nat→Tx)(m:Nat)(F:Nat→List D)(ck:Cl 58 [.agg [.ints .i64 [z0],.int .i64 out,.ints .i64 data]] (.int .i64 0))(fc:∀ k,k<1→Cl 72 [.agg [.str (X k).1,.str (X k).2]] (.int .i64 0))(fi:Cl 73 [.agg [.ints .i64 [z0],.int .i64 out,.ints .i64 data],V.sl2 1 [.str (X 0).1,.str (X 0).2]] (.tup [.agg [.ints .i64 [z0],.int .i64 out,.ints .i64 data,.ints .i64 B,.ints .i64 O,.slf 2 m F],.int .i64 0])) :
  Cl 34 [.agg [.ints .i64 [z0],.int .i64 out,.ints .i64 data],V.sl2 1 [.str (X 0).1,.str (X 0).2]] (.tup [.agg [.ints .i64 [z0],.int .i64 out,.ints .i64 data,.ints .i64 B,.ints .i64 O,.slf 2 m F],.int .i64 0]):=by
 refine V.en tbOk Tryz.func34 ?_
 refine V.r1 @ji8 ck ?_
 refine Cnd.split (CondB.mk (fun h=>absurd h (by simp)) (fun _=>?_))
 refine V.r0 @ji8 ?_
 refine jad (0) (fun k=>k≤1) (fun k=>1-k) (fun k=>[(25,.int .i64 k)]) (fun k=>[]) ?_ ?_ ?_
 ·exact V.wk
 ·exact ji2 _
 intro k hk
 have hk4:k=0∨k=1:=by omega
 rcases hk4 with e|e
 all_goals subst e
 ·simp only[k0]
  have c:=fc 0 (by omega)
  refine V.r1 (V.a3 jiW @Bool.false_eq_true @if_false.{1}) c ?_
  exact⟨1,by omega,by omega,V.wk⟩
 ·simp only[k1]
  refine V.r1 @ji8 fi ?_
  exact Fin.of rfl
theorem loc2_t (z0 z1 out:Int)(data B O:List Int)(X:Nat→Tx)(m:Nat)(F:Nat→List D)(ck:Cl 58 [.agg [.ints .i64 [z0,z1],.int .i64 out,.ints .i64 data]] (.int .i64 0))(fc:∀ k,k<2→Cl 72 [.agg [.str (X k).1,.str (X k).2]] (.int .i64 0))(fi:Cl 73 [.agg [.ints .i64 [z0,z1],.int .i64 out,.ints .i64 data],V.sl2 2 [.str (X 0).1,.str (X 0).2,.str (X 1).1,.str (X 1).2]] (.tup [.agg [.ints .i64 [z0,z1],.int .i64 out,.ints .i64 data,.ints .i64 B,.ints .i64 O,.slf 2 m F],.int .i64 0])) :
  Cl 34 [.agg [.ints .i64 [z0,z1],.int .i64 out,.ints .i64 data],V.sl2 2 [.str (X 0).1,.str (X 0).2,.str (X 1).1,.str (X 1).2]] (.tup [.agg [.ints .i64 [z0,z1],.int .i64 out,.ints .i64 data,.ints .i64 B,.ints .i64 O,.slf 2 m F],.int .i64 0]):=by
 refine V.en tbOk Tryz.func34 ?_
 refine V.r1 @ji8 ck ?_
 refine Cnd.split (CondB.mk (fun h=>absurd h (by simp)) (fun _=>?_))
 refine V.r0 @ji8 ?_
 refine jad (0) (fun k=>k≤2) (fun k=>2-k) (fun k=>[(25,.int .i64 k)]) (fun k=>[]) ?_ ?_ ?_
 ·exact V.wk
 ·exact ji2 _
 intro k hk
 have hk4:k=0∨k=1∨k=2:=by omega
 rcases hk4 with e|e|e
 all_goals subst e
 ·simp only[k0]
  have c:=fc 0 (by omega)
  refine V.r1 (V.a3 jiW @Bool.false_eq_true @if_false.{1}) c ?_
  exact⟨1,by omega,by omega,V.wk⟩
 ·simp only[k1]
  have c:=fc 1 (by omega)
  refine V.r1 (V.a3 jiW @Bool.false_eq_true @if_false.{1}) c ?_
  exact⟨2,by omega,by omega,V.wk⟩
 ·simp only[k2]
  refine V.r1 @ji8 fi ?_
  exact Fin.of rfl
theorem loc3_t (z0 z1 z2 out:Int)(data B O:List Int)(X:Nat→Tx)(m:Nat)(F:Nat→List D)(ck:Cl 58 [.agg [.ints .i64 [z0,z1,z2],.int .i64 out,.ints .i64 data]] (.int .i64 0))(fc:∀ k,k<3→Cl 72 [.agg [.str (X k).1,.str (X k).2]] (.int .i64 0))(fi:Cl 73 [.agg [.ints .i64 [z0,z1,z2],.int .i64 out,.ints .i64 data],V.sl2 3 [.str (X 0).1,.str (X 0).2,.str (X 1).1,.str (X 1).2,.str (X 2).1,.str (X 2).2]] (.tup [.agg [.ints .i64 [z0,z1,z2],.int .i64 out,.ints .i64 data,.ints .i64 B,.ints .i64 O,.slf 2 m F],.int .i64 0])) :
  Cl 34 [.agg [.ints .i64 [z0,z1,z2],.int .i64 out,.ints .i64 data],V.sl2 3 [.str (X 0).1,.str (X 0).2,.str (X 1).1,.str (X 1).2,.str (X 2).1,.str (X 2).2]] (.tup [.agg [.ints .i64 [z0,z1,z2],.int .i64 out,.ints .i64 data,.ints .i64 B,.ints .i64 O,.slf 2 m F],.int .i64 0]):=by
 refine V.en tbOk Tryz.func34 ?_
 refine V.r1 @ji8 ck ?_
 refine Cnd.split (CondB.mk (fun h=>absurd h (by simp)) (fun _=>?_))
 refine V.r0 @ji8 ?_
 refine jad (0) (fun k=>k≤3) (fun k=>3-k) (fun k=>[(25,.int .i64 k)]) (fun k=>[]) ?_ ?_ ?_
 ·exact V.wk
 ·exact ji2 _
 intro k hk
 have hk4:k=0∨k=1∨k=2∨k=3:=by omega
 rcases hk4 with e|e|e|e
 all_goals subst e
 ·simp only[k0]
  have c:=fc 0 (by omega)
  refine V.r1 (V.a3 jiW @Bool.false_eq_true @if_false.{1}) c ?_
  exact⟨1,by omega,by omega,V.wk⟩
 ·simp only[k1]
  have c:=fc 1 (by omega)
  refine V.r1 (V.a3 jiW @Bool.false_eq_true @if_false.{1}) c ?_
  exact⟨2,by omega,by omega,V.wk⟩
 ·simp only[k2]
  have c:=fc 2 (by omega)
  refine V.r1 (V.a3 jiW @Bool.false_eq_true @if_false.{1}) c ?_
  exact⟨3,by omega,by omega,V.wk⟩
 ·simp only[k3]
  refine V.r1 @ji8 fi ?_
  exact Fin.of rfl
theorem eval_t (zs data B O:List Int)(out:Int)(n m e0:Nat)(X F Y:Nat→List D)(lo:Cl 34 [.agg [.ints .i64 zs,.int .i64 out,.ints .i64 data],.slf 2 n X] (.tup [.agg [.ints .i64 zs,.int .i64 out,.ints .i64 data,.ints .i64 B,.ints .i64 O,.slf 2 m F],.int .i64 0]))(va:Cl 43 [.agg [.ints .i64 zs,.int .i64 out,.ints .i64 data,.ints .i64 B,.ints .i64 O,.slf 2 m F]] (.tup [.slf 2 e0 Y,.int .i64 0])) :
  Cl 13 [.agg [.ints .i64 zs,.int .i64 out,.ints .i64 data],.slf 2 n X] (.tup [.slf 2 e0 Y,.int .i64 0]):=by
 refine V.en tbOk Tryz.func13 ?_
 refine V.r2 @ji8 lo va ?_
 exact Fin.of rfl
theorem cell_t (zs data B O:List Int)(out:Int)(n m:Nat)(X F:Nat→List D)(lo:Cl 34 [.agg [.ints .i64 zs,.int .i64 out,.ints .i64 data],.slf 2 n X] (.tup [.agg [.ints .i64 zs,.int .i64 out,.ints .i64 data,.ints .i64 B,.ints .i64 O,.slf 2 m F],.int .i64 0])) :
  Cl 11 [.agg [.ints .i64 zs,.int .i64 out,.ints .i64 data],.slf 2 n X] (.tup [.ints .i64 B,.ints .i64 O,.slf 2 m F,.int .i64 0]):=by
 refine V.en tbOk Tryz.func11 ?_
 refine V.r1 @ji8 lo ?_
 refine⟨(V.tk [0,1,2,3,4,5,6,7,8,9] .done),[],V.pok,?_⟩
 refine jab [(4,.ints .i64 B),(5,.ints .i64 O),(6,.slf 2 m F),(7,.int .i64 0)] [] ?_ ?_
 ·exact V.d0 @ji8
 refine V.r0 @ji8 ?_
 exact Fin.of rfl
theorem loc_len (zs data:List Int)(out:Int)(n:Nat)(X:Nat→List D)(h:n≠zs.length)(ck:Cl 58 [.agg [.ints .i64 zs,.int .i64 out,.ints .i64 data]] (.int .i64 0)) :
  Cl 34 [.agg [.ints .i64 zs,.int .i64 out,.ints .i64 data],.slf 2 n X] (.tup [.agg [.nil,.int .i64 0,.nil,.nil,.nil,.nil],.int .i64 2]):=by
 refine V.en tbOk Tryz.func34 ?_
 refine V.r1 @ji8 ck ?_
 refine Cnd.split (CondB.mk (fun _=>?_) (fun g=>absurd (decide_eq_true (show ((n:Int)≠(zs.length:Int)) from by omega)) (by rw[g];decide)))
 refine V.r0 @ji8 ?_
 exact Fin.of rfl
theorem eval_e (zs data:List Int)(out e:Int)(he:e≠0)(n:Nat)(X:Nat→List D)(lo:Cl 34 [.agg [.ints .i64 zs,.int .i64 out,.ints .i64 data],.slf 2 n X] (.tup [.agg [.nil,.int .i64 0,.nil,.nil,.nil,.nil],.int .i64 e])) :
  Cl 13 [.agg [.ints .i64 zs,.int .i64 out,.ints .i64 data],.slf 2 n X] (.tup [.nil,.int .i64 e]):=by
 refine V.en tbOk Tryz.func13 ?_
 refine V.r1 @ji8 lo ?_
 refine Cnd.split (CondB.mk (fun _=>?_) (fun g=>absurd (decide_eq_true he) (by rw[g];decide)))
 refine V.r0 @ji8 ?_
 exact Fin.of rfl
theorem jde {n:Nat}{q:Rat}(h:Fq n q)(h0:0<n∧n≤600):Cl 72 [frT q] (.int .i64 0):=by
 have o:=jaD (h.ok h0.1 h0.2)
 have b:=h.ok h0.1 h0.2
 unfold okF at b
 simp only[ji0,decide_eq_true_eq] at b
 have c:=fcheck_c (decZ q.num) (dec q.den) (by unfold decZ;split<;>(try simp only[jjV])<;>omega) (by omega)
 rw[o.1] at c
 exact c
theorem jbY {zs:List Int}{out:Int}{data:List Int}(hg:jag zs out data=true)(hl:zs.length≤4):Cl 58 [gridD zs out data] (.int .i64 0):=by
 have o:=jap hg
 have c:=jcD zs out data (by omega) (by omega)
 rw[hg] at c
 exact c
theorem locq1 {x0:Rat}{z0 out:Int}{data:List Int}(hg:jag [z0] out data=true)(h0:Fq 40 x0):Cl 34 [gridD [z0] out data,slQ (fun i=>txq (rqN x0 0 0 i)) 1] (.tup [.agg [.ints .i64 [z0],.int .i64 out,.ints .i64 data,.ints .i64 [spB z0 x0],.ints .i64 [0],slQ (fun k=>txq (wqN (rqN (spR z0 x0) 0 0) [0] 1 k)) 2],.int .i64 0]):=by
 have og:=jap hg
 have s0:=og.2.1 z0 (by simp)
 have fc:∀ k,k<1→Cl 72 [frT (rqN x0 0 0 k)] (.int .i64 0):=fun k hk=>by
  have h:k=0:=by omega
  subst h
  ·exact jde h0 (by decide)
 exact loc1_t z0 out data _ _ (fun i=>txq (rqN x0 0 0 i)) _ _ (jbY hg (by simp)) fc (find1_q out data h0 s0)
theorem evalq1 {x0:Rat}{z0 out:Int}{data:List Int}(hg:jag [z0] out data=true)(h0:Fq 40 x0):Cl 13 [gridD [z0] out data,slQ (fun i=>txq (rqN x0 0 0 i)) 1] (.tup [slQ (fun j=>txq (evQ [z0] out data x0 0 0 j)) out.toNat,.int .i64 0]):=
 eval_t _ _ _ _ _ _ _ _ _ _ _ (locq1 hg h0) (valq1 hg h0)
theorem locq2 {x0 x1:Rat}{z0 z1 out:Int}{data:List Int}(hg:jag [z0,z1] out data=true)(h0:Fq 40 x0)(h1:Fq 40 x1):Cl 34 [gridD [z0,z1] out data,slQ (fun i=>txq (rqN x0 x1 0 i)) 2] (.tup [.agg [.ints .i64 [z0,z1],.int .i64 out,.ints .i64 data,.ints .i64 [spB z0 x0,spB z1 x1],.ints .i64 (ord2 (spR z0 x0) (spR z1 x1)),slQ (fun k=>txq (wqN (rqN (spR z0 x0) (spR z1 x1) 0) (ord2 (spR z0 x0) (spR z1 x1)) 2 k)) 3],.int .i64 0]):=by
 have og:=jap hg
 have s0:=og.2.1 z0 (by simp)
 have s1:=og.2.1 z1 (by simp)
 have fc:∀ k,k<2→Cl 72 [frT (rqN x0 x1 0 k)] (.int .i64 0):=fun k hk=>by
  have h:k=0∨k=1:=by omega
  rcases h with rfl|rfl
  ·exact jde h0 (by decide)
  ·exact jde h1 (by decide)
 exact loc2_t z0 z1 out data _ _ (fun i=>txq (rqN x0 x1 0 i)) _ _ (jbY hg (by simp)) fc (find2_q out data h0 h1 s0 s1)
theorem evalq2 {x0 x1:Rat}{z0 z1 out:Int}{data:List Int}(hg:jag [z0,z1] out data=true)(h0:Fq 40 x0)(h1:Fq 40 x1):Cl 13 [gridD [z0,z1] out data,slQ (fun i=>txq (rqN x0 x1 0 i)) 2] (.tup [slQ (fun j=>txq (evQ [z0,z1] out data x0 x1 0 j)) out.toNat,.int .i64 0]):=
 eval_t _ _ _ _ _ _ _ _ _ _ _ (locq2 hg h0 h1) (valq2 hg h0 h1)
theorem cellq2 {x0 x1:Rat}{z0 z1 out:Int}{data:List Int}(hg:jag [z0,z1] out data=true)(h0:Fq 40 x0)(h1:Fq 40 x1):Cl 11 [gridD [z0,z1] out data,slQ (fun i=>txq (rqN x0 x1 0 i)) 2] (.tup [.ints .i64 [spB z0 x0,spB z1 x1],.ints .i64 (ord2 (spR z0 x0) (spR z1 x1)),slQ (fun k=>txq (wqN (rqN (spR z0 x0) (spR z1 x1) 0) (ord2 (spR z0 x0) (spR z1 x1)) 2 k)) 3,.int .i64 0]):=
 cell_t _ _ _ _ _ _ _ _ _ (locq2 hg h0 h1)
theorem locq3 {x0 x1 x2:Rat}{z0 z1 z2 out:Int}{data:List Int}(hg:jag [z0,z1,z2] out data=true)(h0:Fq 40 x0)(h1:Fq 40 x1)(h2:Fq 40 x2):Cl 34 [gridD [z0,z1,z2] out data,slQ (fun i=>txq (rqN x0 x1 x2 i)) 3] (.tup [.agg [.ints .i64 [z0,z1,z2],.int .i64 out,.ints .i64 data,.ints .i64 [spB z0 x0,spB z1 x1,spB z2 x2],.ints .i64 (ord3 (spR z0 x0) (spR z1 x1) (spR z2 x2)),slQ (fun k=>txq (wqN (rqN (spR z0 x0) (spR z1 x1) (spR z2 x2)) (ord3 (spR z0 x0) (spR z1 x1) (spR z2 x2)) 3 k)) 4],.int .i64 0]):=by
 have og:=jap hg
 have s0:=og.2.1 z0 (by simp)
 have s1:=og.2.1 z1 (by simp)
 have s2:=og.2.1 z2 (by simp)
 have fc:∀ k,k<3→Cl 72 [frT (rqN x0 x1 x2 k)] (.int .i64 0):=fun k hk=>by
  have h:k=0∨k=1∨k=2:=by omega
  rcases h with rfl|rfl|rfl
  ·exact jde h0 (by decide)
  ·exact jde h1 (by decide)
  ·exact jde h2 (by decide)
 exact loc3_t z0 z1 z2 out data _ _ (fun i=>txq (rqN x0 x1 x2 i)) _ _ (jbY hg (by simp)) fc (find3_q out data h0 h1 h2 s0 s1 s2)
theorem evalq3 {x0 x1 x2:Rat}{z0 z1 z2 out:Int}{data:List Int}(hg:jag [z0,z1,z2] out data=true)(h0:Fq 40 x0)(h1:Fq 40 x1)(h2:Fq 40 x2):Cl 13 [gridD [z0,z1,z2] out data,slQ (fun i=>txq (rqN x0 x1 x2 i)) 3] (.tup [slQ (fun j=>txq (evQ [z0,z1,z2] out data x0 x1 x2 j)) out.toNat,.int .i64 0]):=
 eval_t _ _ _ _ _ _ _ _ _ _ _ (locq3 hg h0 h1 h2) (valq3 hg h0 h1 h2)
theorem mul_sgn {k l d:Rat}(hk:0≤k)(hl:0≤l):0≤k*d*(l*d):=by
 have h1:=Rat.mul_nonneg hk hl
 have h2:0≤d*d:=by
  by_cases h:0≤d
  ·exact Rat.mul_nonneg h h
  ·have h3:0 ≤ -d:=by grind
   have h4:=Rat.mul_nonneg h3 h3
   grind
 have h3:=Rat.mul_nonneg h1 h2
 grind
theorem between {p q r k l:Rat}(hk:0≤k)(hl:0≤l)(h1:q-p=k*(r-p))(h2:r-q=l*(r-p)):0≤ordQ p q*ordQ q r:=by
 have h3:=mul_sgn (d:=r-p) hk hl
 rw[← h1,← h2] at h3
 unfold ordQ
 by_cases a:p<q
 ·by_cases b:q<r
  ·simp[a,b]
  ·by_cases c:q=r
   ·simp[c]
   ·exfalso
    have e1:0<q-p:=by grind
    have e2:0<q-r:=by grind
    have:=Rat.mul_pos e1 e2
    grind
 ·by_cases a2:p=q
  ·simp[a2]
  ·by_cases b:q<r
   ·exfalso
    have e1:0<p-q:=by grind
    have e2:0<r-q:=by grind
    have:=Rat.mul_pos e1 e2
    grind
   ·by_cases c:q=r
    ·simp[c]
    ·simp[a,a2,b,c]
theorem zrcmp {a b:Nat}{p q:Rat}(h:Fq a p)(g:Fq b q)(ha:0<a∧a≤600)(hb:0<b∧b≤600):Cl 80 [frT p,frT q] (.tup [.int .i64 (ordQ p q),.int .i64 0]):=by
 obtain⟨o1,e1⟩:=jaD (h.ok ha.1 ha.2)
 obtain⟨o2,e2⟩:=jaD (g.ok hb.1 hb.2)
 have r1:=jaW _ _ (jaI o1).1 (jaI o1).2
 have r2:=jaW _ _ (jaI o2).1 (jaI o2).2
 rw[o1] at r1
 rw[o2] at r2
 have i1:=jcZ _ _ o1
 have i2:=jcZ _ _ o2
 rw[e1] at i1
 rw[e2] at i2
 have q1:=q4_qv o1
 have q2:=q4_qv o2
 rw[e1] at q1
 rw[e2] at q2
 have od:=jdP p q (q1.mono (by omega)) (q2.mono (by omega))
 unfold frT
 generalize ordQ p q=w at *
 refine V.en tbOk Tryz.func80 ?_
 refine V.u2 r1 r2 ?_
 refine⟨(V.tk [0,2] (V.e1 1 [2] (V.e1 3 [] (V.e1 4 [] (V.tk [5,6] .done))))),[],V.pok,.go (jac ?_)⟩
 refine V.u3 i1 i2 od ?_
 exact Fin.of rfl
theorem lof_c {n m:Int}(hn : -9223372036854775807≤n∧n≤9223372036854775807)(hm:1≤m∧m≤9223372036854775807):Cl 30 [.int .i64 n,.int .i64 m] (frT (Rat.divInt n m)):=by
 have c:=y_rof hn hm
 unfold frT at *
 generalize Rat.divInt n m=q at *
 refine V.en tbOk Tryz.func30 ?_
 refine V.u1 c ?_
 exact Fin.of rfl
theorem lfour_c:Cl 29 [] (gridD [2,2] 1 [0,13107,26214,65535]):=by
 refine V.en tbOk Tryz.func29 ?_
 refine V.r0 @ji8 ?_
 exact Fin.of rfl
theorem jiy:type_of% @ji8∧type_of% @tn0∧type_of% @tn1∧type_of% @tn2∧type_of% @tn3∧type_of% @xt4:=⟨@ji8,@tn0,@tn1,@tn2,@tn3,@xt4⟩
theorem eqf1 (Y:Nat→Tx):Cl 16 [V.sl2 1 [.str (Y 0).1,.str (Y 0).2],V.sl2 1 [.str (Y 0).1,.str (Y 0).2]] (.bool true):=by
 refine V.en tbOk Tryz.func16 ?_
 refine V.r0 @ji8 ?_
 refine jad (0) (fun k=>k≤1) (fun k=>1-k) (fun k=>[(13,.int .i64 k)]) (fun k=>[]) ?_ ?_ ?_
 ·exact V.wk
 ·exact ji2 _
 intro k hk
 have hk4:k=0∨k=1:=by omega
 rcases hk4 with e|e
 all_goals subst e
 ·simp only[k0]
  refine V.r0 jiy ?_
  refine⟨Pq24z,[],V.pok,?_⟩
  refine jab [(24,.bool false)] [] ?_ ?_
  ·exact V.d0 (V.a4 jiy @decide_true @Bool.and_self @Bool.not_true)
  refine V.r0 jiy ?_
  exact⟨1,by omega,by omega,V.wk⟩
 ·simp only[k1]
  refine V.r0 @ji8 ?_
  exact Fin.of rfl
theorem eqf3 (Y:Nat→Tx):Cl 16 [V.sl2 3 [.str (Y 0).1,.str (Y 0).2,.str (Y 1).1,.str (Y 1).2,.str (Y 2).1,.str (Y 2).2],V.sl2 3 [.str (Y 0).1,.str (Y 0).2,.str (Y 1).1,.str (Y 1).2,.str (Y 2).1,.str (Y 2).2]] (.bool true):=by
 refine V.en tbOk Tryz.func16 ?_
 refine V.r0 @ji8 ?_
 refine jad (0) (fun k=>k≤3) (fun k=>3-k) (fun k=>[(13,.int .i64 k)]) (fun k=>[]) ?_ ?_ ?_
 ·exact V.wk
 ·exact ji2 _
 intro k hk
 have hk4:k=0∨k=1∨k=2∨k=3:=by omega
 rcases hk4 with e|e|e|e
 all_goals subst e
 ·simp only[k0]
  refine V.r0 jiy ?_
  refine⟨Pq24z,[],V.pok,?_⟩
  refine jab [(24,.bool false)] [] ?_ ?_
  ·exact V.d0 (V.a4 jiy @decide_true @Bool.and_self @Bool.not_true)
  refine V.r0 jiy ?_
  exact⟨1,by omega,by omega,V.wk⟩
 ·simp only[k1]
  refine V.r0 jiy ?_
  refine⟨Pq24z,[],V.pok,?_⟩
  refine jab [(24,.bool false)] [] ?_ ?_
  ·exact V.d0 (V.a4 jiy @decide_true @Bool.and_self @Bool.not_true)
  refine V.r0 jiy ?_
  exact⟨2,by omega,by omega,V.wk⟩
 ·simp only[k2]
  refine V.r0 jiy ?_
  refine⟨Pq24z,[],V.pok,?_⟩
  refine jab [(24,.bool false)] [] ?_ ?_
  ·exact V.d0 (V.a4 jiy @decide_true @Bool.and_self @Bool.not_true)
  refine V.r0 jiy ?_
  exact⟨3,by omega,by omega,V.wk⟩
 ·simp only[k3]
  refine V.r0 @ji8 ?_
  exact Fin.of rfl
theorem eqb1 (Y:Nat→Int×Int):Cl 21 [V.sl2 1 [.int .i64 (Y 0).1,.int .i64 (Y 0).2],V.sl2 1 [.int .i64 (Y 0).1,.int .i64 (Y 0).2]] (.bool true):=by
 refine V.en tbOk Tryz.func21 ?_
 refine V.r0 @ji8 ?_
 refine jad (0) (fun k=>k≤1) (fun k=>1-k) (fun k=>[(13,.int .i64 k)]) (fun k=>[]) ?_ ?_ ?_
 ·exact V.wk
 ·exact ji2 _
 intro k hk
 have hk4:k=0∨k=1:=by omega
 rcases hk4 with e|e
 all_goals subst e
 ·simp only[k0]
  refine V.r0 jiy ?_
  refine⟨Pq24z,[],V.pok,?_⟩
  refine jab [(24,.bool false)] [] ?_ ?_
  ·exact V.d0 (V.a4 jiy @decide_true @Bool.and_self @Bool.not_true)
  refine V.r0 jiy ?_
  exact⟨1,by omega,by omega,V.wk⟩
 ·simp only[k1]
  refine V.r0 @ji8 ?_
  exact Fin.of rfl
theorem jeA {q:Rat}(h:okF q=true):Cl 75 [frT q] (.bool true):=by
 obtain⟨o,e⟩:=jaD h
 have c:=jaW (decZ q.num) (dec q.den) (jaI o).1 (jaI o).2
 rw[o] at c
 exact c
theorem rin_f {q:Rat}(h:okF q=true):Cl 77 [frT q] (raD q):=by
 obtain⟨o,e⟩:=jaD h
 have c:=jcZ (decZ q.num) (dec q.den) o
 rw[e] at c
 exact c
theorem rq4_f {q:Rat}(h:okF q=true):Q4 30000000 q:=by
 obtain⟨o,e⟩:=jaD h
 have c:=q4_qv o
 rw[e] at c
 exact c.mono (by omega)
theorem ord_tri (q p:Rat):q<p∨q=p∨p<q:=by
 rcases Rat.le_total (a:=q) (b:=p) with h|h
 ·by_cases e:q=p
  ·exact .inr (.inl e)
  ·exact .inl (Rat.lt_of_le_of_ne h e)
 ·by_cases e:q=p
  ·exact .inr (.inl e)
  ·exact .inr (.inr (Rat.lt_of_le_of_ne h (Ne.symm e)))
theorem rclamp_f {q:Rat}(h:okF q=true):Cl 78 [frT q,frT 0,frT 1] (.tup [frT (clQ q),.int .i64 0]):=by
 have h0:okF 0=true:=by decide +kernel
 have h1:okF 1=true:=by decide +kernel
 have r:=jeA h
 have r0:=jeA h0
 have r1:=jeA h1
 have i:=rin_f h
 have i0:=rin_f h0
 have i1:=rin_f h1
 have q4:=rq4_f h
 have z4:=rq4_f h0
 have o4:=rq4_f h1
 have o01:=jdP 0 1 (z4.mono (by omega)) (o4.mono (by omega))
 have oq0:=jdP q 0 (q4.mono (by omega)) (z4.mono (by omega))
 have oq1:=jdP q 1 (q4.mono (by omega)) (o4.mono (by omega))
 have e01:ordQ 0 1 = -1:=by decide +kernel
 rw[e01] at o01
 have e0:decide (ordQ q 0<0)=decide (q<0):=by
  rw[decide_eq_decide]
  unfold ordQ
  split
  ·rename_i h;simp[h]
  ·split
   ·rename_i h h2;subst h2;simp[Rat.lt_irrefl]
   ·rename_i h h2;simp[h]
 have e1:decide (0<ordQ q 1)=decide (1<q):=by
  rw[decide_eq_decide]
  unfold ordQ
  have t:=ord_tri q 1
  split
  ·rename_i h;simp[Rat.not_lt.2 (Rat.le_of_lt h)]
  ·split
   ·rename_i h h2;subst h2;simp[Rat.lt_irrefl]
   ·rename_i h h2;rcases t with t|t|t<;>first|exact absurd t h|exact absurd t h2|simp[t]
 have hcl:clQ q=if q<0 then 0 else if 1<q then 1 else q:=by
  unfold clQ
  by_cases g:q<0
  ·rw[if_pos g,if_pos g,if_neg (by decide +kernel)]
  ·rw[if_neg g,if_neg g]
 rw[hcl]
 unfold frT at *
 generalize ordQ q 0=z at *
 generalize ordQ q 1=y at *
 by_cases g0:q<0
 ·rw[if_pos g0]
  rw[decide_eq_true g0] at e0
  generalize (0:Rat)=zz at *
  generalize (1:Rat)=oo at *
  refine V.en tbOk Tryz.func78 ?_
  refine V.r3 e0 r r0 r1 ?_
  refine⟨Pq78z,[],V.pok,.go (jac ?_)⟩
  refine V.r3 e0 i0 i1 o01 ?_
  refine⟨Pq78z,[],V.pok,.go (jac ?_)⟩
  refine V.r3 e0 i i0 oq0 ?_
  exact Fin.of rfl
 ·rw[if_neg g0]
  rw[decide_eq_false g0] at e0
  by_cases g1:1<q
  ·rw[if_pos g1]
   rw[decide_eq_true g1] at e1
   generalize (0:Rat)=zz at *
   generalize (1:Rat)=oo at *
   refine V.en tbOk Tryz.func78 ?_
   (conv=>whnf)
   (conv=>whnf)
   (try simp only[e0,e1])
   repeat ((first|refine V.s1 ?_|((try ((with_reducible refine .ext ?_);(conv=>whnf);(try simp only[e0,e1])));(with_reducible refine jaa (r:=?_) ?_ ?_);rotate_left;(focus (first|exact(r)|exact(r0)|exact(r1)));(conv=>whnf)));(try simp only[e0,e1]))
   refine⟨Pq78z,[],V.pok,.go (jac ?_)⟩
   (conv=>whnf)
   (try simp only[e0,e1])
   repeat ((first|refine V.s1 ?_|((try ((with_reducible refine .ext ?_);(conv=>whnf);(try simp only[e0,e1])));(with_reducible refine jaa (r:=?_) ?_ ?_);rotate_left;(focus (first|exact(i0)|exact(i1)|exact(o01)));(conv=>whnf)));(try simp only[e0,e1]))
   refine⟨Pq78z,[],V.pok,.go (jac ?_)⟩
   (conv=>whnf)
   (try simp only[e0,e1])
   repeat ((first|refine V.s1 ?_|((try ((with_reducible refine .ext ?_);(conv=>whnf);(try simp only[e0,e1])));(with_reducible refine jaa (r:=?_) ?_ ?_);rotate_left;(focus (first|exact(i)|exact(i0)|exact(oq0)));(conv=>whnf)));(try simp only[e0,e1]))
   refine⟨Pq78z,[],V.pok,.go (jac ?_)⟩
   (conv=>whnf)
   (try simp only[e0,e1])
   repeat ((first|refine V.s1 ?_|((try ((with_reducible refine .ext ?_);(conv=>whnf);(try simp only[e0,e1])));(with_reducible refine jaa (r:=?_) ?_ ?_);rotate_left;(focus (first|exact(i)|exact(i1)|exact(oq1)));(conv=>whnf)));(try simp only[e0,e1]))
   exact Fin.of rfl
  ·rw[if_neg g1]
   rw[decide_eq_false g1] at e1
   generalize (0:Rat)=zz at *
   generalize (1:Rat)=oo at *
   refine V.en tbOk Tryz.func78 ?_
   (conv=>whnf)
   (conv=>whnf)
   (try simp only[e0,e1])
   repeat ((first|refine V.s1 ?_|((try ((with_reducible refine .ext ?_);(conv=>whnf);(try simp only[e0,e1])));(with_reducible refine jaa (r:=?_) ?_ ?_);rotate_left;(focus (first|exact(r)|exact(r0)|exact(r1)));(conv=>whnf)));(try simp only[e0,e1]))
   refine⟨Pq78z,[],V.pok,.go (jac ?_)⟩
   (conv=>whnf)
   (try simp only[e0,e1])
   repeat ((first|refine V.s1 ?_|((try ((with_reducible refine .ext ?_);(conv=>whnf);(try simp only[e0,e1])));(with_reducible refine jaa (r:=?_) ?_ ?_);rotate_left;(focus (first|exact(i0)|exact(i1)|exact(o01)));(conv=>whnf)));(try simp only[e0,e1]))
   refine⟨Pq78z,[],V.pok,.go (jac ?_)⟩
   (conv=>whnf)
   (try simp only[e0,e1])
   repeat ((first|refine V.s1 ?_|((try ((with_reducible refine .ext ?_);(conv=>whnf);(try simp only[e0,e1])));(with_reducible refine jaa (r:=?_) ?_ ?_);rotate_left;(focus (first|exact(i)|exact(i0)|exact(oq0)));(conv=>whnf)));(try simp only[e0,e1]))
   refine⟨Pq78z,[],V.pok,.go (jac ?_)⟩
   (conv=>whnf)
   (try simp only[e0,e1])
   repeat ((first|refine V.s1 ?_|((try ((with_reducible refine .ext ?_);(conv=>whnf);(try simp only[e0,e1])));(with_reducible refine jaa (r:=?_) ?_ ?_);rotate_left;(focus (first|exact(i)|exact(i1)|exact(oq1)));(conv=>whnf)));(try simp only[e0,e1]))
   exact Fin.of rfl
theorem r9clamp_c {q:Rat}(h:okF q=true):Cl 38 [frT q] (frT (clQ q)):=by
 have z:Cl 79 [.int .i64 0,.int .i64 1] (frT 0):=by
  have c:=y_rof (n:=0) (m:=1) (by omega) (by omega)
  rw[show Rat.divInt 0 1=0 from rfl] at c
  unfold frT at *
  generalize (0:Rat)=q at *
  refine V.en tbOk Tryz.func79 ?_
  refine V.u1 c ?_
  exact Fin.of rfl
 have o:Cl 79 [.int .i64 1,.int .i64 1] (frT 1):=by
  have c:=y_rof (n:=1) (m:=1) (by omega) (by omega)
  rw[show Rat.divInt 1 1=1 from rfl] at c
  unfold frT at *
  generalize (1:Rat)=q at *
  refine V.en tbOk Tryz.func79 ?_
  refine V.u1 c ?_
  exact Fin.of rfl
 have c:=rclamp_f h
 unfold frT at *
 generalize (0:Rat)=a at *
 generalize (1:Rat)=b at *
 generalize clQ q=d at *
 refine V.en tbOk Tryz.func38 ?_
 refine V.u3 z o c ?_
 refine⟨(V.tk [0] (.ev (.cons 1 [0] (.ev (.cons 2 [0] (.ev (.cons 3 [] (V.tk [4,5,6] (V.e1 7 [6,5,4] (V.e1 8 [6] (V.tk [9] .done)))) (.cons 7 [0] (V.e1 3 [] (V.tk [4,5,6] (V.e1 8 [6] (V.tk [9] .done)))) .nil))) (.cons 7 [0] (V.e1 2 [0] (V.e1 3 [] (V.tk [4,5,6] (V.e1 8 [6] (V.tk [9] .done))))) .nil))) (.cons 7 [0] (V.e1 1 [0] (V.e1 2 [0] (V.e1 3 [] (V.tk [4,5,6] (V.e1 8 [6] (V.tk [9] .done)))))) .nil)))),[],V.pok,?_⟩
 refine jab [(3,.box 3 0)] [(3,.box [.str (decZ d.num),.str (dec d.den)])] ?_ ?_
 ·exact V.d3 @ji8 z o c
 refine V.r0 @ji8 ?_
 exact Fin.of rfl
theorem jgv {n m:Int}(hn : -9223372036854775807≤n∧n≤9223372036854775807)(hm:1≤m∧m≤9223372036854775807):Cl 39 [.int .i64 n,.int .i64 m] (frT (Rat.divInt n m)):=by
 have c:=y_rof hn hm
 unfold frT at *
 generalize Rat.divInt n m=q at *
 refine V.en tbOk Tryz.func39 ?_
 refine V.u1 c ?_
 exact Fin.of rfl
theorem jbC {n:Int}(hn : -9223372036854775807≤n∧n≤9223372036854775807):Cl 39 [.int .i64 n,.int .i64 1] (frT (n:Rat)):=by
 have c:=jgv (n:=n) (m:=1) hn (by omega)
 rw[int_q] at c
 exact c
theorem jg2 {a b:Nat}{p q:Rat}(h:Fq a p)(g:Fq b q)(ha:0<a∧a≤600)(hb:0<b∧b≤600):Cl 40 [frT p,frT q] (.bool (decide (p<q))):=by
 have c:=zrcmp h g ha hb
 have e:decide (ordQ p q<0)=decide (p<q):=by rw[decide_eq_decide];exact jdO p q
 rw[← e]
 unfold frT at *
 generalize ordQ p q=r at *
 refine V.en tbOk Tryz.func40 ?_
 refine V.u1 c ?_
 exact Fin.of rfl
def rIns (p:Int→Bool)(i:Int)(l:List Int):List Int:=l.takeWhile p++i::l.dropWhile p
def rS (r:Nat→Rat):Nat→List Int
 | 0=>[]
 | i+1=>rIns (fun o => !decide (r o.toNat<r i)) i (rS r i)
theorem rS1 (r:Nat→Rat):rS r 1=[0]:=rfl
theorem rS2 (r0 r1 r2:Rat):rS (rqN r0 r1 r2) 2=ord2 r0 r1:=by
 unfold ord2
 by_cases h:r0<r1
 ·rw[if_pos h]
  simp[rS,rIns,rqN,h]
 ·rw[if_neg h]
  simp[rS,rIns,rqN,h]
theorem rS3 (r0 r1 r2:Rat):rS (rqN r0 r1 r2) 3=ord3 r0 r1 r2:=by
 have t:r0<r1→r1<r2→r0<r2:=by grind
 have v:¬ r0<r1→r0<r2→r1<r2:=by grind
 unfold ord3
 by_cases h:r0<r1<;>by_cases g:r0<r2<;>by_cases k:r1<r2<;>simp_all [rS,rIns,rqN]
theorem spB_step {s b:Int}(x:Rat):(b<s-2 ∧ ¬ gp s x<((b+1:Int):Rat))↔b+1≤spB s x:=by
 unfold spB
 rw[Rat.not_lt,← Rat.le_floor_iff]
 omega
theorem tw_at (p:Int→Bool):∀ (l:List Int) (at_:Nat),at_≤l.length→(∀ j,j<at_→p (l.getD j 0)=true)→(at_<l.length→p (l.getD at_ 0)=false)→l.take at_=l.takeWhile p∧l.drop at_=l.dropWhile p
 | [],at_,h,_,_=>by
  obtain rfl:at_=0:=by simpa using h
  exact⟨rfl,rfl⟩
 | x::l,0,_,_,h2=>by
  have h:=h2 (by simp)
  have h:p x=false:=h
  simp[h]
 | x::l,at_+1,h,h1,h2=>by
  have hx:p x=true:=h1 0 (by omega)
  have ih:=tw_at p l at_ (by simpa using h) (fun j hj=>h1 (j+1) (by omega)) (fun g=>h2 (by simpa using g))
  simp only[List.take_succ_cons,List.drop_succ_cons,List.takeWhile_cons,List.dropWhile_cons,hx,if_true,ih]
  exact⟨trivial,trivial⟩
theorem rS_len (r:Nat→Rat):∀ n,(rS r n).length=n
 | 0=>rfl
 | n+1=>by
  have h:=rS_len r n
  show (rIns _ _ _).length=_
  unfold rIns
  have e:=congrArg List.length (List.takeWhile_append_dropWhile (p:=fun o:Int => !decide (r o.toNat<r n)) (l:=rS r n))
  rw[jjL] at e
  rw[jjL,jjV]
  omega
theorem rS_mem (r:Nat→Rat):∀ n, ∀ o∈rS r n,0≤o∧o<n
 | 0,o,h=>by cases h
 | n+1,o,h=>by
  have ih:=rS_mem r n
  have h:o∈rIns (fun o => !decide (r o.toNat<r n)) n (rS r n):=h
  unfold rIns at h
  rcases List.mem_append.1 h with h|h
  ·have:=ih o ((List.takeWhile_sublist _).subset h);omega
  ·rcases jjH.1 h with rfl|h
   ·omega
   ·have:=ih o ((List.dropWhile_sublist _).subset h);omega
theorem rS_get (r:Nat→Rat){n j:Nat}(h:j<n):0≤(rS r n).getD j 0∧(rS r n).getD j 0<n:=by
 have hl:=rS_len r n
 refine rS_mem r n _ ?_
 rw[jjF,jjI (by omega)]
 exact jjJ _
theorem jiE:type_of% @jjb∧type_of% @ji8:=⟨@jjb,@ji8⟩
theorem sorted_t {n:Nat}(hn:1≤n∧n≤4)(Y:Nat→Tx)(r:Nat→Rat)(lc:∀ i j,i<n→j<n→Cl 40 [.agg [.str (Y i).1,.str (Y i).2],.agg [.str (Y j).1,.str (Y j).2]] (.bool (decide (r i<r j)))) :
  Cl 42 [.slf 2 n (fun j=>[.str (Y j).1,.str (Y j).2])] (.ints .i64 (rS r n)):=by
 refine V.en tbOk Tryz.func42 ?_
 refine V.r0 jiE ?_
 refine Lp.ghostSlot 47 3  .i64 (by decide) ?_
 (conv=>whnf)
 refine jad (0:Nat) (fun k=>k≤n) (fun k=>n-k) (fun k=>[(3,.osl 47 0 k),(4,.int .i64 (k:Nat))]) (fun k=>[(47,.arr .i64 (rS r k))]) ?_ ?_ ?_
 ·exact V.wk
 ·exact ji2 _
 intro k hk
 try dsimp only at hk ⊢
 obtain⟨l,hl⟩:∃ l,rS r k=l:=⟨_,rfl⟩
 have hll:l.length=k:=by rw[← hl];exact rS_len r _
 have hget:∀ j,j<k→0≤l.getD j 0∧l.getD j 0<(k:Nat):=fun j hj=>by rw[← hl];exact rS_get r hj
 have hnext:∀ y:Nat,l.take y=l.takeWhile (fun o => !decide (r o.toNat<r k))→l.drop y=l.dropWhile (fun o => !decide (r o.toNat<r k))→rS r (k+1)=l.take y++[((k:Nat):Int)]++l.drop y:=fun y h1 h2=>by
  show rIns _ _ (rS r k)=_
  rw[hl,h1,h2]
  unfold rIns
  simp
 rw[hl]
 by_cases hkn:k<n
 ·have hlt:decide ((k:Int)<n)=true:=decide_eq_true (by omega)
  have hkc:((k:Int)+1)=((k+1:Nat):Int):=by omega
  refine V.r0 (V.a2 jiE hlt) ?_
  refine jbA (β:=Nat) 2 (fun y=>y≤k∧l.take y=l.takeWhile (fun o => !decide (r o.toNat<r k))∧l.drop y=l.dropWhile (fun o => !decide (r o.toNat<r k))) (fun y=>[(5,.int .i64 (y:Nat))]) (fun _=>[]) ?_ ?_
  ·refine jad (0:Nat) (fun j=>j≤k ∧ ∀ i,i<j→(!decide (r (l.getD i 0).toNat<r k))=true) (fun j=>k-j) (fun j=>[(5,.int .i64 (j:Nat))]) (fun _=>[]) ?_ ?_ ?_
   ·exact V.wk
   ·exact⟨ji2 _,fun i hi=>absurd hi (Nat.not_lt_zero _)⟩
   rintro j ⟨hj,hp⟩
   by_cases hjk:j<k
   ·have hlt2:decide ((j:Int)<(k:Nat))=true:=decide_eq_true (by omega)
    obtain⟨o,ho⟩:∃ o,l.getD j 0=o:=⟨_,rfl⟩
    have hob:=hget j hjk
    rw[ho] at hob
    have c:=lc o.toNat k (by omega) hkn
    have hjc:((j:Int)+1)=((j+1:Nat):Int):=by omega
    refine V.r0 (V.a3 jiE hlt2 ho) ?_
    refine⟨Pq4z,[],V.pok,.go (jac ?_)⟩
    (conv=>whnf)
    (try simp only[jiE,hlt2,ho])
    repeat ((first|refine V.s1 ?_|((try ((with_reducible refine .ext ?_);(conv=>whnf);(try simp only[jiE,hlt2,ho])));(with_reducible refine jaa (r:=?_) ?_ ?_);rotate_left;(focus (first|fail));(conv=>whnf))|((refine⟨_,fun _=>c,?_⟩);(conv=>whnf)));(try simp only[jiE,hlt2,ho]))
    refine V.br (fun hq=>?_) (fun hq=>?_)
    ·refine V.r0 (V.a2 hjc @jjb) ?_
     refine⟨j+1,⟨by omega,fun i hi=>?_⟩,by omega,V.wk⟩
     rcases jjk i j with g|g
     ·exact hp i g
     ·obtain rfl:i=j:=by omega
      rw[ho]
      exact hq
    ·refine V.r0 @jjb ?_
     exact⟨j,⟨hj,tw_at _ l j (by omega) hp (fun _=>by rw[ho];exact hq)⟩,V.wk⟩
   ·have hlt2:decide ((j:Int)<(k:Nat))=false:=decide_eq_false (by omega)
    refine V.r0 (V.a2 jiE hlt2) ?_
    refine⟨Pq4z,[],V.pok,.go (jac ?_)⟩
    (conv=>whnf)
    (try simp only[jiE,hlt2])
    repeat ((first|refine V.s1 ?_|((try ((with_reducible refine .ext ?_);(conv=>whnf);(try simp only[jiE,hlt2])));(with_reducible refine jaa (r:=?_) ?_ ?_);rotate_left;(focus (first|fail));(conv=>whnf))|((refine⟨.bool false,(fun h=>by cases h),?_⟩);(conv=>whnf))|((refine And.intro (fun h=>by cases h) ?_);(conv=>whnf)));(try simp only[jiE,hlt2]))
    exact⟨j,⟨hj,tw_at _ l j (by omega) hp (fun g=>absurd g (by omega))⟩,V.wk⟩
  ·rintro y ⟨hy,h1,h2⟩
   try dsimp only at hy h1 h2 ⊢
   have e:=hnext y h1 h2
   refine V.r0 (V.a2 jiE hkc) ?_
   refine⟨k+1,by omega,by omega,?_⟩
   try dsimp only
   have e1:(List.take y (List.drop 0 l)).length+(List.take 1 (List.drop 0 [(k:Int)])).length+(List.take (k-y) (List.drop y l)).length=k+1:=by
    simp only[jj1,jjM,jj0,jjV,List.length_nil,hll];omega
   have e2:List.take y (List.drop 0 l)++List.take 1 (List.drop 0 [(k:Int)])++List.take (k-y) (List.drop y l)=rS r (k+1):=by
    rw[e,jj1,jjW (l:=List.drop y l) (by rw[jj0];omega)]
    rfl
   simp only[e1,e2]
   exact V.wk
 ·obtain rfl:n=k:=by omega
  have hlt:decide (((n:Nat):Int)<((n:Nat):Int))=false:=decide_eq_false (by omega)
  refine V.r0 (V.a2 jiE hlt) ?_
  rw[hl]
  exact Fin.of (by rw[jjW (by omega)])
def fl (q:Rat):Int:=q.num/(q.den:Int)
def gtr (m x:Rat):Rat:=if m<x then x else m
theorem ordQ_lt {x y:Rat} : ordQ x y<0↔x<y:=by
 unfold ordQ
 by_cases a:x<y
 ·rw[if_pos a];exact⟨fun _=>a,fun _=>by omega⟩
 ·rw[if_neg a]
  by_cases b:x=y
  ·rw[if_pos b];exact⟨fun h=>by omega,fun h=>absurd h a⟩
  ·rw[if_neg b];exact⟨fun h=>by omega,fun h=>absurd h a⟩
theorem ordQ_gt {x y:Rat} : ordQ x y>0↔y<x:=by
 unfold ordQ
 by_cases a:x<y
 ·rw[if_pos a];exact⟨fun h=>by omega,fun h=>absurd h (Rat.not_lt.2 (Rat.le_of_lt a))⟩
 ·rw[if_neg a]
  by_cases b:x=y
  ·rw[if_pos b,b];exact⟨fun h=>by omega,fun h=>absurd h (Rat.lt_irrefl)⟩
  ·rw[if_neg b];exact⟨fun _=>Rat.lt_of_le_of_ne (Rat.not_lt.1 a) (Ne.symm b),fun _=>by omega⟩
def hasR (x:Rat)(p q:Int):Bool:=decide (ordQ x (unit p)≥0) && decide (ordQ x (unit q)≤0)
theorem jhl (n d:Int)(hd:0<d):(Rat.divInt n d).num*d=n*((Rat.divInt n d).den:Int):=by
 have h:=(Rat.divInt n d).den_pos
 rw[← Rat.divInt_eq_divInt_iff (by omega) (by omega),jjC]
theorem divInt_lt' (n d:Int)(hd:0<d)(x:Rat):Rat.divInt n d<x↔n*x.den<x.num*d:=by
 have e:=jhl n d hd
 have hb:(0:Int)<((Rat.divInt n d).den:Int):=by have:=(Rat.divInt n d).den_pos;omega
 rw[Rat.lt_iff]
 generalize (Rat.divInt n d).num=a at *
 generalize ((Rat.divInt n d).den:Int)=b at *
 have e1:a*x.den*d=n*x.den*b:=by
  rw[Int.mul_right_comm,e,Int.mul_right_comm]
 have e2:x.num*b*d=x.num*d*b:=by rw[Int.mul_right_comm]
 constructor
 ·intro h
  have:=Int.mul_lt_mul_of_pos_right h hd
  rw[e1,e2] at this
  exact Int.lt_of_mul_lt_mul_right this (by omega)
 ·intro h
  have:=Int.mul_lt_mul_of_pos_right h hb
  rw[← e1,← e2] at this
  exact Int.lt_of_mul_lt_mul_right this (by omega)
theorem divInt_eq' (n d:Int)(hd:0<d)(x:Rat):x=Rat.divInt n d↔x.num*d=n*x.den:=by
 have hp:=x.den_pos
 conv=>lhs;rw[← jjC x]
 exact Rat.divInt_eq_divInt_iff (by omega) (by omega)
theorem ord_ge (x y:Rat):ordQ x y≥0 ↔ ¬ x<y:=by
 have:=ordQ_lt (x:=x) (y:=y)
 constructor
 ·intro h h2;have:=this.2 h2;omega
 ·intro h
  rcases Int.lt_or_le (ordQ x y) 0 with h2|h2
  ·exact absurd (this.1 h2) h
  ·exact h2
theorem ord_le (x y:Rat):ordQ x y≤0 ↔ ¬ y<x:=by
 have:=ordQ_gt (x:=x) (y:=y)
 constructor
 ·intro h h2;have:=this.2 h2;omega
 ·intro h
  rcases Int.lt_or_le 0 (ordQ x y) with h2|h2
  ·exact absurd (this.1 h2) h
  ·exact h2
theorem jgl (m:Int)(x:Rat):unit m<x↔m*x.den<x.num*1000000000000:=divInt_lt' m _ (by decide) x
theorem jgm (m:Int)(x:Rat):x=unit m↔x.num*1000000000000=m*x.den:=divInt_eq' m _ (by decide) x
theorem jhO (m:Int)(x:Rat):x<unit m↔x.num*1000000000000<m*x.den:=by
 have h1:=jgl m x
 have h2:=jgm m x
 constructor
 ·intro h
  have a1:¬ unit m<x:=Rat.not_lt.2 (Rat.le_of_lt h)
  have a2:¬ x=unit m:=Rat.ne_of_lt h
  rw[h1] at a1
  rw[h2] at a2
  omega
 ·intro h
  have a1:¬ unit m<x:=fun g=>by have:=h1.1 g;omega
  have a2:¬ x=unit m:=fun g=>by have:=h2.1 g;omega
  exact Rat.lt_of_le_of_ne (Rat.not_lt.1 a1) a2
theorem jgJ (x:Rat)(p q:Int):hasR x p q=true↔p*x.den≤x.num*1000000000000∧x.num*1000000000000≤q*x.den:=by
 unfold hasR
 rw[ji0,decide_eq_true_eq,decide_eq_true_eq,ord_ge,ord_le,jhO,jgl]
 omega
theorem jhN (x:Rat):2*(nearZ x 1000000000000*x.den)≤2*(x.num*1000000000000)+x.den∧2*(x.num*1000000000000)+x.den<2*(nearZ x 1000000000000*x.den)+2*x.den:=by
 have hp:=x.den_pos
 unfold nearZ
 have h1:=ji5 (x.num*((1000000000000*2:Nat):Int)+x.den) ((x.den*2:Nat):Int)
 have h2:=ji4 (x.num*((1000000000000*2:Nat):Int)+x.den) (show ((x.den*2:Nat):Int)≠0 by omega)
 have h3:=jju (x.num*((1000000000000*2:Nat):Int)+x.den) (show 0<((x.den*2:Nat):Int) by omega)
 generalize (x.num*((1000000000000*2:Nat):Int)+x.den)%((x.den*2:Nat):Int)=r at *
 generalize (x.num*((1000000000000*2:Nat):Int)+x.den)/((x.den*2:Nat):Int)=n at *
 have e:((x.den*2:Nat):Int)*n=2*(n*x.den):=by
  rw[show ((x.den*2:Nat):Int)=2*(x.den:Int) by omega,jjp,jjo (x.den:Int) n]
 rw[e] at h1
 generalize n*(x.den:Int)=y at *
 omega
theorem near_le (x:Rat)(K:Int)(h : -(K*x.den)≤x.num∧x.num≤K*x.den) : -(K*1000000000000)-1≤nearZ x 1000000000000∧nearZ x 1000000000000≤K*1000000000000+1:=by
 have hp:=x.den_pos
 obtain⟨b1,b2⟩:=jhN x
 generalize nearZ x 1000000000000=n at *
 have e:K*1000000000000*(x.den:Int)=1000000000000*(K*x.den):=by rw[Int.mul_right_comm,jjo]
 constructor
 ·rcases Int.lt_or_le n (-(K*1000000000000)-1) with g|g
  ·exfalso
   have:=jji (show n ≤ -(K*1000000000000)-2 by omega) (show (0:Int)≤x.den by omega)
   rw[Int.sub_mul,Int.neg_mul,e] at this
   omega
  ·exact g
 ·rcases Int.lt_or_le (K*1000000000000+1) n with g|g
  ·exfalso
   have:=jji (show K*1000000000000+2≤n by omega) (show (0:Int)≤x.den by omega)
   rw[jjx,e] at this
   omega
  ·exact g
theorem around_law (x:Rat)(h : -999999999999999999≤nearZ x 1000000000000∧nearZ x 1000000000000≤999999999999999999) :
  ∃ p q,jds x=(p,q,0)∧vb p q=true∧q-p≤1∧hasR x p q=true∧(p=q↔unit p=x):=by
 have hp:=x.den_pos
 obtain⟨b1,b2⟩:=jhN x
 unfold jds
 rw[if_pos (jbH.2 (by omega))]
 generalize nearZ x 1000000000000=n at *
 have l1:=jhO n x
 have l2:=jgl n x
 have e1:(n + -1)*(x.den:Int)=n*x.den-x.den:=by rw[jjx];omega
 have e2:(n+1)*(x.den:Int)=n*x.den+x.den:=by rw[jjx];omega
 by_cases g1:x<unit n
 ·have o:ordQ x (unit n) = -1:=by unfold ordQ;rw[if_pos g1]
  rw[o,show min (-1:Int) 0 = -1 from rfl,show max (-1:Int) 0=0 from rfl,mk_ok (by omega),jjv]
  have:=l1.1 g1
  refine⟨_,_,rfl,jbH.2 (by omega),by omega,(jgJ _ _ _).2 (by rw[e1];omega),⟨fun h=>by omega,fun h=>?_⟩⟩
  have:=(jgm (n + -1) x).1 h.symm
  rw[e1] at this
  omega
 ·by_cases g2:x=unit n
  ·have o:ordQ x (unit n)=0:=by unfold ordQ;rw[if_neg g1,if_pos g2]
   rw[o,show min (0:Int) 0=0 from rfl,show max (0:Int) 0=0 from rfl,mk_ok (by omega),jjv]
   have:=(jgm n x).1 g2
   exact⟨_,_,rfl,jbH.2 (by omega),by omega,(jgJ _ _ _).2 (by omega),⟨fun _=>g2.symm,fun _=>rfl⟩⟩
  ·have o:ordQ x (unit n)=1:=by unfold ordQ;rw[if_neg g1,if_neg g2]
   rw[o,show min (1:Int) 0=0 from rfl,show max (1:Int) 0=1 from rfl,mk_ok (by omega),jjv]
   have h3:unit n<x:=Rat.lt_of_le_of_ne (Rat.not_lt.1 g1) (Ne.symm g2)
   have:=l2.1 h3
   exact⟨_,_,rfl,jbH.2 (by omega),by omega,(jgJ _ _ _).2 (by rw[e2];omega),⟨fun h=>by omega,fun h=>absurd h.symm g2⟩⟩
theorem near_unit (m:Int):nearZ (unit m) 1000000000000=m:=by
 obtain⟨b1,b2⟩:=jhN (unit m)
 have h:=(jgm m (unit m)).1 rfl
 have hp:=(unit m).den_pos
 generalize nearZ (unit m) 1000000000000=n at *
 rw[h] at b1 b2
 generalize (unit m).den=d at *
 rcases Int.lt_trichotomy n m with g|g|g
 ·exfalso
  have:=jji (show n+1≤m by omega) (show (0:Int)≤d by omega)
  rw[jjx] at this
  omega
 ·exact g
 ·exfalso
  have:=jji (show m+1≤n by omega) (show (0:Int)≤d by omega)
  rw[jjx] at this
  omega
theorem jfD (m:Int)(h:vb m m=true):jds (unit m)=(m,m,0):=by
 unfold jds
 rw[near_unit,if_pos h,show ordQ (unit m) (unit m)=0 by unfold ordQ;rw[if_neg Rat.lt_irrefl,if_pos rfl]]
 rw[show min (0:Int) 0=0 from rfl,show max (0:Int) 0=0 from rfl,jjv]
 unfold mk
 rw[if_pos h]
def rpreI (B:Nat→Int):Nat→List Int
 | 0=>[]
 | k+1=>rpreI B k++[B k]
theorem jdE (B:Nat→Int):∀ k,(rpreI B k).length=k
 | 0=>rfl
 | k+1=>by simp only[rpreI,jjL,jdE B k];rfl
theorem wce_len (Y:Nat→Tx):∀ k,(wce Y k).length=k*2
 | 0=>rfl
 | k+1=>by simp only[wce,jjL,wce_len Y k,jjV,List.length_nil];omega
theorem rchk_q {n:Nat}{q:Rat}(h:Fq n q)(h0:0<n∧n≤600):Cl 36 [frT q] (.int .i64 0):=by
 obtain⟨o,e⟩:=jaD (h.ok h0.1 h0.2)
 have c:=rcheck_c (decZ q.num) (dec q.den) (jaI o).1 (jaI o).2
 rw[if_pos o] at c
 exact c
theorem jfV (Y:Nat→Tx):∀ (n j:Nat),j<n→List.take 2 (List.drop (j*2) (wce Y n))=[.str (Y j).1,.str (Y j).2]
 | n+1,j,h=>by
  have hl:=wce_len Y n
  simp only[wce]
  rcases jjk j n with g|g
  ·rw[jjU (by omega),jjT (by rw[jj0];omega)]
   exact jfV Y n j g
  ·obtain rfl:j=n:=by omega
   rw[← hl,List.drop_left]
   rfl
theorem jbO {e n:Nat}{f g:Nat→List D}(h:∀ j,j<n→g j=f j):_root_.Go.V.Fin (.slf e n f) (.slf e n g):=⟨fun hp v hv=>by
 simp only[Den] at hv ⊢
 obtain⟨a,cap,h1,h2,h3,h4⟩:=hv
 refine⟨a,cap,h1,h2,h3,?_⟩
 cases a with
 | none=>exact h4
 | some ad=>
  refine⟨h4.1,fun j hj=>?_⟩
  have:=h4.2 j hj
  rw[h j hj] at this
  exact this⟩
def rb18:Nat→D
 | 0 => .nil
 | k+1 => .bsl 134 0 (k+1) 2
def rbW (R:Nat→Rat)(O:List Int):Nat→Hp
 | 0=>[]
 | k+1=>[(134,.box (wce (fun i=>txq (bqN R O i-bqN R O (i+1))) (k+1)))]
def rb10:Nat→D
 | 0 => .nil
 | k+1 => .osl 102 0 (k+1)
def rb11:Nat→D
 | 0 => .nil
 | k+1 => .bsl 106 0 (k+1) 2
def rbH (B:Nat→Int)(R:Nat→Rat):Nat→Hp
 | 0=>[]
 | k+1=>[(102,.arr .i64 (rpreI B (k+1))),(106,.box (wce (fun i=>txq (R i)) (k+1)))]
theorem jih:type_of% @jjb∧type_of% @ji8∧type_of% @tn0∧type_of% @tn1∧type_of% @tn2∧type_of% @tn3:=⟨@jjb,@ji8,@tn0,@tn1,@tn2,@tn3⟩
theorem jhE {zs data:List Int}{out:Int}{n:Nat}(hn:1≤n∧n≤3)(hz:zs.length=n)(q:Nat→Rat)(hq:∀ i,i<n→Fq 40 (q i))(h29:∀ i,i<n→2≤zs.getD i 0∧zs.getD i 0≤9)(ck:Cl 35 [.agg [.ints .i64 zs,.int .i64 out,.ints .i64 data]] (.bool true)) :
  Cl 12 [.agg [.ints .i64 zs,.int .i64 out,.ints .i64 data],.slf 2 n (fun j=>[.str (txq (q j)).1,.str (txq (q j)).2])] (.tup [.ints .i64 (rpreI (fun i=>spB (zs.getD i 0) (q i)) n),.ints .i64 (rS (fun i=>spR (zs.getD i 0) (q i)) n),slQ (fun k=>txq (wqN (fun i=>spR (zs.getD i 0) (q i)) (rS (fun i=>spR (zs.getD i 0) (q i)) n) n k)) (n+1),.int .i64 0]):=by
 obtain⟨B,hB⟩:∃ B:Nat→Int,B=fun i=>spB (zs.getD i 0) (q i):=⟨_,rfl⟩
 obtain⟨R,hR⟩:∃ R:Nat→Rat,R=fun i=>spR (zs.getD i 0) (q i):=⟨_,rfl⟩
 rw[← hB,← hR]
 obtain⟨G,hG⟩:∃ G:Nat→Rat,G=fun i=>gp (zs.getD i 0) (q i):=⟨_,rfl⟩
 have fg:∀ i,i<n→Fq 41 (G i):=fun i hi=>by
  rw[hG]
  exact(fq_cl (hq i hi) (by omega)).mul (jaB (n:=1) (by have:=h29 i hi;omega) (by omega))
 have c1:∀ i,i<n→Cl 36 [.agg [.str (txq (q i)).1,.str (txq (q i)).2]] (.int .i64 0):=fun i hi=>rchk_q (hq i hi) (by decide)
 have c2:∀ i,i<n→Cl 38 [.agg [.str (txq (q i)).1,.str (txq (q i)).2]] (.agg [.str (txq (clQ (q i))).1,.str (txq (clQ (q i))).2]):=fun i hi=>r9clamp_c ((hq i hi).ok (by omega) (by omega))
 have c3:∀ z:Int, -9223372036854775807≤z∧z≤9223372036854775807→Cl 39 [.int .i64 z,.int .i64 1] (.agg [.str (txq (z:Rat)).1,.str (txq (z:Rat)).2]):=fun z hz=>jbC hz
 have c4:∀ i,i<n→Cl 37 [.agg [.str (txq (clQ (q i))).1,.str (txq (clQ (q i))).2],.agg [.str (txq ((zs.getD i 0-1:Int):Rat)).1,.str (txq ((zs.getD i 0-1:Int):Rat)).2]] (.tup [.agg [.str (txq (G i)).1,.str (txq (G i)).2],.int .i64 0]):=fun i hi=>by
  rw[hG]
  exact zrmul (fq_cl (hq i hi) (by omega)) (jaB (n:=1) (by have:=h29 i hi;omega) (by omega)) (by omega) (by omega) (by omega)
 have c5:∀ i,i<n → ∀ b:Int,0≤b∧b≤9→Cl 40 [.agg [.str (txq (G i)).1,.str (txq (G i)).2],.agg [.str (txq (b:Rat)).1,.str (txq (b:Rat)).2]] (.bool (decide (G i<(b:Rat)))):=fun i hi b hb=>jg2 (fg i hi) (jaB (n:=1) (by omega) (by omega)) (by decide) (by decide)
 have bb:∀ i,i<n→0≤B i∧B i≤7:=fun i hi=>by
  have h:=h29 i hi
  have g:=gp_bd h.1 (q i)
  rw[hB]
  dsimp only
  unfold spB
  have f0:(0:Int)≤(gp (zs.getD i 0) (q i)).floor:=Rat.le_floor_iff.2 g.1
  omega
 have st:∀ i,i<n → ∀ b:Int,(b<zs.getD i 0-2 ∧ ¬ G i<((b+1:Int):Rat))↔b+1≤B i:=fun i hi b=>by
  rw[hB,hG]
  exact spB_step (q i)
 have fr:∀ i,i<n→Fq 43 (R i):=fun i hi=>by
  rw[hR]
  exact jaX (hq i hi) (by decide) (h29 i hi)
 have c6:∀ i,i<n→Cl 41 [.agg [.str (txq (G i)).1,.str (txq (G i)).2],.agg [.str (txq (B i:Rat)).1,.str (txq (B i:Rat)).2]] (.tup [.agg [.str (txq (R i)).1,.str (txq (R i)).2],.int .i64 0]):=fun i hi=>by
  have c:=zrsub (fg i hi) (jaB (n:=1) (z:=B i) (by have:=bb i hi;omega) (by omega)) (by omega) (by omega) (by omega)
  rw[show G i-(B i:Rat)=R i by rw[hG,hB,hR];rfl] at c
  exact c
 clear hB hR hG
 refine V.en tbOk Tryz.func12 ?_
 refine V.r1 @ji8 ck ?_
 refine Cnd.no (decide_eq_false (show ¬ ((n:Int)≠(zs.length:Int)) by omega)) ?_
 refine V.r0 @ji8 ?_
 refine jad (0:Nat) (fun k=>k≤n) (fun k=>n-k) (fun k=>[(8,.int .i64 (k:Nat))]) (fun _=>[]) ?_ ?_ ?_
 ·exact V.wk
 ·exact ji2 _
 intro k hk
 try dsimp only at hk ⊢
 have hkc:((k:Int)+1)=((k+1:Nat):Int):=by omega
 by_cases hkn:k<n
 ·have hlt:decide ((k:Int)<n)=true:=decide_eq_true (by omega)
  have d1:=c1 k hkn
  refine V.r1 (V.a3 hlt hkc @jjb) d1 ?_
  exact⟨k+1,by omega,by omega,V.wk⟩
 have hlt:decide ((k:Int)<n)=false:=decide_eq_false (by omega)
 refine V.r0 (V.a2 hlt @jjb) ?_
 refine jbA (β:=Unit) 2 (fun _=>True) (fun _=>[(12,.any),(10,.osl 102 0 n),(11,.slf 2 n (fun j=>List.take 2 (List.drop (j*2) (wce (fun i=>txq (R i)) n))))]) (fun _=>[(102,.arr .i64 (rpreI B n)),(106,.gone)]) ?_ ?_
 rotate_left
 ·intro _ _
  try dsimp only
  have wat:∀ o,o<n→List.take 2 (List.drop (o*2) (wce (fun i=>txq (R i)) n))=[.str (txq (R o)).1,.str (txq (R o)).2]:=fun o ho=>jfV _ n o ho
  have sd0:=sorted_t (n:=n) (by omega) (fun i=>txq (R i)) R (fun i j hi hj=>jg2 (fr i hi) (fr j hj) (by decide) (by decide))
  have sdc:Cl 42 [.slf 2 n (fun j=>List.take 2 (List.drop (j*2) (wce (fun i=>txq (R i)) n)))] (.ints .i64 (rS R n)):=Called.arg (show FinL [.slf 2 n (fun j=>[.str (txq (R j)).1,.str (txq (R j)).2])] [.slf 2 n (fun j=>List.take 2 (List.drop (j*2) (wce (fun i=>txq (R i)) n)))] from ⟨jbO (fun j hj=>wat j hj),trivial⟩) sd0
  have hO:=rS_len R n
  have hOg:∀ k,k<n→0≤(rS R n).getD k 0∧(rS R n).getD k 0<n:=fun k hk=>rS_get R hk
  obtain⟨O,eO⟩:∃ O,rS R n=O:=⟨_,rfl⟩
  rw[eO] at sdc hO hOg ⊢
  have one:=c3 1 (by omega)
  rw[show ((1:Int):Rat)=1 from rfl] at one
  have cw:∀ k,k<n→Cl 41 [.agg [.str (txq (bqN R O k)).1,.str (txq (bqN R O k)).2],.agg [.str (txq (R (O.getD k 0).toNat)).1,.str (txq (R (O.getD k 0).toNat)).2]] (.tup [.agg [.str (txq (bqN R O k-bqN R O (k+1))).1,.str (txq (bqN R O k-bqN R O (k+1))).2],.int .i64 0]):=fun k hk=>by
   have fb:Fq 43 (bqN R O k):=by
    rcases k with _|k
    ·exact fq_one
    ·exact fr _ (by have:=hOg k (by omega);omega)
   exact zrsub fb (fr (O.getD k 0).toNat (by have:=hOg k hk;omega)) (by omega) (by omega) (by omega)
  refine V.r2 jih sdc one ?_
  refine jad (0:Nat) (fun k=>k≤n) (fun k=>n-k) (fun k=>[(20,.int .i64 (k:Nat)),(18,rb18 k)]) (fun k=>(19,.box [.str (txq (bqN R O k)).1,.str (txq (bqN R O k)).2])::rbW R O k) ?_ ?_ ?_
  ·exact V.wk
  ·exact ji2 _
  intro k hk
  try dsimp only at hk ⊢
  have hk4:k=0∨k=1∨k=2∨k=3:=by omega
  rcases hk4 with e|e|e|e
  all_goals subst e
  ·simp only[k0,rb18,rbW]
   by_cases hkn:0<n
   ·have hlt:decide ((0:Int)<(O.length:Nat))=true:=decide_eq_true (by omega)
    have hob:=hOg 0 hkn
    have c:=cw 0 hkn
    have e2:=wat (O.getD 0 0).toNat (by omega)
    refine V.r0 (V.a2 jih hlt) ?_
    refine⟨Pq25z,[],V.pok,?_⟩
    refine jab [(21,.box 21 0),(22,.int .i64 0)] [(21,.box [.str (txq (bqN R O 0-bqN R O 1)).1,.str (txq (bqN R O 0-bqN R O 1)).2])] ?_ ?_
    ·(conv=>whnf);(try simp only[jih,e2])
     repeat' (first|exact V.wk|((with_reducible refine And.intro ?_ jaA);(conv=>whnf);(try simp only[jih,e2]))|((with_reducible first|refine jar ?_ ?_|refine jau ?_ ?_)<;>(conv=>whnf);(try simp only[jih,e2]))|((first|refine V.s1 ?_|((with_reducible refine jan ?_ ?_);(focus ((conv=>whnf);(try simp only[jih,e2]);(repeat ((first|refine V.s1 ?_|((refine And.intro (fun _=>hob) ?_);(conv=>whnf)));(try simp only[jih,e2])));exact⟨rfl⟩));(conv=>whnf))|((try ((with_reducible refine .ext ?_);(conv=>whnf);(try simp only[jih,e2])));(with_reducible refine jaa (r:=?_) ?_ ?_);rotate_left;(focus (first|exact(c)));(conv=>whnf))|((refine And.intro (fun _=>hob) ?_);(conv=>whnf)));(try simp only[jih,e2]))|(refine And.intro ?_ ?_<;>(conv=>whnf);(try simp only[jih,e2])))
    (conv=>whnf)
    (try simp only[jih,e2])
    repeat ((first|refine V.s1 ?_|((try ((with_reducible refine .ext ?_);(conv=>whnf);(try simp only[jih,e2])));(with_reducible refine jaa (r:=?_) ?_ ?_);rotate_left;(focus (first|fail));(conv=>whnf))|((refine And.intro (fun _=>hob) ?_);(conv=>whnf)));(try simp only[jih,e2]))
    exact⟨1,by omega,by omega,V.wk⟩
   ·have hlf:decide ((0:Int)<(O.length:Nat))=false:=decide_eq_false (by omega)
    omega
  ·simp only[k1,rb18,rbW]
   by_cases hkn:1<n
   ·have hlt:decide ((1:Int)<(O.length:Nat))=true:=decide_eq_true (by omega)
    have hob:=hOg 1 hkn
    have c:=cw 1 hkn
    have e2:=wat (O.getD 1 0).toNat (by omega)
    refine V.r0 (V.a2 jih hlt) ?_
    refine⟨Pq25z,[],V.pok,?_⟩
    refine jab [(21,.box 21 0),(22,.int .i64 0)] [(21,.box [.str (txq (bqN R O 1-bqN R O 2)).1,.str (txq (bqN R O 1-bqN R O 2)).2])] ?_ ?_
    ·(conv=>whnf);(try simp only[jih,e2])
     repeat' (first|exact V.wk|((with_reducible refine And.intro ?_ jaA);(conv=>whnf);(try simp only[jih,e2]))|((with_reducible first|refine jar ?_ ?_|refine jau ?_ ?_)<;>(conv=>whnf);(try simp only[jih,e2]))|((first|refine V.s1 ?_|((with_reducible refine jan ?_ ?_);(focus ((conv=>whnf);(try simp only[jih,e2]);(repeat ((first|refine V.s1 ?_|((refine And.intro (fun _=>hob) ?_);(conv=>whnf)));(try simp only[jih,e2])));exact⟨rfl⟩));(conv=>whnf))|((try ((with_reducible refine .ext ?_);(conv=>whnf);(try simp only[jih,e2])));(with_reducible refine jaa (r:=?_) ?_ ?_);rotate_left;(focus (first|exact(c)));(conv=>whnf))|((refine And.intro (fun _=>hob) ?_);(conv=>whnf)));(try simp only[jih,e2]))|(refine And.intro ?_ ?_<;>(conv=>whnf);(try simp only[jih,e2])))
    (conv=>whnf)
    (try simp only[jih,e2])
    repeat ((first|refine V.s1 ?_|((try ((with_reducible refine .ext ?_);(conv=>whnf);(try simp only[jih,e2])));(with_reducible refine jaa (r:=?_) ?_ ?_);rotate_left;(focus (first|fail));(conv=>whnf))|((refine And.intro (fun _=>hob) ?_);(conv=>whnf)));(try simp only[jih,e2]))
    exact⟨2,by omega,by omega,V.wk⟩
   ·have hlf:decide ((1:Int)<(O.length:Nat))=false:=decide_eq_false (by omega)
    obtain rfl:n=1:=by omega
    refine V.r0 jih ?_
    refine Cnd.no hlf ?_
    refine V.r0 jih ?_
    exact Fin.of rfl
  ·simp only[k2,rb18,rbW]
   by_cases hkn:2<n
   ·have hlt:decide ((2:Int)<(O.length:Nat))=true:=decide_eq_true (by omega)
    have hob:=hOg 2 hkn
    have c:=cw 2 hkn
    have e2:=wat (O.getD 2 0).toNat (by omega)
    refine V.r0 (V.a2 jih hlt) ?_
    refine⟨Pq25z,[],V.pok,?_⟩
    refine jab [(21,.box 21 0),(22,.int .i64 0)] [(21,.box [.str (txq (bqN R O 2-bqN R O 3)).1,.str (txq (bqN R O 2-bqN R O 3)).2])] ?_ ?_
    ·(conv=>whnf);(try simp only[jih,e2])
     repeat' (first|exact V.wk|((with_reducible refine And.intro ?_ jaA);(conv=>whnf);(try simp only[jih,e2]))|((with_reducible first|refine jar ?_ ?_|refine jau ?_ ?_)<;>(conv=>whnf);(try simp only[jih,e2]))|((first|refine V.s1 ?_|((with_reducible refine jan ?_ ?_);(focus ((conv=>whnf);(try simp only[jih,e2]);(repeat ((first|refine V.s1 ?_|((refine And.intro (fun _=>hob) ?_);(conv=>whnf)));(try simp only[jih,e2])));exact⟨rfl⟩));(conv=>whnf))|((try ((with_reducible refine .ext ?_);(conv=>whnf);(try simp only[jih,e2])));(with_reducible refine jaa (r:=?_) ?_ ?_);rotate_left;(focus (first|exact(c)));(conv=>whnf))|((refine And.intro (fun _=>hob) ?_);(conv=>whnf)));(try simp only[jih,e2]))|(refine And.intro ?_ ?_<;>(conv=>whnf);(try simp only[jih,e2])))
    (conv=>whnf)
    (try simp only[jih,e2])
    repeat ((first|refine V.s1 ?_|((try ((with_reducible refine .ext ?_);(conv=>whnf);(try simp only[jih,e2])));(with_reducible refine jaa (r:=?_) ?_ ?_);rotate_left;(focus (first|fail));(conv=>whnf))|((refine And.intro (fun _=>hob) ?_);(conv=>whnf)));(try simp only[jih,e2]))
    exact⟨3,by omega,by omega,V.wk⟩
   ·have hlf:decide ((2:Int)<(O.length:Nat))=false:=decide_eq_false (by omega)
    obtain rfl:n=2:=by omega
    refine V.r0 jih ?_
    refine Cnd.no hlf ?_
    refine V.r0 jih ?_
    exact Fin.of rfl
  ·simp only[k3,rb18,rbW]
   obtain rfl:n=3:=by omega
   have hlf:decide ((3:Int)<(O.length:Nat))=false:=decide_eq_false (by omega)
   refine V.r0 jih ?_
   refine Cnd.no hlf ?_
   refine V.r0 jih ?_
   exact Fin.of rfl
 refine jad (0:Nat) (fun k=>k≤n) (fun k=>n-k) (fun k=>[(12,.int .i64 (k:Nat)),(10,rb10 k),(11,rb11 k)]) (fun k=>rbH B R k) ?_ ?_ ?_
 ·exact V.wk
 ·exact ji2 _
 intro k hk
 try dsimp only at hk ⊢
 have hk4:k=0∨k=1∨k=2∨k=3:=by omega
 rcases hk4 with e|e|e|e
 all_goals subst e
 ·simp only[k0,rb10,rb11,rbH]
  by_cases hkn:0<n
  ·have hlt:decide ((0:Int)<n)=true:=decide_eq_true (by omega)
   obtain⟨z,hzz⟩:∃ z,zs.getD 0 0=z:=⟨_,rfl⟩
   have z0:=h29 0 hkn
   have d2:=c2 0 hkn
   have d4:=c4 0 hkn
   have d6:=c6 0 hkn
   have b0:=bb 0 hkn
   have s0:=st 0 hkn
   have c5i:=c5 0 hkn
   simp only[hzz] at z0 d4 s0
   have d3:=c3 (z-1) (by omega)
   have d7:=c3 (B 0) (by omega)
   refine V.r0 (V.a3 jih hlt hzz) ?_
   refine⟨Pq43z,[],V.pok,?_⟩
   refine jab [(13,.box 13 0),(14,.int .i64 0)] [(13,.box [.str (txq (G 0)).1,.str (txq (G 0)).2])] ?_ ?_
   ·exact V.d3 (V.a2 jih hzz) d2 d3 d4
   refine V.r0 jih ?_
   refine jbA (β:=Unit) 4 (fun _=>True) (fun _=>[(15,.int .i64 (B 0))]) (fun _=>[]) ?_ ?_
   ·refine jad (0:Nat) (fun b=>(b:Int)≤B 0) (fun b=>(B 0).toNat-b) (fun b=>[(15,.int .i64 (b:Nat))]) (fun _=>[]) ?_ ?_ ?_
    ·exact V.wk
    ·exact b0.1
    intro b hb
    try dsimp only at hb ⊢
    have s1:=s0 b
    by_cases hbz:(b:Int)<z-2
    ·have hlt2:decide ((b:Int)<z-2)=true:=decide_eq_true hbz
     have e3:=c3 ((b:Int)+1) (by omega)
     have e5:=c5i ((b:Int)+1) (by omega)
     refine V.r0 (V.a3 jih hlt2 hzz) ?_
     refine⟨Pq11z,[],V.pok,.go (jac ?_)⟩
     (conv=>whnf)
     (try simp only[jih,hlt2,hzz])
     repeat ((first|refine V.s1 ?_|((try ((with_reducible refine .ext ?_);(conv=>whnf);(try simp only[jih,hlt2,hzz])));(with_reducible refine jaa (r:=?_) ?_ ?_);rotate_left;(focus (first|fail));(conv=>whnf))|((refine⟨_,fun _=>e3,?_⟩);(conv=>whnf))|((refine⟨_,fun _=>e5,?_⟩);(conv=>whnf)));(try simp only[jih,hlt2,hzz]))
     refine V.br (fun hq=>?_) (fun hq=>?_)
     ·have hq2:¬ G 0<(((b:Int)+1:Int):Rat):=by simpa using hq
      refine V.r0 jih ?_
      exact⟨b+1,by have:=s1.1 ⟨hbz,hq2⟩;omega,by have:=s1.1 ⟨hbz,hq2⟩;omega,V.wk⟩
     ·have hq2:G 0<(((b:Int)+1:Int):Rat):=by simpa using hq
      have hB:B 0=b:=by
       have h:¬ ((b:Int)+1≤B 0):=fun h=>(s1.2 h).2 hq2
       omega
      refine V.r0 jih ?_
      refine⟨(),trivial,?_⟩
      try dsimp only
      rw[hB]
      exact V.wk
    ·have hlt2:decide ((b:Int)<z-2)=false:=decide_eq_false hbz
     have hB:B 0=b:=by
      have h:¬ ((b:Int)+1≤B 0):=fun h=>hbz (s1.2 h).1
      omega
     refine V.r0 (V.a3 jih hlt2 hzz) ?_
     refine⟨Pq11z,[],V.pok,.go (jac ?_)⟩
     (conv=>whnf)
     (try simp only[jih,hlt2,hzz])
     repeat ((first|refine V.s1 ?_|((try ((with_reducible refine .ext ?_);(conv=>whnf);(try simp only[jih,hlt2,hzz])));(with_reducible refine jaa (r:=?_) ?_ ?_);rotate_left;(focus (first|fail));(conv=>whnf))|((refine⟨.bool false,(fun h=>by cases h),?_⟩);(conv=>whnf))|((refine And.intro (fun h=>by cases h) ?_);(conv=>whnf)));(try simp only[jih,hlt2,hzz]))
     refine⟨(),trivial,?_⟩
     try dsimp only
     rw[hB]
     exact V.wk
   intro _ _
   try dsimp only
   refine V.r0 jih ?_
   refine⟨Pq67z,[],V.pok,?_⟩
   refine jab [(16,.box 16 0),(14,.int .i64 0)] [(16,.box [.str (txq (R 0)).1,.str (txq (R 0)).2])] ?_ ?_
   ·exact V.d2 jih d7 d6
   have hpl:=jdE B 0
   (conv=>whnf)
   (try simp only[jih])
   repeat ((first|refine V.s1 ?_|((try ((with_reducible refine .ext ?_);(conv=>whnf);(try simp only[jih])));(with_reducible refine jaa (r:=?_) ?_ ?_);rotate_left;(focus (first|fail));(conv=>whnf))|((refine And.intro (fun _=>⟨hpl,ji1 rfl⟩) ?_);(conv=>whnf)));(try simp only[jih]))
   exact⟨1,by omega,by omega,V.wk⟩
  ·have hlt:decide ((0:Int)<n)=false:=decide_eq_false (by omega)
   omega
 ·simp only[k1,rb10,rb11,rbH]
  by_cases hkn:1<n
  ·have hlt:decide ((1:Int)<n)=true:=decide_eq_true (by omega)
   obtain⟨z,hzz⟩:∃ z,zs.getD 1 0=z:=⟨_,rfl⟩
   have z0:=h29 1 hkn
   have d2:=c2 1 hkn
   have d4:=c4 1 hkn
   have d6:=c6 1 hkn
   have b0:=bb 1 hkn
   have s0:=st 1 hkn
   have c5i:=c5 1 hkn
   simp only[hzz] at z0 d4 s0
   have d3:=c3 (z-1) (by omega)
   have d7:=c3 (B 1) (by omega)
   refine V.r0 (V.a3 jih hlt hzz) ?_
   refine⟨Pq43z,[],V.pok,?_⟩
   refine jab [(13,.box 13 0),(14,.int .i64 0)] [(13,.box [.str (txq (G 1)).1,.str (txq (G 1)).2])] ?_ ?_
   ·exact V.d3 (V.a2 jih hzz) d2 d3 d4
   refine V.r0 jih ?_
   refine jbA (β:=Unit) 4 (fun _=>True) (fun _=>[(15,.int .i64 (B 1))]) (fun _=>[]) ?_ ?_
   ·refine jad (0:Nat) (fun b=>(b:Int)≤B 1) (fun b=>(B 1).toNat-b) (fun b=>[(15,.int .i64 (b:Nat))]) (fun _=>[]) ?_ ?_ ?_
    ·exact V.wk
    ·exact b0.1
    intro b hb
    try dsimp only at hb ⊢
    have s1:=s0 b
    by_cases hbz:(b:Int)<z-2
    ·have hlt2:decide ((b:Int)<z-2)=true:=decide_eq_true hbz
     have e3:=c3 ((b:Int)+1) (by omega)
     have e5:=c5i ((b:Int)+1) (by omega)
     refine V.r0 (V.a3 jih hlt2 hzz) ?_
     refine⟨Pq11z,[],V.pok,.go (jac ?_)⟩
     (conv=>whnf)
     (try simp only[jih,hlt2,hzz])
     repeat ((first|refine V.s1 ?_|((try ((with_reducible refine .ext ?_);(conv=>whnf);(try simp only[jih,hlt2,hzz])));(with_reducible refine jaa (r:=?_) ?_ ?_);rotate_left;(focus (first|fail));(conv=>whnf))|((refine⟨_,fun _=>e3,?_⟩);(conv=>whnf))|((refine⟨_,fun _=>e5,?_⟩);(conv=>whnf)));(try simp only[jih,hlt2,hzz]))
     refine V.br (fun hq=>?_) (fun hq=>?_)
     ·have hq2:¬ G 1<(((b:Int)+1:Int):Rat):=by simpa using hq
      refine V.r0 jih ?_
      exact⟨b+1,by have:=s1.1 ⟨hbz,hq2⟩;omega,by have:=s1.1 ⟨hbz,hq2⟩;omega,V.wk⟩
     ·have hq2:G 1<(((b:Int)+1:Int):Rat):=by simpa using hq
      have hB:B 1=b:=by
       have h:¬ ((b:Int)+1≤B 1):=fun h=>(s1.2 h).2 hq2
       omega
      refine V.r0 jih ?_
      refine⟨(),trivial,?_⟩
      try dsimp only
      rw[hB]
      exact V.wk
    ·have hlt2:decide ((b:Int)<z-2)=false:=decide_eq_false hbz
     have hB:B 1=b:=by
      have h:¬ ((b:Int)+1≤B 1):=fun h=>hbz (s1.2 h).1
      omega
     refine V.r0 (V.a3 jih hlt2 hzz) ?_
     refine⟨Pq11z,[],V.pok,.go (jac ?_)⟩
     (conv=>whnf)
     (try simp only[jih,hlt2,hzz])
     repeat ((first|refine V.s1 ?_|((try ((with_reducible refine .ext ?_);(conv=>whnf);(try simp only[jih,hlt2,hzz])));(with_reducible refine jaa (r:=?_) ?_ ?_);rotate_left;(focus (first|fail));(conv=>whnf))|((refine⟨.bool false,(fun h=>by cases h),?_⟩);(conv=>whnf))|((refine And.intro (fun h=>by cases h) ?_);(conv=>whnf)));(try simp only[jih,hlt2,hzz]))
     refine⟨(),trivial,?_⟩
     try dsimp only
     rw[hB]
     exact V.wk
   intro _ _
   try dsimp only
   refine V.r0 jih ?_
   refine⟨Pq67z,[],V.pok,?_⟩
   refine jab [(16,.box 16 0),(14,.int .i64 0)] [(16,.box [.str (txq (R 1)).1,.str (txq (R 1)).2])] ?_ ?_
   ·exact V.d2 jih d7 d6
   have hpl:=jdE B 1
   (conv=>whnf)
   (try simp only[jih])
   repeat ((first|refine V.s1 ?_|((try ((with_reducible refine .ext ?_);(conv=>whnf);(try simp only[jih])));(with_reducible refine jaa (r:=?_) ?_ ?_);rotate_left;(focus (first|fail));(conv=>whnf))|((refine And.intro (fun _=>⟨hpl,ji1 rfl⟩) ?_);(conv=>whnf)));(try simp only[jih]))
   exact⟨2,by omega,by omega,V.wk⟩
  ·have hlt:decide ((1:Int)<n)=false:=decide_eq_false (by omega)
   obtain rfl:n=1:=by omega
   refine V.r0 (V.a2 jih hlt) ?_
   refine⟨(),trivial,?_⟩
   try dsimp only
   refine Wk.pub 106 ?_
   (conv=>whnf)
   simp only[ji8]
   exact V.wk
 ·simp only[k2,rb10,rb11,rbH]
  by_cases hkn:2<n
  ·have hlt:decide ((2:Int)<n)=true:=decide_eq_true (by omega)
   obtain⟨z,hzz⟩:∃ z,zs.getD 2 0=z:=⟨_,rfl⟩
   have z0:=h29 2 hkn
   have d2:=c2 2 hkn
   have d4:=c4 2 hkn
   have d6:=c6 2 hkn
   have b0:=bb 2 hkn
   have s0:=st 2 hkn
   have c5i:=c5 2 hkn
   simp only[hzz] at z0 d4 s0
   have d3:=c3 (z-1) (by omega)
   have d7:=c3 (B 2) (by omega)
   refine V.r0 (V.a3 jih hlt hzz) ?_
   refine⟨Pq43z,[],V.pok,?_⟩
   refine jab [(13,.box 13 0),(14,.int .i64 0)] [(13,.box [.str (txq (G 2)).1,.str (txq (G 2)).2])] ?_ ?_
   ·exact V.d3 (V.a2 jih hzz) d2 d3 d4
   refine V.r0 jih ?_
   refine jbA (β:=Unit) 4 (fun _=>True) (fun _=>[(15,.int .i64 (B 2))]) (fun _=>[]) ?_ ?_
   ·refine jad (0:Nat) (fun b=>(b:Int)≤B 2) (fun b=>(B 2).toNat-b) (fun b=>[(15,.int .i64 (b:Nat))]) (fun _=>[]) ?_ ?_ ?_
    ·exact V.wk
    ·exact b0.1
    intro b hb
    try dsimp only at hb ⊢
    have s1:=s0 b
    by_cases hbz:(b:Int)<z-2
    ·have hlt2:decide ((b:Int)<z-2)=true:=decide_eq_true hbz
     have e3:=c3 ((b:Int)+1) (by omega)
     have e5:=c5i ((b:Int)+1) (by omega)
     refine V.r0 (V.a3 jih hlt2 hzz) ?_
     refine⟨Pq11z,[],V.pok,.go (jac ?_)⟩
     (conv=>whnf)
     (try simp only[jih,hlt2,hzz])
     repeat ((first|refine V.s1 ?_|((try ((with_reducible refine .ext ?_);(conv=>whnf);(try simp only[jih,hlt2,hzz])));(with_reducible refine jaa (r:=?_) ?_ ?_);rotate_left;(focus (first|fail));(conv=>whnf))|((refine⟨_,fun _=>e3,?_⟩);(conv=>whnf))|((refine⟨_,fun _=>e5,?_⟩);(conv=>whnf)));(try simp only[jih,hlt2,hzz]))
     refine V.br (fun hq=>?_) (fun hq=>?_)
     ·have hq2:¬ G 2<(((b:Int)+1:Int):Rat):=by simpa using hq
      refine V.r0 jih ?_
      exact⟨b+1,by have:=s1.1 ⟨hbz,hq2⟩;omega,by have:=s1.1 ⟨hbz,hq2⟩;omega,V.wk⟩
     ·have hq2:G 2<(((b:Int)+1:Int):Rat):=by simpa using hq
      have hB:B 2=b:=by
       have h:¬ ((b:Int)+1≤B 2):=fun h=>(s1.2 h).2 hq2
       omega
      refine V.r0 jih ?_
      refine⟨(),trivial,?_⟩
      try dsimp only
      rw[hB]
      exact V.wk
    ·have hlt2:decide ((b:Int)<z-2)=false:=decide_eq_false hbz
     have hB:B 2=b:=by
      have h:¬ ((b:Int)+1≤B 2):=fun h=>hbz (s1.2 h).1
      omega
     refine V.r0 (V.a3 jih hlt2 hzz) ?_
     refine⟨Pq11z,[],V.pok,.go (jac ?_)⟩
     (conv=>whnf)
     (try simp only[jih,hlt2,hzz])
     repeat ((first|refine V.s1 ?_|((try ((with_reducible refine .ext ?_);(conv=>whnf);(try simp only[jih,hlt2,hzz])));(with_reducible refine jaa (r:=?_) ?_ ?_);rotate_left;(focus (first|fail));(conv=>whnf))|((refine⟨.bool false,(fun h=>by cases h),?_⟩);(conv=>whnf))|((refine And.intro (fun h=>by cases h) ?_);(conv=>whnf)));(try simp only[jih,hlt2,hzz]))
     refine⟨(),trivial,?_⟩
     try dsimp only
     rw[hB]
     exact V.wk
   intro _ _
   try dsimp only
   refine V.r0 jih ?_
   refine⟨Pq67z,[],V.pok,?_⟩
   refine jab [(16,.box 16 0),(14,.int .i64 0)] [(16,.box [.str (txq (R 2)).1,.str (txq (R 2)).2])] ?_ ?_
   ·exact V.d2 jih d7 d6
   have hpl:=jdE B 2
   (conv=>whnf)
   (try simp only[jih])
   repeat ((first|refine V.s1 ?_|((try ((with_reducible refine .ext ?_);(conv=>whnf);(try simp only[jih])));(with_reducible refine jaa (r:=?_) ?_ ?_);rotate_left;(focus (first|fail));(conv=>whnf))|((refine And.intro (fun _=>⟨hpl,ji1 rfl⟩) ?_);(conv=>whnf)));(try simp only[jih]))
   exact⟨3,by omega,by omega,V.wk⟩
  ·have hlt:decide ((2:Int)<n)=false:=decide_eq_false (by omega)
   obtain rfl:n=2:=by omega
   refine V.r0 (V.a2 jih hlt) ?_
   refine⟨(),trivial,?_⟩
   try dsimp only
   refine Wk.pub 106 ?_
   (conv=>whnf)
   simp only[ji8]
   exact V.wk
 ·simp only[k3,rb10,rb11,rbH]
  have hlt:decide ((3:Int)<n)=false:=decide_eq_false (by omega)
  obtain rfl:n=3:=by omega
  refine V.r0 (V.a2 jih hlt) ?_
  refine⟨(),trivial,?_⟩
  try dsimp only
  refine Wk.pub 106 ?_
  (conv=>whnf)
  simp only[ji8]
  exact V.wk
end Go.Proofs.YtbnghipgicmpdaaGreatDoor
end
