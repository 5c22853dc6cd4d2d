/- What functions of the program answer at given values, part 8. Conditions: those that each theorem names. -/
import Derived.Test.YtbhpaandigaanaaGreatDoorLocateBackH7
import Derived.Test.YtbhpaandigaanaaGreatDoorLocateBackH6
set_option linter.unusedSimpArgs false
set_option linter.unusedVariables false
set_option maxHeartbeats 8000000
set_option maxRecDepth 100000
section
namespace Go.Proofs.YtbhpaandigaanaaGreatDoor
open Go Go.V Go.Nb
theorem wtrim_c (xs:List Int)(hd:Dg 1000000000 xs)(hl:xs.length≤281474976710656):Cl 154 [.ints .u32 xs] (.ints .u32 (mg 1000000000 (val 1000000000 xs).toNat)):=by
 refine V.en tbOk Tryz.func154 ?_
 (conv=>whnf)
 refine V.st ?_
 refine jae (xs.length) (fun k=>k≤xs.length∧val 1000000000 (xs.take k)=val 1000000000 xs) (fun k=>k) (fun k=>[(0,.ints .u32 (xs.take k))]) (fun k=>[]) ?_ ?_ ?_
 ·rw[jhZ]
  exact V.wk
 ·exact⟨jhb _,by rw[jhZ]⟩
 intro k hk
 have hlt:(xs.take k).length=k:=by rw[jhL];omega
 refine V.r0 hlt ?_
 refine V.br (fun hq=>?_) (fun hq=>?_)
 ·rw[jg0,decide_eq_true_eq,decide_eq_true_eq] at hq
  have hk0:0<k:=by omega
  obtain⟨j,rfl⟩:∃ j,k=j+1:=⟨k-1,by omega⟩
  obtain⟨x,hx,ex⟩:=getxn (xs:=xs) (k:=j) (by omega)
  have e1:((((j+1:Nat):Int)-1).toNat)=j:=by omega
  have e2:(((j+1:Nat):Int)-1)=(j:Int):=by omega
  have e3:(xs.take (j+1)).getD j 0=x:=by
   rw[jhF,List.getElem?_take_of_lt (by omega),hx];rfl
  have e4:(xs.take (j+1)).take j=xs.take j:=by rw[List.take_take,Nat.min_eq_left (by omega)]
  rw[e1,e3] at hq
  rw[hq.2] at hx
  refine V.r0 (V.a4 e2 hlt @jha e4) ?_
  exact⟨j,⟨by omega,by rw[← hk.2,jbX hx]⟩,by omega,V.wk⟩
 ·have h3:k=0 ∨ ∃ x,xs[k-1]? = some x∧x≠0:=by
   rcases jhe k with e|e
   ·exact .inl e
   ·refine .inr ?_
    obtain⟨x,hx,ex⟩:=getxn (xs:=xs) (k:=(k-1)) (by omega)
    refine⟨x,hx,fun e0=>?_⟩
    have e1:(((k:Nat):Int)-1).toNat=k-1:=by omega
    have e3:(xs.take k).getD (k-1) 0=x:=by
     rw[jhF,List.getElem?_take_of_lt (by omega),hx];rfl
    rw[e1,e3,e0] at hq
    simp at hq
    omega
  (conv=>whnf)
  refine V.st ?_
  exact Fin.of (by rw[jfX (by omega) hd hk.2 hk.1 h3])
theorem rdv_snoc (s:List UInt8)(c:UInt8):rdv (s++[c])=rdv s*10+(c.toNat-48):=by
 rw[ja2,jc7];simp
theorem jct {s:List UInt8}{a i:Nat}(ha:a≤i)(hi:i<s.length):(s.take (i+1)).drop a=(s.take i).drop a++[s.getD i 0]:=by
 rw[List.take_add_one,jhI hi,List.drop_append_of_le_length (by rw[jhL];omega)]
 simp[jhF,hi]
theorem jey {s:List UInt8}{a e:Nat}(ha:a≤e)(he:e≤s.length):s.take e=s.take a++(s.take e).drop a:=by
 conv=>lhs;rw[← List.take_append_drop a (s.take e)]
 rw[List.take_take,Nat.min_eq_left ha]
theorem gather_c (s:List UInt8)(hd:∀ c∈s,isDig c=true)(hl:s.length≤100000000):Cl 114 [.str s] (.ints .u32 (mg 1000000000 (rdv s))):=by
 refine V.en tbOk Tryz.func114 ?_
 (conv=>whnf)
 refine V.st ?_
 refine Lp.ghostSlot 32 3 .u32 (by decide) ?_
 (conv=>whnf)
 refine jae ((s.length,[]):Nat×List Int) (fun t=>t.1≤s.length∧t.2.length*9+t.1=s.length∧Dg 1000000000 t.2∧val 1000000000 t.2+((1000000000:Nat):Int)^t.2.length*(rdv (s.take t.1):Nat)=(rdv s:Nat)) (fun t=>t.1)
  (fun t=>[(4,.int .i64 t.1),(3,.osl 32 0 t.2.length)]) (fun t=>[(32,.arr .u32 t.2)]) ?_ ?_ ?_
 ·exact V.wk
 ·exact⟨jhb _,by simp,fun x hx=>by simp at hx,by simp[val]⟩
 rintro⟨e,m⟩ ⟨h1,h2,h3,h4⟩
 dsimp only at h1 h2 h3 h4 ⊢
 have hmax:max ((e:Int)-9) 0=((e-9:Nat):Int):=by omega
 refine V.r0 hmax ?_
 have hdig:∀ i,i<s.length→48≤(s.getD i 0).toNat∧(s.getD i 0).toNat≤57:=fun i hi=>by
  have:=hd (s.getD i 0) (by rw[jhF,jhI hi];exact List.getElem_mem _)
  simpa [isDig] using this
 have hsub:∀ i, ∀ c∈(s.take i).drop (e-9),isDig c=true:=fun i c hc=>hd c (jhQ (jhP hc))
 have hlt:∀ i k,i≤s.length→i-(e-9)≤k→rdv ((s.take i).drop (e-9))<10^k:=fun i k hi hk=>by
  have h5:=jeB (hsub i)
  rw[jhV,jhL,Nat.min_eq_left hi] at h5
  exact jhh h5 (jht (by omega) hk)
 refine jae (e-9:Nat) (fun i=>e-9≤i∧i≤e) (fun i=>e-i) (fun i=>[(7,.int .i64 i),(6,.int .u32 (rdv ((s.take i).drop (e-9)):Nat))]) (fun _=>[]) ?_ ?_ ?_
 ·rw[show (s.take (e-9)).drop (e-9)=[] from List.drop_of_length_le (by rw[jhL];omega),show ((rdv []:Nat):Int)=0 from rfl]
  exact V.wk
 ·exact⟨jhb _,by omega⟩
 intro i hi
 (conv=>whnf)
 refine V.st ?_
 refine V.br (fun hq=>?_) (fun hq=>?_)
 ·rw[decide_eq_true_eq] at hq
  have hdi:=hdig i (by omega)
  have hv:=rdv_snoc ((s.take i).drop (e-9)) (s.getD i 0)
  rw[← jct hi.1 (by omega)] at hv
  have hb:=hlt i 8 (by omega) (by omega)
  generalize hc:s.getD i 0=c at *
  have hv2:((rdv ((s.take i).drop (e-9)):Nat):Int)*10+((c.toNat:Int)-48)=((rdv ((s.take (i+1)).drop (e-9)):Nat):Int):=by omega
  have hkc:((i:Int)+1)=((i+1:Nat):Int):=by omega
  refine V.r0 (V.a4 @jha hc hv2 hkc) ?_
  exact⟨i+1,by omega,by omega,V.wk⟩
 ·rw[decide_eq_false_iff_not] at hq
  obtain rfl:i=e:=by omega
  have hb:=hlt i 9 h1 (by omega)
  have hsp:=jey (s:=s) (a:=i-9) (e:=i) (by omega) h1
  have hra:=ja2 (s.take (i-9)) ((s.take i).drop (i-9))
  rw[← hsp,jhV,jhL,Nat.min_eq_left h1] at hra
  generalize hv:rdv ((s.take i).drop (i-9))=v at *
  have hl2:(m++[(v:Int)]).length=m.length+1:=by simp
  have hl3:m.length+(List.take 1 (List.drop 0 [(v:Int)])).length=(m++[(v:Int)]).length:=by simp
  have hdg:Dg 1000000000 (m++[(v:Int)]):=jag h3 (jap (by omega))
  have hvs:=jaN 1000000000 m (v:Int)
  refine V.r0 hl3 ?_
  try refine And.intro (fun _=>⟨trivial,by omega⟩) ?_
  refine V.r0 hl3 ?_
  refine V.br (fun hq2=>?_) (fun hq2=>?_)
  ·rw[decide_eq_true_eq] at hq2
   have e0:i-9=0:=by omega
   rw[e0] at hra
   have hz:rdv (s.take i)=v:=by rw[hra];simp[rdv]
   have hval:val 1000000000 (m++[(v:Int)])=(rdv s:Nat):=by rw[hvs,← hz];exact h4
   have hc:=jeu (m++[(v:Int)]) hdg (by omega)
   rw[hval,jha,← jhZ (l:=m++[(v:Int)])] at hc
   (conv=>whnf)
   refine V.st ?_
   repeat ((try ((with_reducible refine .ext ?_);(conv=>whnf)));(with_reducible refine jaa (r:=?_) ?_ ?_);rotate_left;(focus (first|exact(hc)));(conv=>whnf);refine V.st ?_)
   exact Fin.of rfl
  ·rw[decide_eq_false_iff_not] at hq2
   have h9:10≤i:=by omega
   have ek:((i:Int)-9)=((i-9:Nat):Int):=by omega
   refine V.r0 ek ?_
   refine⟨(i-9,m++[(v:Int)]),⟨by dsimp only;omega,by dsimp only;omega,hdg,?_⟩,by dsimp only;omega,V.wk⟩
   dsimp only
   rw[hvs,hl2,Int.pow_succ,← h4,hra,show i-(i-9)=9 by omega,Int.natCast_add,jho]
   generalize ((1000000000:Nat):Int)^m.length=P
   generalize (rdv (s.take (i-9)):Nat)=w
   have e1:((10^9:Nat):Int)=1000000000:=by decide
   rw[e1,jhs,jhn]
   rw[jhm (w:Int)]
   generalize (1000000000:Int)*(w:Int)=Q
   omega
theorem wgather_c (s:List UInt8)(hd:∀ c∈s,isDig c=true)(hl:s.length≤100000000):Cl 140 [.str s] (.ints .u32 (mg 1000000000 (rdv s))):=by
 refine V.en tbOk Tryz.func140 ?_
 (conv=>whnf)
 refine V.st ?_
 refine Lp.ghostSlot 32 3 .u32 (by decide) ?_
 (conv=>whnf)
 refine jae ((s.length,[]):Nat×List Int) (fun t=>t.1≤s.length∧t.2.length*9+t.1=s.length∧Dg 1000000000 t.2∧val 1000000000 t.2+((1000000000:Nat):Int)^t.2.length*(rdv (s.take t.1):Nat)=(rdv s:Nat)) (fun t=>t.1)
  (fun t=>[(4,.int .i64 t.1),(3,.osl 32 0 t.2.length)]) (fun t=>[(32,.arr .u32 t.2)]) ?_ ?_ ?_
 ·exact V.wk
 ·exact⟨jhb _,by simp,fun x hx=>by simp at hx,by simp[val]⟩
 rintro⟨e,m⟩ ⟨h1,h2,h3,h4⟩
 dsimp only at h1 h2 h3 h4 ⊢
 have hmax:max ((e:Int)-9) 0=((e-9:Nat):Int):=by omega
 refine V.r0 hmax ?_
 have hdig:∀ i,i<s.length→48≤(s.getD i 0).toNat∧(s.getD i 0).toNat≤57:=fun i hi=>by
  have:=hd (s.getD i 0) (by rw[jhF,jhI hi];exact List.getElem_mem _)
  simpa [isDig] using this
 have hsub:∀ i, ∀ c∈(s.take i).drop (e-9),isDig c=true:=fun i c hc=>hd c (jhQ (jhP hc))
 have hlt:∀ i k,i≤s.length→i-(e-9)≤k→rdv ((s.take i).drop (e-9))<10^k:=fun i k hi hk=>by
  have h5:=jeB (hsub i)
  rw[jhV,jhL,Nat.min_eq_left hi] at h5
  exact jhh h5 (jht (by omega) hk)
 refine jae (e-9:Nat) (fun i=>e-9≤i∧i≤e) (fun i=>e-i) (fun i=>[(7,.int .i64 i),(6,.int .u32 (rdv ((s.take i).drop (e-9)):Nat))]) (fun _=>[]) ?_ ?_ ?_
 ·rw[show (s.take (e-9)).drop (e-9)=[] from List.drop_of_length_le (by rw[jhL];omega),show ((rdv []:Nat):Int)=0 from rfl]
  exact V.wk
 ·exact⟨jhb _,by omega⟩
 intro i hi
 (conv=>whnf)
 refine V.st ?_
 refine V.br (fun hq=>?_) (fun hq=>?_)
 ·rw[decide_eq_true_eq] at hq
  have hdi:=hdig i (by omega)
  have hv:=rdv_snoc ((s.take i).drop (e-9)) (s.getD i 0)
  rw[← jct hi.1 (by omega)] at hv
  have hb:=hlt i 8 (by omega) (by omega)
  generalize hc:s.getD i 0=c at *
  have hv2:((rdv ((s.take i).drop (e-9)):Nat):Int)*10+((c.toNat:Int)-48)=((rdv ((s.take (i+1)).drop (e-9)):Nat):Int):=by omega
  have hkc:((i:Int)+1)=((i+1:Nat):Int):=by omega
  refine V.r0 (V.a4 @jha hc hv2 hkc) ?_
  exact⟨i+1,by omega,by omega,V.wk⟩
 ·rw[decide_eq_false_iff_not] at hq
  obtain rfl:i=e:=by omega
  have hb:=hlt i 9 h1 (by omega)
  have hsp:=jey (s:=s) (a:=i-9) (e:=i) (by omega) h1
  have hra:=ja2 (s.take (i-9)) ((s.take i).drop (i-9))
  rw[← hsp,jhV,jhL,Nat.min_eq_left h1] at hra
  generalize hv:rdv ((s.take i).drop (i-9))=v at *
  have hl2:(m++[(v:Int)]).length=m.length+1:=by simp
  have hl3:m.length+(List.take 1 (List.drop 0 [(v:Int)])).length=(m++[(v:Int)]).length:=by simp
  have hdg:Dg 1000000000 (m++[(v:Int)]):=jag h3 (jap (by omega))
  have hvs:=jaN 1000000000 m (v:Int)
  refine V.r0 hl3 ?_
  try refine And.intro (fun _=>⟨trivial,by omega⟩) ?_
  refine V.r0 hl3 ?_
  refine V.br (fun hq2=>?_) (fun hq2=>?_)
  ·rw[decide_eq_true_eq] at hq2
   have e0:i-9=0:=by omega
   rw[e0] at hra
   have hz:rdv (s.take i)=v:=by rw[hra];simp[rdv]
   have hval:val 1000000000 (m++[(v:Int)])=(rdv s:Nat):=by rw[hvs,← hz];exact h4
   have hc:=wtrim_c (m++[(v:Int)]) hdg (by omega)
   rw[hval,jha,← jhZ (l:=m++[(v:Int)])] at hc
   (conv=>whnf)
   refine V.st ?_
   repeat ((try ((with_reducible refine .ext ?_);(conv=>whnf)));(with_reducible refine jaa (r:=?_) ?_ ?_);rotate_left;(focus (first|exact(hc)));(conv=>whnf);refine V.st ?_)
   exact Fin.of rfl
  ·rw[decide_eq_false_iff_not] at hq2
   have h9:10≤i:=by omega
   have ek:((i:Int)-9)=((i-9:Nat):Int):=by omega
   refine V.r0 ek ?_
   refine⟨(i-9,m++[(v:Int)]),⟨by dsimp only;omega,by dsimp only;omega,hdg,?_⟩,by dsimp only;omega,V.wk⟩
   dsimp only
   rw[hvs,hl2,Int.pow_succ,← h4,hra,show i-(i-9)=9 by omega,Int.natCast_add,jho]
   generalize ((1000000000:Nat):Int)^m.length=P
   generalize (rdv (s.take (i-9)):Nat)=w
   have e1:((10^9:Nat):Int)=1000000000:=by decide
   rw[e1,jhs,jhn]
   rw[jhm (w:Int)]
   generalize (1000000000:Int)*(w:Int)=Q
   omega
theorem turn_c (z:Int)(hz:(mg 10000 z.natAbs).length≤281474976710656):Cl 110 [plD z] (plD (-z)):=by
 have hv:=jax (B:=10000) (by omega) z.natAbs
 have hm:=jdV (!decide (z<0)) (mg 10000 z.natAbs) (mg_dg (by omega) _) hz
 have e:(if (!decide (z<0))=true then -(val 10000 (mg 10000 z.natAbs)) else val 10000 (mg 10000 z.natAbs)) = -z:=by
  rw[hv]
  by_cases h:z<0
  ·simp[h];omega
  ·simp[h];omega
 rw[e] at hm
 refine V.en tbOk Tryz.func110 ?_
 (conv=>whnf)
 refine V.st ?_
 repeat ((try ((with_reducible refine .ext ?_);(conv=>whnf)));(with_reducible refine jaa (r:=?_) ?_ ?_);rotate_left;(focus (first|exact(hm)));(conv=>whnf);refine V.st ?_)
 exact Fin.of rfl
theorem jdE {B:Nat}{out:List Int}{q:Nat}{m:Int}(hB:2≤B)(h:val B out+(B:Int)^out.length*q=m):val B (out++[((q%B:Nat):Int)])+(B:Int)^(out++[((q%B:Nat):Int)]).length*((q/B:Nat):Int)=m:=by
 rw[jaN,jhK,List.length_singleton,Int.pow_succ,jhn,Int.add_assoc,← jhs,← jho,← Int.natCast_add,Nat.mod_add_div]
 exact h
theorem jd0 (n:Nat)(hn:n<10000^5):Cl 81 [.int .i64 n] (plD n):=by
 have hlen:=jau (B:=10000) (by omega) hn
 refine V.en tbOk Tryz.func81 ?_
 (conv=>whnf)
 refine V.st ?_
 refine Lp.ghostSlot 19 3 .i64 (by decide) ?_
 (conv=>whnf)
 refine jae ((n,[]):Nat×List Int) (fun s=>val 10000 s.2+((10000:Nat):Int)^s.2.length*s.1=n∧Dg 10000 s.2∧s.1≤n∧s.2.length+(mg 10000 s.1).length=(mg 10000 n).length) (fun s=>s.1) (fun s=>[(0,.int .i64 s.1),(3,.osl 19 0 s.2.length)]) (fun s=>[(19,.arr .i64 s.2)]) ?_ ?_ ?_
 ·exact V.wk
 ·exact⟨by simp[val],fun x hx=>by simp at hx,jhb _,by simp⟩
 rintro⟨q,out⟩ ⟨h1,h2,h3,h4⟩
 dsimp only at h1 h2 h3 h4 ⊢
 (conv=>whnf)
 refine V.st ?_
 refine V.br (fun hq=>?_) (fun hq=>?_)
 ·rw[decide_eq_true_eq] at hq
  have hq0:0<q:=by omega
  have hmg:=jbQ (B:=10000) (by omega) hq0
  have hst:=jdE (B:=10000) (by omega) h1
  have hlt:q/10000<q:=Nat.div_lt_self hq0 (by omega)
  have hdg:Dg 10000 (out++[((q%10000:Nat):Int)]):=jag h2 (jap ⟨by omega,by have:=Nat.mod_lt q (by omega:10000>0);omega⟩)
  have e1:(q:Int)%10000=((q%10000:Nat):Int):=by omega
  have e2:(q:Int)/10000=((q/10000:Nat):Int):=by omega
  have hl2:(out++[((q%10000:Nat):Int)]).length=out.length+1:=by simp
  have hl3:out.length+(List.take 1 (List.drop 0 [((q%10000:Nat):Int)])).length=(out++[((q%10000:Nat):Int)]).length:=by simp
  rw[hmg,jhS] at h4
  (conv=>whnf)
  (try simp only[e1,e2])
  repeat ((first|refine V.s1 ?_);(try simp only[e1,e2]))
  refine V.br (fun hneg=>?_) (fun hneg=>?_)
  ·exfalso
   rw[decide_eq_true_eq] at hneg
   omega
  (conv=>whnf)
  (try simp only[e1,e2,hl3])
  repeat ((first|refine V.s1 ?_);(try simp only[e1,e2,hl3]))
  try refine And.intro (fun _=>⟨trivial,by omega⟩) ?_
  (conv=>whnf)
  (try simp only[e1,e2,hl3])
  repeat ((first|refine V.s1 ?_);(try simp only[e1,e2,hl3]))
  exact⟨(q/10000,out++[((q%10000:Nat):Int)]),⟨hst,hdg,by dsimp only;omega,by dsimp only;omega⟩,hlt,V.wk⟩
 ·have hq0:q=0:=by simp at hq;exact hq
  subst hq0
  have hv:val 10000 out=(n:Int):=by simpa using h1
  have hm:=jdV false out h2 (by omega)
  rw[hv] at hm
  have e0:decide ((n:Int)<0)=false:=by simp
  refine V.r1 (V.a2 e0 @jhZ) hm ?_
  exact Fin.of rfl
theorem jgk (n:Nat)(hn0:0<n)(hn:n<10000^5):Cl 81 [.int .i64 (-(n:Int))] (plD (-(n:Int))):=by
 have hlen:=jau (B:=10000) (by omega) hn
 have e00:decide (-(n:Int)<0)=true:=by simp;omega
 refine V.en tbOk Tryz.func81 ?_
 refine V.r0 e00 ?_
 refine Lp.ghostSlot 19 3 .i64 (by decide) ?_
 (conv=>whnf)
 refine jae ((n,[]):Nat×List Int) (fun s=>val 10000 s.2+((10000:Nat):Int)^s.2.length*s.1=n∧Dg 10000 s.2∧s.1≤n∧s.2.length+(mg 10000 s.1).length=(mg 10000 n).length) (fun s=>s.1) (fun s=>[(0,.int .i64 (-(s.1:Int))),(3,.osl 19 0 s.2.length)]) (fun s=>[(19,.arr .i64 s.2)]) ?_ ?_ ?_
 ·exact V.wk
 ·exact⟨by simp[val],fun x hx=>by simp at hx,jhb _,by simp⟩
 rintro⟨q,out⟩ ⟨h1,h2,h3,h4⟩
 dsimp only at h1 h2 h3 h4 ⊢
 (conv=>whnf)
 refine V.st ?_
 refine V.br (fun hq=>?_) (fun hq=>?_)
 ·rw[decide_eq_true_eq] at hq
  have hq0:0<q:=by omega
  have hmg:=jbQ (B:=10000) (by omega) hq0
  have hst:=jdE (B:=10000) (by omega) h1
  have hlt:q/10000<q:=Nat.div_lt_self hq0 (by omega)
  have hdg:Dg 10000 (out++[((q%10000:Nat):Int)]):=jag h2 (jap ⟨by omega,by have:=Nat.mod_lt q (by omega:10000>0);omega⟩)
  have e1:(-(q:Int)).tmod 10000 = -((q%10000:Nat):Int):=by rw[Int.neg_tmod,jg6 (by omega)];simp
  have e2:(-(q:Int)).tdiv 10000 = -((q/10000:Nat):Int):=by rw[Int.neg_tdiv,jg5 (by omega)];simp
  have hl2:(out++[((q%10000:Nat):Int)]).length=out.length+1:=by simp
  have hl3:out.length+(List.take 1 (List.drop 0 [((q%10000:Nat):Int)])).length=(out++[((q%10000:Nat):Int)]).length:=by simp
  have hme:0≤((q%10000:Nat):Int)∧((q%10000:Nat):Int)<10000:=by have:=Nat.mod_lt q (by omega:10000>0);omega
  have hqe:0≤((q/10000:Nat):Int)∧((q/10000:Nat):Int)≤q:=by have:=jhu q 10000;omega
  rw[hmg,jhS] at h4
  (conv=>whnf)
  (try simp only[e1])
  repeat ((first|refine V.s1 ?_);(try simp only[e1]))
  refine V.br (fun hneg=>?_) (fun hneg=>?_)
  ·rw[decide_eq_true_eq] at hneg
   have e3:0 - -((q%10000:Nat):Int)=((q%10000:Nat):Int):=by omega
   (conv=>whnf)
   (try simp only[e1,e2,e3,hl3])
   repeat ((first|refine V.s1 ?_);(try simp only[e1,e2,e3,hl3]))
   try refine And.intro (fun _=>⟨trivial,by omega⟩) ?_
   (conv=>whnf)
   (try simp only[e1,e2,e3,hl3])
   repeat ((first|refine V.s1 ?_);(try simp only[e1,e2,e3,hl3]))
   exact⟨(q/10000,out++[((q%10000:Nat):Int)]),⟨hst,hdg,by dsimp only;omega,by dsimp only;omega⟩,hlt,V.wk⟩
  ·rw[decide_eq_false_iff_not] at hneg
   have e3 : -((q%10000:Nat):Int)=((q%10000:Nat):Int):=by omega
   (conv=>whnf)
   (try simp only[e1,e2,e3,hl3])
   repeat ((first|refine V.s1 ?_);(try simp only[e1,e2,e3,hl3]))
   try refine And.intro (fun _=>⟨trivial,by omega⟩) ?_
   (conv=>whnf)
   (try simp only[e1,e2,e3,hl3])
   repeat ((first|refine V.s1 ?_);(try simp only[e1,e2,e3,hl3]))
   exact⟨(q/10000,out++[((q%10000:Nat):Int)]),⟨hst,hdg,by dsimp only;omega,by dsimp only;omega⟩,hlt,V.wk⟩
 ·have hq0:q=0:=by simp at hq;omega
  subst hq0
  have hv:val 10000 out=(n:Int):=by simpa using h1
  have hm:=jdV true out h2 (by omega)
  rw[hv] at hm
  refine V.r1 @jhZ hm ?_
  exact Fin.of rfl
theorem jd1 (z:Int)(h:InR .i64 z):Cl 81 [.int .i64 z] (plD z):=by
 simp only[V.InR,V.lo,V.hi] at h
 rcases Int.le_total 0 z with h0|h0
 ·obtain⟨n,rfl⟩:∃ n:Nat,z=n:=⟨z.toNat,by omega⟩
  exact jd0 n (by omega)
 ·rcases Int.lt_or_le z 0 with h1|h1
  ·obtain⟨n,rfl⟩:∃ n:Nat,z = -(n:Int):=⟨z.natAbs,by omega⟩
   exact jgk n (by omega) (by omega)
  ·obtain rfl:z=0:=by omega
   exact jd0 0 (by omega)
end Go.Proofs.YtbhpaandigaanaaGreatDoor
end
section
namespace Go.Nb
open Go
theorem jdy {B:Nat}(hB:2≤B)(k:Nat):(0:Int)<(B:Int)^k:=Int.pow_pos (by omega)
theorem jcQ {B:Nat}(hB:2≤B){l:List Int}(hd:Dg B l)(h:(B:Int)^(l.length-1)≤val B l):l=mg B (val B l).toNat:=by
 refine mg_of hB hd fun x hx e=>?_
 subst e
 rcases List.eq_nil_or_concat l with rfl|⟨r,y,rfl⟩
 ·simp at hx
 ·simp only[List.concat_eq_append] at *
  rw[List.getLast?_append] at hx
  simp at hx
  subst hx
  have h1:=jbL (B:=B) (l:=r) fun y hy=>hd y (by simp[hy])
  rw[jaN,jhK,List.length_singleton,Nat.add_sub_cancel] at h
  simp at h
  omega
theorem jas {B:Nat}{out:List Int}{c u v x y d c':Int}{k:Nat}(hk:out.length=k)(h:val B out+c*(B:Int)^k=u+v)(hs:d+c'*B=c+x+y) :
  val B (out++[d])+c'*(B:Int)^(k+1)=(u+(B:Int)^k*x)+(v+(B:Int)^k*y):=by
 rw[jaN,hk,Int.pow_succ]
 generalize (B:Int)^k=P at *
 have e1:P*d+c'*(P*B)=P*(d+c'*B):=by rw[jhs];congr 1;ac_rfl
 have e2:P*(c+x+y)=c*P+P*x+P*y:=by rw[jhs,jhs,jhm P c]
 rw[hs,e2] at e1
 omega
theorem jbB {B:Nat}{out:List Int}{b u v x y d b':Int}{k:Nat}(hk:out.length=k)(h:val B out-b*(B:Int)^k=u-v)(hs:d-b'*B=x-y-b) :
  val B (out++[d])-b'*(B:Int)^(k+1)=(u+(B:Int)^k*x)-(v+(B:Int)^k*y):=by
 rw[jaN,hk,Int.pow_succ]
 generalize (B:Int)^k=P at *
 have e1:P*d-b'*(P*B)=P*(d-b'*B):=by rw[Int.mul_sub];congr 1;ac_rfl
 have e2:P*(x-y-b)=P*x-P*y-b*P:=by rw[Int.mul_sub,Int.mul_sub,jhm P b]
 rw[hs,e2] at e1
 omega
end Go.Nb
end
section
namespace Go.Proofs.YtbhpaandigaanaaGreatDoor
open Go Go.V Go.Nb
theorem jah (B:Nat)(xs:List Int)(k:Nat):val B (xs.take (k+1))=val B (xs.take k)+(B:Int)^k*xs.getD k 0:=by
 rcases jhi k xs.length with h|h
 ·have h1:xs[k]? = some (xs.getD k 0):=by rw[jhF,jhI h];rfl
  exact jcI h1
 ·rw[jhT (by omega),jhT h,jhF,List.getElem?_eq_none h]
  simp
theorem jak {B:Nat}(hB:1≤B){xs:List Int}(hd:Dg B xs)(k:Nat):0≤xs.getD k 0∧xs.getD k 0<B:=by
 rcases jhi k xs.length with h|h
 ·have h1:xs[k]? = some (xs.getD k 0):=by rw[jhF,jhI h];rfl
  exact hd _ (jhJ h1)
 ·rw[jhF,List.getElem?_eq_none h]
  simp;omega
theorem jbJ {xs:List Int}{k:Nat}(h:xs.length≤k):xs.getD k 0=0:=by
 rw[jhF,List.getElem?_eq_none h];rfl
theorem jeW {k m n:Nat}{out:List Int}{c x y:Int}(h1:out.length=k)(h2:Dg 10000 out)(h3:0≤c∧c≤1){P:Prop}(h5:k≤max m n∨(k=max m n+1∧c=0∧P))(hq:k<m∨k<n∨0<c)(gx:m≤k→x=0)(gy:n≤k→y=0) :
  k+1≤max m n∨(k+1=max m n+1∧(c+x+y)/10000=0∧((10000:Nat):Int)^(max m n)≤val 10000 (out++[(c+x+y)%10000])):=by
 rcases jhi k (max m n) with hm|hm
 ·exact .inl (by omega)
 ·have hk:k=max m n:=by omega
  have e1:=gx (by omega)
  have e2:=gy (by omega)
  have e3:c=1:=by omega
  subst e1 e2 e3
  refine .inr ⟨by omega,by decide,?_⟩
  rw[jaN,h1,← hk]
  have:=jal h2
  have e:(1+0+0:Int)%10000=1:=by decide
  rw[e];omega
theorem sum_c (a b:Nat)(ha:(mg 10000 a).length≤100000000)(hb:(mg 10000 b).length≤100000000):Cl 139 [.ints .i64 (mg 10000 a),.ints .i64 (mg 10000 b)] (.ints .i64 (mg 10000 (a+b))):=by
 have hdx:=mg_dg (B:=10000) (by omega) a
 have hdy:=mg_dg (B:=10000) (by omega) b
 have hvx:=jax (B:=10000) (by omega) a
 have hvy:=jax (B:=10000) (by omega) b
 have hpx:=fun h=>jce (B:=10000) (n:=a) (by omega) h
 have hpy:=fun h=>jce (B:=10000) (n:=b) (by omega) h
 have hex:=jbR (B:=10000) (n:=a) (by omega)
 have hey:=jbR (B:=10000) (n:=b) (by omega)
 generalize mg 10000 a=xs at *
 generalize mg 10000 b=ys at *
 refine V.en tbOk Tryz.func139 ?_
 (conv=>whnf)
 refine V.st ?_
 refine Lp.ghostSlot 48 5 .i64 (by decide) ?_
 (conv=>whnf)
 refine jae ((0,[],0):Nat×List Int×Int) (fun s=>s.2.1.length=s.1∧Dg 10000 s.2.1∧(0≤s.2.2∧s.2.2≤1)∧val 10000 s.2.1+s.2.2*((10000:Nat):Int)^s.1=val 10000 (xs.take s.1)+val 10000 (ys.take s.1)∧(s.1≤max xs.length ys.length∨(s.1=max xs.length ys.length+1∧s.2.2=0∧((10000:Nat):Int)^(max xs.length ys.length)≤val 10000 s.2.1))) (fun s=>max xs.length ys.length+2-s.1)
  (fun s=>[(7,.int .i64 s.1),(6,.int .i64 s.2.2),(5,.osl 48 0 s.2.1.length)]) (fun s=>[(48,.arr .i64 s.2.1)]) ?_ ?_ ?_
 ·exact V.wk
 ·exact⟨rfl,fun x hx=>by simp at hx,by simp,by simp[val],.inl (by simp)⟩
 rintro⟨k,out,c⟩ ⟨h1,h2,h3,h4,h5⟩
 dsimp only at h1 h2 h3 h4 h5 ⊢
 have vx:=jah 10000 xs k
 have vy:=jah 10000 ys k
 have bx:=jak (by omega) hdx k
 have by':=jak (by omega) hdy k
 have gx:=jbJ (xs:=xs) (k:=k)
 have gy:=jbJ (xs:=ys) (k:=k)
 generalize hx0:xs.getD k 0=x at *
 generalize hy0:ys.getD k 0=y at *
 (conv=>whnf)
 refine V.st ?_
 refine V.br (fun hq=>?_) (fun hq=>?_)
 ·simp only[Bool.or_eq_true,decide_eq_true_eq] at hq
  (conv=>whnf)
  refine V.st ?_
  refine V.br (fun hx=>?_) (fun hx=>?_)
  ·rw[decide_eq_true_eq] at hx
   refine V.r0 (V.a2 @jha hx0) ?_
   refine V.br (fun hy=>?_) (fun hy=>?_)
   ·rw[decide_eq_true_eq] at hy
    refine V.r0 (V.a2 @jha hy0) ?_
    have hE:c+x+y=c+x+y:=by omega
    rw[hE]
    have hd0:0≤(c+x+y)%10000∧(c+x+y)%10000<10000:=⟨Int.emod_nonneg _ (by omega),jhv _ (by omega)⟩
    have hst:=jas (B:=10000) (x:=x) (y:=y) (d:=(c+x+y)%10000) (c':=(c+x+y)/10000) h1 h4 (by have:=jg3 (c+x+y) 10000;omega)
    rw[← vx,← vy] at hst
    have hdg:Dg 10000 (out++[(c+x+y)%10000]):=jag h2 (jap hd0)
    have hl2:(out++[(c+x+y)%10000]).length=k+1:=by simp[h1]
    have hl3:out.length+(List.take 1 (List.drop 0 [(c+x+y)%10000])).length=(out++[(c+x+y)%10000]).length:=by simp
    have hkc:((k:Int)+1)=((k+1:Nat):Int):=by omega
    refine V.r0 (V.a2 hl3 hkc) ?_
    try refine And.intro (fun _=>⟨trivial,by omega⟩) ?_
    refine V.r0 (V.a2 hl3 hkc) ?_
    exact⟨(k+1,out++[(c+x+y)%10000],(c+x+y)/10000),⟨hl2,hdg,by dsimp only;omega,hst,jeW h1 h2 h3 h5 (by omega) gx gy⟩,by dsimp only;omega,V.wk⟩
   ·rw[decide_eq_false_iff_not] at hy
    have:=gy (by omega)
    (conv=>whnf)
    refine V.st ?_
    have hE:c+x=c+x+y:=by omega
    rw[hE]
    have hd0:0≤(c+x+y)%10000∧(c+x+y)%10000<10000:=⟨Int.emod_nonneg _ (by omega),jhv _ (by omega)⟩
    have hst:=jas (B:=10000) (x:=x) (y:=y) (d:=(c+x+y)%10000) (c':=(c+x+y)/10000) h1 h4 (by have:=jg3 (c+x+y) 10000;omega)
    rw[← vx,← vy] at hst
    have hdg:Dg 10000 (out++[(c+x+y)%10000]):=jag h2 (jap hd0)
    have hl2:(out++[(c+x+y)%10000]).length=k+1:=by simp[h1]
    have hl3:out.length+(List.take 1 (List.drop 0 [(c+x+y)%10000])).length=(out++[(c+x+y)%10000]).length:=by simp
    have hkc:((k:Int)+1)=((k+1:Nat):Int):=by omega
    refine V.r0 (V.a2 hl3 hkc) ?_
    try refine And.intro (fun _=>⟨trivial,by omega⟩) ?_
    refine V.r0 (V.a2 hl3 hkc) ?_
    exact⟨(k+1,out++[(c+x+y)%10000],(c+x+y)/10000),⟨hl2,hdg,by dsimp only;omega,hst,jeW h1 h2 h3 h5 (by omega) gx gy⟩,by dsimp only;omega,V.wk⟩
  ·rw[decide_eq_false_iff_not] at hx
   have:=gx (by omega)
   (conv=>whnf)
   refine V.st ?_
   refine V.br (fun hy=>?_) (fun hy=>?_)
   ·rw[decide_eq_true_eq] at hy
    refine V.r0 (V.a2 @jha hy0) ?_
    have hE:c+y=c+x+y:=by omega
    rw[hE]
    have hd0:0≤(c+x+y)%10000∧(c+x+y)%10000<10000:=⟨Int.emod_nonneg _ (by omega),jhv _ (by omega)⟩
    have hst:=jas (B:=10000) (x:=x) (y:=y) (d:=(c+x+y)%10000) (c':=(c+x+y)/10000) h1 h4 (by have:=jg3 (c+x+y) 10000;omega)
    rw[← vx,← vy] at hst
    have hdg:Dg 10000 (out++[(c+x+y)%10000]):=jag h2 (jap hd0)
    have hl2:(out++[(c+x+y)%10000]).length=k+1:=by simp[h1]
    have hl3:out.length+(List.take 1 (List.drop 0 [(c+x+y)%10000])).length=(out++[(c+x+y)%10000]).length:=by simp
    have hkc:((k:Int)+1)=((k+1:Nat):Int):=by omega
    refine V.r0 (V.a2 hl3 hkc) ?_
    try refine And.intro (fun _=>⟨trivial,by omega⟩) ?_
    refine V.r0 (V.a2 hl3 hkc) ?_
    exact⟨(k+1,out++[(c+x+y)%10000],(c+x+y)/10000),⟨hl2,hdg,by dsimp only;omega,hst,jeW h1 h2 h3 h5 (by omega) gx gy⟩,by dsimp only;omega,V.wk⟩
   ·rw[decide_eq_false_iff_not] at hy
    have:=gy (by omega)
    (conv=>whnf)
    refine V.st ?_
    have hE:c=c+x+y:=by omega
    rw[hE]
    have hd0:0≤(c+x+y)%10000∧(c+x+y)%10000<10000:=⟨Int.emod_nonneg _ (by omega),jhv _ (by omega)⟩
    have hst:=jas (B:=10000) (x:=x) (y:=y) (d:=(c+x+y)%10000) (c':=(c+x+y)/10000) h1 h4 (by have:=jg3 (c+x+y) 10000;omega)
    rw[← vx,← vy] at hst
    have hdg:Dg 10000 (out++[(c+x+y)%10000]):=jag h2 (jap hd0)
    have hl2:(out++[(c+x+y)%10000]).length=k+1:=by simp[h1]
    have hl3:out.length+(List.take 1 (List.drop 0 [(c+x+y)%10000])).length=(out++[(c+x+y)%10000]).length:=by simp
    have hkc:((k:Int)+1)=((k+1:Nat):Int):=by omega
    refine V.r0 (V.a2 hl3 hkc) ?_
    try refine And.intro (fun _=>⟨trivial,by omega⟩) ?_
    refine V.r0 (V.a2 hl3 hkc) ?_
    exact⟨(k+1,out++[(c+x+y)%10000],(c+x+y)/10000),⟨hl2,hdg,by dsimp only;omega,hst,jeW h1 h2 h3 h5 (by omega) gx gy⟩,by dsimp only;omega,V.wk⟩
 ·simp only[jhk,decide_eq_false_iff_not] at hq
  have hc:c=0:=by omega
  have hkm:max xs.length ys.length≤k:=by omega
  subst hc
  rw[jhT (by omega),jhT (by omega),hvx,hvy,Int.zero_mul,jhw] at h4
  have hge:((10000:Nat):Int)^(out.length-1)≤val 10000 out∨(out=[]∧a+b=0):=by
   rcases h5 with h5|h5
   ·rcases jhe (a+b) with h0|h0
    ·right
     have e1:=hex.mpr (by omega)
     have e2:=hey.mpr (by omega)
     subst e1 e2
     have:k=0:=by simpa using h5
     exact⟨jhG.mp (by omega),h0⟩
    ·left
     rw[h4,h1]
     have hk:k=max xs.length ys.length:=by omega
     rcases jhi xs.length ys.length with hl|hl
     ·have hb0:0<b:=Nat.pos_of_ne_zero fun h=>by
       rw[← hey] at h;rw[h] at hl;simp at hl
      have h9:=hpy hb0
      have hk':k=ys.length:=by omega
      rw[← hk'] at h9
      have h8:(((10000^(k-1):Nat)):Int)≤(b:Int):=by exact_mod_cast h9
      rw[jhx] at h8
      omega
     ·have ha0:0<a:=Nat.pos_of_ne_zero fun h=>by
       have h':=h
       rw[← hex] at h'
       rw[h'] at hl
       have:ys=[]:=jhG.mp (by simpa using hl)
       have:=hey.mp this
       omega
      have h9:=hpx ha0
      have hk':k=xs.length:=by omega
      rw[← hk'] at h9
      have h8:(((10000^(k-1):Nat)):Int)≤(a:Int):=by exact_mod_cast h9
      rw[jhx] at h8
      omega
   ·left
    rw[h1,h5.1]
    exact h5.2.2
  have hout:out=mg 10000 (a+b):=by
   rcases hge with hge|hge
   ·have:=jcQ (by omega) h2 hge
    rw[this,h4];congr 1
   ·rw[hge.1,hge.2];rfl
  (conv=>whnf)
  refine V.st ?_
  exact Fin.of (by rw[jhZ,hout])
theorem jcj (a b:Nat)(hba:b≤a)(ha:(mg 10000 a).length≤100000000):Cl 108 [.ints .i64 (mg 10000 a),.ints .i64 (mg 10000 b)] (.ints .i64 (mg 10000 (a-b))):=by
 have hdx:=mg_dg (B:=10000) (by omega) a
 have hdy:=mg_dg (B:=10000) (by omega) b
 have hvx:=jax (B:=10000) (by omega) a
 have hvy:=jax (B:=10000) (by omega) b
 have hlen:=jaf (B:=10000) (by omega) hba
 generalize mg 10000 a=xs at *
 generalize mg 10000 b=ys at *
 refine V.en tbOk Tryz.func108 ?_
 (conv=>whnf)
 refine V.st ?_
 refine Lp.ghostSlot 38 5 .i64 (by decide) ?_
 (conv=>whnf)
 refine jae ((0,[],0):Nat×List Int×Int) (fun s=>s.2.1.length=s.1∧Dg 10000 s.2.1∧(0≤s.2.2∧s.2.2≤1)∧val 10000 s.2.1-s.2.2*((10000:Nat):Int)^s.1=val 10000 (xs.take s.1)-val 10000 (ys.take s.1)∧s.1≤xs.length) (fun s=>xs.length+2-s.1)
  (fun s=>[(7,.int .i64 s.1),(6,.int .i64 s.2.2),(5,.osl 38 0 s.2.1.length)]) (fun s=>[(38,.arr .i64 s.2.1)]) ?_ ?_ ?_
 ·exact V.wk
 ·exact⟨rfl,fun x hx=>by simp at hx,by simp,by simp[val],by simp⟩
 rintro⟨k,out,bw⟩ ⟨h1,h2,h3,h4,h5⟩
 dsimp only at h1 h2 h3 h4 h5 ⊢
 have vx:=jah 10000 xs k
 have vy:=jah 10000 ys k
 have bx:=jak (by omega) hdx k
 have by':=jak (by omega) hdy k
 have gy:=jbJ (xs:=ys) (k:=k)
 generalize hx0:xs.getD k 0=x at *
 generalize hy0:ys.getD k 0=y at *
 (conv=>whnf)
 refine V.st ?_
 refine V.br (fun hq=>?_) (fun hq=>?_)
 ·rw[decide_eq_true_eq] at hq
  refine V.r0 (V.a2 @jha hx0) ?_
  refine V.br (fun hy=>?_) (fun hy=>?_)
  ·rw[decide_eq_true_eq] at hy
   refine V.r0 (V.a2 @jha hy0) ?_
   refine V.br (fun hz=>?_) (fun hz=>?_)
   ·rw[decide_eq_true_eq] at hz
    have hE:x-bw-y=x-y-bw:=by omega
    rw[hE]
    have hst:=jbB (B:=10000) (x:=x) (y:=y) (d:=(x-y-bw+10000)) (b':=1) h1 h4 (by omega)
    rw[← vx,← vy] at hst
    have hdg:Dg 10000 (out++[(x-y-bw+10000)]):=jag h2 (jap (by omega))
    have hl2:(out++[(x-y-bw+10000)]).length=k+1:=by simp[h1]
    have hl3:out.length+(List.take 1 (List.drop 0 [(x-y-bw+10000)])).length=(out++[(x-y-bw+10000)]).length:=by simp
    have hkc:((k:Int)+1)=((k+1:Nat):Int):=by omega
    refine V.r0 (V.a2 hl3 hkc) ?_
    try refine And.intro (fun _=>⟨trivial,by omega⟩) ?_
    refine V.r0 (V.a2 hl3 hkc) ?_
    exact⟨(k+1,out++[(x-y-bw+10000)],1),⟨hl2,hdg,by dsimp only;omega,hst,by dsimp only;omega⟩,by dsimp only;omega,V.wk⟩
   ·rw[decide_eq_false_iff_not] at hz
    have hE:x-bw-y=x-y-bw:=by omega
    rw[hE]
    have hst:=jbB (B:=10000) (x:=x) (y:=y) (d:=(x-y-bw)) (b':=0) h1 h4 (by omega)
    rw[← vx,← vy] at hst
    have hdg:Dg 10000 (out++[(x-y-bw)]):=jag h2 (jap (by omega))
    have hl2:(out++[(x-y-bw)]).length=k+1:=by simp[h1]
    have hl3:out.length+(List.take 1 (List.drop 0 [(x-y-bw)])).length=(out++[(x-y-bw)]).length:=by simp
    have hkc:((k:Int)+1)=((k+1:Nat):Int):=by omega
    refine V.r0 (V.a2 hl3 hkc) ?_
    try refine And.intro (fun _=>⟨trivial,by omega⟩) ?_
    refine V.r0 (V.a2 hl3 hkc) ?_
    exact⟨(k+1,out++[(x-y-bw)],0),⟨hl2,hdg,by dsimp only;omega,hst,by dsimp only;omega⟩,by dsimp only;omega,V.wk⟩
  ·rw[decide_eq_false_iff_not] at hy
   have:=gy (by omega)
   (conv=>whnf)
   refine V.st ?_
   refine V.br (fun hz=>?_) (fun hz=>?_)
   ·rw[decide_eq_true_eq] at hz
    have hE:x-bw=x-y-bw:=by omega
    rw[hE]
    have hst:=jbB (B:=10000) (x:=x) (y:=y) (d:=(x-y-bw+10000)) (b':=1) h1 h4 (by omega)
    rw[← vx,← vy] at hst
    have hdg:Dg 10000 (out++[(x-y-bw+10000)]):=jag h2 (jap (by omega))
    have hl2:(out++[(x-y-bw+10000)]).length=k+1:=by simp[h1]
    have hl3:out.length+(List.take 1 (List.drop 0 [(x-y-bw+10000)])).length=(out++[(x-y-bw+10000)]).length:=by simp
    have hkc:((k:Int)+1)=((k+1:Nat):Int):=by omega
    refine V.r0 (V.a2 hl3 hkc) ?_
    try refine And.intro (fun _=>⟨trivial,by omega⟩) ?_
    refine V.r0 (V.a2 hl3 hkc) ?_
    exact⟨(k+1,out++[(x-y-bw+10000)],1),⟨hl2,hdg,by dsimp only;omega,hst,by dsimp only;omega⟩,by dsimp only;omega,V.wk⟩
   ·rw[decide_eq_false_iff_not] at hz
    have hE:x-bw=x-y-bw:=by omega
    rw[hE]
    have hst:=jbB (B:=10000) (x:=x) (y:=y) (d:=(x-y-bw)) (b':=0) h1 h4 (by omega)
    rw[← vx,← vy] at hst
    have hdg:Dg 10000 (out++[(x-y-bw)]):=jag h2 (jap (by omega))
    have hl2:(out++[(x-y-bw)]).length=k+1:=by simp[h1]
    have hl3:out.length+(List.take 1 (List.drop 0 [(x-y-bw)])).length=(out++[(x-y-bw)]).length:=by simp
    have hkc:((k:Int)+1)=((k+1:Nat):Int):=by omega
    refine V.r0 (V.a2 hl3 hkc) ?_
    try refine And.intro (fun _=>⟨trivial,by omega⟩) ?_
    refine V.r0 (V.a2 hl3 hkc) ?_
    exact⟨(k+1,out++[(x-y-bw)],0),⟨hl2,hdg,by dsimp only;omega,hst,by dsimp only;omega⟩,by dsimp only;omega,V.wk⟩
 ·rw[decide_eq_false_iff_not] at hq
  have hk:k=xs.length:=by omega
  rw[jhT (by omega),jhT (by omega),hvx,hvy] at h4
  have hlt:=jbL h2
  have hnn:=jal h2
  rw[h1] at hlt
  have hbw:bw=0:=by
   rcases (by omega:bw=0∨bw=1) with e|e
   ·exact e
   ·subst e;omega
  subst hbw
  rw[Int.zero_mul,Int.sub_zero] at h4
  have hc:=cut_c out h2 (by omega)
  rw[h4] at hc
  have e1:((a:Int)-(b:Int)).toNat=a-b:=by omega
  rw[e1] at hc
  have hc2:Cl 105 [.ints .i64 (List.take out.length out)] (.ints .i64 (mg 10000 (a-b))):=by rw[jhZ];exact hc
  (conv=>whnf)
  refine V.st ?_
  repeat ((try ((with_reducible refine .ext ?_);(conv=>whnf)));(with_reducible refine jaa (r:=?_) ?_ ?_);rotate_left;(focus (first|exact(hc2)));(conv=>whnf);refine V.st ?_)
  exact Fin.of rfl
def ordR (xs ys:List Int):Nat→Int
 | 0=>0
 | k+1=>if xs.getD k 0=ys.getD k 0 then ordR xs ys k else xs.getD k 0-ys.getD k 0
def ordV (xs ys:List Int):Int:=if xs.length=ys.length then ordR xs ys xs.length else (xs.length:Int)-ys.length
theorem jbY {B:Nat}(hB:2≤B){xs:List Int}(hd:Dg B xs)(k:Nat):val B (xs.take k)<(B:Int)^k:=by
 have h:=jbL (ja8 hd k)
 have h2:B^(xs.take k).length≤B^k:=jht (by omega) (by rw[jhL];omega)
 have h3:(((B^(xs.take k).length:Nat)):Int)≤((B^k:Nat):Int):=by exact_mod_cast h2
 rw[jhx,jhx] at h3
 omega
theorem jfy {B:Nat}(hB:2≤B){xs ys:List Int}(hx:Dg B xs)(hy:Dg B ys):∀ k,(ordR xs ys k<0↔val B (xs.take k)<val B (ys.take k))∧(ordR xs ys k=0↔val B (xs.take k)=val B (ys.take k))
 | 0=>by simp[ordR]
 | k+1=>by
  obtain⟨i1,i2⟩:=jfy hB hx hy k
  rw[jah,jah,ordR]
  have l1:=jbY hB hx k
  have l2:=jbY hB hy k
  have n1:=jal (ja8 hx k)
  have n2:=jal (ja8 hy k)
  generalize xs.getD k 0=x
  generalize ys.getD k 0=y
  generalize val B (xs.take k)=u at *
  generalize val B (ys.take k)=v at *
  generalize (B:Int)^k=P at *
  by_cases e:x=y
  ·subst e;rw[if_pos rfl];omega
  ·rw[if_neg e]
   rcases Int.lt_or_gt_of_ne e with h|h
   ·have:P*(x+1)≤P*y:=jhl (by omega) (by omega)
    rw[jhs,Int.mul_one] at this
    omega
   ·have:P*(y+1)≤P*x:=jhl (by omega) (by omega)
    rw[jhs,Int.mul_one] at this
    omega
theorem jeE {B:Nat}(hB:2≤B)(a b:Nat):(ordV (mg B a) (mg B b)<0↔a<b)∧(ordV (mg B a) (mg B b)=0↔a=b):=by
 unfold ordV
 have m1:=fun h:a≤b=>jaf (B:=B) hB h
 have m2:=fun h:b≤a=>jaf (B:=B) hB h
 by_cases e:(mg B a).length=(mg B b).length
 ·rw[if_pos e]
  have h:=jfy hB (mg_dg (B:=B) hB a) (mg_dg (B:=B) hB b) (mg B a).length
  rw[jhT (jhb _),jhT (by omega),jax hB,jax hB] at h
  omega
 ·rw[if_neg e]
  rcases Nat.lt_trichotomy a b with h|h|h
  ·have:=m1 (by omega);omega
  ·subst h;exact absurd rfl e
  ·have:=m2 (by omega);omega
theorem jfx (a b:Nat):(ordV (mg 10000 a) (mg 10000 b)<0↔a<b)∧(ordV (mg 10000 a) (mg 10000 b)=0↔a=b):=jeE (by omega) a b
theorem jfV (B:Nat)(d:Int):∀ (l:List Int) (k:Nat),k<l.length→val B (l.set k d)=val B l+(B:Int)^k*(d-l.getD k 0)
 | [],k,h=>by simp at h
 | x::l,0,_=>by simp[val];omega
 | x::l,k+1,h=>by
  have ih:=jfV B d l k (by simpa using h)
  simp only[List.set_cons_succ,val,List.getD_cons_succ]
  rw[ih,Int.pow_succ,jhs]
  generalize (B:Int)^k=P
  have:(B:Int)*(P*(d-l.getD k 0))=P*B*(d-l.getD k 0):=by ac_rfl
  omega
theorem jcZ {B:Nat}{l:List Int}{k:Nat}{d:Int}(h:Dg B l)(hd:0≤d∧d<B):Dg B (l.set k d):=fun x hx=>by
 rcases List.mem_or_eq_of_mem_set hx with h1|h1
 ·exact h x h1
 ·subst h1;exact hd
theorem jfw {B:Nat}{o:List Int}{i j:Nat}{c q x y U Y d c':Int}(hlt:i+j<o.length)(hq:o.getD (i+j) 0=q)(h:val B o+(B:Int)^(i+j)*c=U+(B:Int)^i*x*Y)(hs:d+c'*B=c+q+x*y) :
  val B (o.set (i+j) d)+(B:Int)^(i+(j+1))*c'=U+(B:Int)^i*x*(Y+(B:Int)^j*y):=by
 rw[jfV B d o (i+j) hlt,hq,← Nat.add_assoc,Int.pow_succ]
 have e0:(B:Int)^i*x*(Y+(B:Int)^j*y)=(B:Int)^i*x*Y+(B:Int)^(i+j)*(x*y):=by
  rw[jhs,Int.pow_add];congr 1;ac_rfl
 rw[e0]
 generalize (B:Int)^(i+j)=P at *
 have e1:P*(d+c'*B)=P*d+P*B*c':=by rw[jhs];congr 1;ac_rfl
 rw[hs] at e1
 have e2:P*(c+q+x*y)=P*c+P*q+P*(x*y):=by rw[jhs,jhs]
 rw[Int.mul_sub]
 omega
theorem prod_end {B:Nat}{o xs:List Int}{i n:Nat}{c x YS:Int}(hlt:i+n<o.length)(hq:o.getD (i+n) 0=0)(h:val B o+(B:Int)^(i+n)*c=val B (xs.take i)*YS+(B:Int)^i*x*YS)(hx:xs.getD i 0=x) :
  val B (o.set (i+n) c)=val B (xs.take (i+1))*YS:=by
 rw[jfV B c o (i+n) hlt,hq,jah,hx,jhy,Int.sub_zero]
 exact h
theorem jb6 {l:List Int}{i k:Nat}{d:Int}(h:i≠k):(l.set i d).getD k 0=l.getD k 0:=by
 simp[jhF,List.getElem?_set,h]
theorem jd3 {l:List Int}{i:Nat}{d:Int}(h:i<l.length):(l.set i d).getD i 0=d:=by
 simp[jhF,List.getElem?_set,h]
theorem jbA {B:Nat}{l:List Int}{k:Nat}(h:k<l.length):val B (l.drop k)=l.getD k 0+B*val B (l.drop (k+1)):=by
 rw[List.drop_eq_getElem_cons h,val]
 congr 1
 simp[jhF,h]
theorem jd9 {l:List Int}{i k:Nat}{d:Int}(h:i<k):(l.set i d).drop k=l.drop k:=by
 rw[List.drop_set_of_lt h]
theorem jdQ {B:Nat}{xs out:List Int}{k:Nat}{d r x t:Int}(hk:k<xs.length)(hl:k<out.length)(hx:xs.getD k 0=x)(h:val B (xs.drop (k+1))=val B (out.drop (k+1))*d+r)(ht:t=r*B+x) :
  val B (xs.drop k)=val B ((out.set k (t/d)).drop k)*d+t%d:=by
 have e0:=jbA (B:=B) (l:=out.set k (t/d)) (k:=k) (by rw[jhY];exact hl)
 rw[jd3 hl,jd9 (l:=out) (i:=k) (k:=k+1) (by omega)] at e0
 rw[jbA hk,e0,hx,h]
 have:=jg3 t d
 have e1:(t/d+(B:Int)*val B (out.drop (k+1)))*d=d*(t/d)+B*(val B (out.drop (k+1))*d):=by rw[jhy];congr 1<;>ac_rfl
 rw[e1,jhs]
 have e2:(B:Int)*r=r*B:=jhm _ _
 omega
theorem jdR {B:Nat}{d r x:Int}(hd:0<d)(hr:0≤r∧r<d)(hx:0≤x∧x<B):0≤(r*B+x)/d∧(r*B+x)/d<B∧0≤(r*B+x)%d∧(r*B+x)%d<d:=by
 have h0:0≤r*(B:Int):=jg4 hr.1 (by omega)
 refine⟨Int.ediv_nonneg (by omega) (by omega),?_,Int.emod_nonneg _ (by omega),jhv _ hd⟩
 refine Int.ediv_lt_of_lt_mul hd ?_
 have h1:(r+1)*(B:Int)≤d*B:=jhg (by omega) (by omega)
 rw[jhy,jhz] at h1
 rw[jhm d (B:Int)] at h1
 omega
theorem order_c (xs ys:List Int)(ha:xs.length≤100000000)(hb:ys.length≤100000000)(hdx:Dg 10000 xs)(hdy:Dg 10000 ys):Cl 107 [.ints .i64 xs,.ints .i64 ys] (.int .i64 (ordV xs ys)):=by
 refine V.en tbOk Tryz.func107 ?_
 (conv=>whnf)
 refine V.st ?_
 refine V.br (fun hq=>?_) (fun hq=>?_)
 ·rw[decide_eq_true_eq] at hq
  (conv=>whnf)
  refine V.st ?_
  exact Fin.of (by unfold ordV;rw[if_neg (by omega)])
 ·rw[decide_eq_false_iff_not] at hq
  have hq':xs.length=ys.length:=by omega
  (conv=>whnf)
  refine V.st ?_
  refine jae (xs.length) (fun k=>k≤xs.length∧ordR xs ys k=ordR xs ys xs.length) (fun k=>k) (fun k=>[(5,.int .i64 ((k:Int)-1))]) (fun k=>[]) ?_ ?_ ?_
  ·exact V.wk
  ·exact⟨jhb _,rfl⟩
  intro k hk
  have bx:=jak (by omega) hdx (k-1)
  have by':=jak (by omega) hdy (k-1)
  (conv=>whnf)
  refine V.st ?_
  refine V.br (fun hz=>?_) (fun hz=>?_)
  ·rw[decide_eq_true_eq] at hz
   (conv=>whnf)
   refine V.st ?_
   refine⟨Pq20z,[],V.pok,.go (jab ?_)⟩
   (conv=>whnf)
   refine V.st ?_
   have hk0:0<k:=by omega
   obtain⟨j,rfl⟩:∃ j,k=j+1:=⟨k-1,by omega⟩
   have e1:((((j+1:Nat):Int)-1).toNat)=j:=by omega
   have e2:(((j+1:Nat):Int)-1)=(j:Int):=by omega
   have hr:=hk.2
   rw[ordR] at hr
   refine V.br (fun hn=>?_) (fun hn=>?_)
   ·rw[decide_eq_true_eq,e1] at hn
    (conv=>whnf)
    refine V.st ?_
    refine⟨(V.tk [0,1,2,3,4,5,6,7,8,9] .done),[],V.pok,.go (jab ?_)⟩
    (conv=>whnf)
    refine V.st ?_
    rw[Nat.add_sub_cancel] at bx by'
    rw[e1]
    generalize xs.getD j 0=x at *
    generalize ys.getD j 0=y at *
    refine And.intro (fun _ _ _=>?_) ?_
    ·refine⟨?_,?_⟩<;>simp only[V.lo,V.hi]<;>omega
    (conv=>whnf)
    refine V.st ?_
    exact Fin.of (by unfold ordV;rw[if_pos hq',← hr,if_neg hn])
   ·rw[decide_eq_false_iff_not,e1] at hn
    rw[if_pos (by omega)] at hr
    refine V.r0 e2 ?_
    exact⟨j,⟨by omega,hr⟩,by omega,V.wk⟩
  ·rw[decide_eq_false_iff_not] at hz
   have hk0:k=0:=by omega
   subst hk0
   (conv=>whnf)
   refine V.st ?_
   exact Fin.of (by unfold ordV;rw[if_pos hq',← hk.2];rfl)
theorem jdO (xs ys:List Int)(ha:xs.length≤100000000)(hb:ys.length≤100000000)(hdx:Dg 10000 xs)(hdy:∀ j,0≤ys.getD j 0∧ys.getD j 0≤10000∧(0<j→ys.getD j 0<10000)):Cl 78 [.ints .i64 xs,.ints .i64 ys] (.ints .i64 (mg 10000 (val 10000 xs*val 10000 ys).toNat)):=by
 have hmn:((xs.length:Int)+(ys.length:Int)).toNat=xs.length+ys.length:=by omega
 refine V.en tbOk Tryz.func78 ?_
 refine V.r0 hmn ?_
 refine jae ((0,List.replicate (xs.length+ys.length) 0):Nat×List Int) (fun s=>s.1≤xs.length∧s.2.length=xs.length+ys.length∧Dg 10000 s.2∧(∀ k,s.1+ys.length≤k→s.2.getD k 0=0)∧val 10000 s.2=val 10000 (xs.take s.1)*val 10000 ys) (fun s=>xs.length-s.1)
  (fun s=>[(6,.int .i64 s.1),(5,.osl 14 0 (xs.length+ys.length))]) (fun s=>[(14,.arr .i64 s.2)]) ?_ ?_ ?_
 ·exact V.wk
 ·exact⟨jg2 _,by simp,jbG (by omega) _,fun k _=>by simp[jhF,List.getElem?_replicate];split<;>simp,by simp[val,jdI]⟩
 rintro⟨i,out⟩ ⟨h1,h2,h3,h4,h5⟩
 dsimp only at h1 h2 h3 h4 h5 ⊢
 have vx:=jah 10000 xs i
 have bx:=jak (by omega) hdx i
 generalize hx0:xs.getD i 0=x at *
 (conv=>whnf)
 refine V.st ?_
 refine V.br (fun hq=>?_) (fun hq=>?_)
 ·rw[decide_eq_true_eq] at hq
  (conv=>whnf)
  refine V.st ?_
  refine jae ((0,out,0):Nat×List Int×Int) (fun s=>s.1≤ys.length∧s.2.1.length=xs.length+ys.length∧Dg 10000 s.2.1∧(∀ k,i+ys.length≤k→s.2.1.getD k 0=0)∧(0≤s.2.2∧s.2.2<10000∧(s.1=0→s.2.2=0))∧val 10000 s.2.1+((10000:Nat):Int)^(i+s.1)*s.2.2=val 10000 (xs.take i)*val 10000 ys+((10000:Nat):Int)^i*x*val 10000 (ys.take s.1)) (fun s=>ys.length-s.1)
   (fun s=>[(8,.int .i64 s.1),(7,.int .i64 s.2.2),(6,.int .i64 i),(5,.osl 14 0 (xs.length+ys.length))]) (fun s=>[(14,.arr .i64 s.2.1)]) ?_ ?_ ?_
  ·exact V.wk
  ·exact⟨jg2 _,h2,h3,h4,by simp,by simp[val,h5]⟩
  rintro⟨j,o,c⟩ ⟨g1,g2,g3,g4,g5,g6⟩
  dsimp only at g1 g2 g3 g4 g5 g6 ⊢
  have vy:=jah 10000 ys j
  have by':=hdy j
  have bo:=jak (by omega) g3 (i+j)
  generalize hy0:ys.getD j 0=y at *
  generalize ho0:o.getD (i+j) 0=q at *
  have eij:((i:Int)+(j:Int)).toNat=i+j:=by omega
  have hxy:0≤x*y∧x*y≤9999*y:=⟨jg4 (by omega) (by omega),jhg (by omega) (by omega)⟩
  have hkj:((j:Int)+1)=((j+1:Nat):Int):=by omega
  have hki:((i:Int)+1)=((i+1:Nat):Int):=by omega
  have ein:((i:Int)+(ys.length:Int)).toNat=i+ys.length:=by omega
  (conv=>whnf)
  refine V.st ?_
  refine V.br (fun hw=>?_) (fun hw=>?_)
  ·rw[decide_eq_true_eq] at hw
   have hm:0≤(c+q+x*y)%10000∧(c+q+x*y)%10000<10000:=⟨Int.emod_nonneg _ (by omega),jhv _ (by omega)⟩
   have hc9:0≤(c+q+x*y)/10000∧(c+q+x*y)/10000<10000:=by
    rcases jhe j with e|e
    ·have:=g5.2.2 e
     omega
    ·have:=by'.2.2 e
     omega
   have hst:=jfw (B:=10000) (x:=x) (y:=y) (q:=q) (c:=c) (d:=(c+q+x*y)%10000) (c':=(c+q+x*y)/10000) (by omega) ho0 g6 (by have:=jg3 (c+q+x*y) 10000;omega)
   rw[← vy] at hst
   refine V.r0 (V.a7 eij @jg8 @jha hx0 hy0 ho0 hkj) ?_
   refine⟨(V.tk [0,1,2,3,4,5,6,7,8,9,10,11,12,13,14,15,16,17] (V.e1 18 [] .done)),[],V.pok,.go (jab ?_)⟩
   refine V.r0 (V.a7 eij @jg8 @jha hx0 hy0 ho0 hkj) ?_
   exact⟨(j+1,o.set (i+j) ((c+q+x*y)%10000),(c+q+x*y)/10000),⟨by dsimp only;omega,by dsimp only;rw[jhY];exact g2,jcZ g3 hm,fun k hk=>by dsimp only;rw[jb6 (by omega)];exact g4 k hk,⟨hc9.1,hc9.2,fun h=>by simp at h⟩,hst⟩,by dsimp only;omega,V.wk⟩
  ·rw[decide_eq_false_iff_not] at hw
   have hj:j=ys.length:=by omega
   subst hj
   rw[jhZ] at g6
   have hst:=prod_end (B:=10000) (by omega) (g4 _ (jhb _)) g6 hx0
   refine V.r0 (V.a3 ein @jg8 hki) ?_
   exact⟨(i+1,o.set (i+ys.length) c),⟨by dsimp only;omega,by dsimp only;rw[jhY];exact g2,jcZ g3 ⟨g5.1,g5.2.1⟩,fun k hk=>by dsimp only at hk ⊢; rw[jb6 (by omega)];exact g4 k (by omega),hst⟩,by dsimp only;omega,V.wk⟩
 ·rw[decide_eq_false_iff_not] at hq
  rw[jhT (by omega)] at h5
  have hc:=cut_c out h3 (by omega)
  rw[h5] at hc
  rw[← jhZ (l:=out),h2] at hc
  (conv=>whnf)
  refine V.st ?_
  repeat ((try ((with_reducible refine .ext ?_);(conv=>whnf)));(with_reducible refine jaa (r:=?_) ?_ ?_);rotate_left;(focus (first|exact(hc)));(conv=>whnf);refine V.st ?_)
  exact Fin.of rfl
theorem once_g (xs:List Int)(d:Int)(ha:xs.length≤100000000)(hdx:Dg 10000 xs)(hd0:0<d)(hd1:d≤10000):Cl 106 [.ints .i64 xs,.int .i64 d] (.tup [.ints .i64 (mg 10000 (val 10000 xs/d).toNat),.int .i64 (val 10000 xs%d)]):=by
 have hmn:((xs.length:Int)).toNat=xs.length:=by omega
 refine V.en tbOk Tryz.func106 ?_
 refine V.r0 hmn ?_
 refine jae ((xs.length,List.replicate xs.length 0,0):Nat×List Int×Int) (fun s=>s.1≤xs.length∧s.2.1.length=xs.length∧Dg 10000 s.2.1∧(0≤s.2.2∧s.2.2<d)∧val 10000 (xs.drop s.1)=val 10000 (s.2.1.drop s.1)*d+s.2.2) (fun s=>s.1)
  (fun s=>[(8,.int .i64 ((s.1:Int)-1)),(7,.int .i64 s.2.2),(6,.osl 11 0 xs.length)]) (fun s=>[(11,.arr .i64 s.2.1)]) ?_ ?_ ?_
 ·exact V.wk
 ·exact⟨jhb _,by simp,jbG (by omega) _,⟨by simp,hd0⟩,by simp[val]⟩
 rintro⟨k,out,r⟩ ⟨h1,h2,h3,h4,h5⟩
 dsimp only at h1 h2 h3 h4 h5 ⊢
 (conv=>whnf)
 refine V.st ?_
 refine V.br (fun hq=>?_) (fun hq=>?_)
 ·rw[decide_eq_true_eq] at hq
  obtain⟨j,rfl⟩:∃ j,k=j+1:=⟨k-1,by omega⟩
  have hj:j<xs.length:=by omega
  have bx:=jak (by omega) hdx j
  generalize hx0:xs.getD j 0=x at *
  have e2:(((j+1:Nat):Int)-1)=(j:Int):=by omega
  have hb:=jdR (B:=10000) hd0 h4 bx
  have hst:=jdQ (B:=10000) hj (by omega) hx0 h5 (t:=r*10000+x) rfl
  have hr0:0≤r*10000+x:=by omega
  refine V.r0 (V.a4 e2 @jg8 @jha hx0) ?_
  exact⟨(j,out.set j ((r*10000+x)/d),(r*10000+x)%d),⟨by dsimp only;omega,by dsimp only;rw[jhY];exact h2,jcZ h3 ⟨hb.1,hb.2.1⟩,⟨hb.2.2.1,hb.2.2.2⟩,hst⟩,by dsimp only;omega,V.wk⟩
 ·rw[decide_eq_false_iff_not] at hq
  obtain rfl:k=0:=by omega
  rw[jhW,jhW] at h5
  have e1:val 10000 xs/d=val 10000 out:=by
   rw[h5,Int.add_comm,Int.add_mul_ediv_right _ _ (by omega),Int.ediv_eq_zero_of_lt h4.1 h4.2,Int.zero_add]
  have e2:val 10000 xs%d=r:=by
   rw[h5,Int.add_comm,Int.add_mul_emod_self_right,Int.emod_eq_of_lt h4.1 h4.2]
  have hc:=cut_c out h3 (by omega)
  rw[← e1,← jhZ (l:=out),h2] at hc
  (conv=>whnf)
  refine V.st ?_
  repeat ((try ((with_reducible refine .ext ?_);(conv=>whnf)));(with_reducible refine jaa (r:=?_) ?_ ?_);rotate_left;(focus (first|exact(hc)));(conv=>whnf);refine V.st ?_)
  exact Fin.of (by rw[e1,e2])
theorem jaU (B:Nat)(l:List Int)(k:Nat):val B (l.drop k)=l.getD k 0+B*val B (l.drop (k+1)):=by
 rcases jhi k l.length with h|h
 ·exact jbA h
 ·rw[List.drop_eq_nil_of_le h,List.drop_eq_nil_of_le (by omega),jbJ h];simp[val]
theorem jdu {B:Nat}{l:List Int}(hB:2≤B)(hd:Dg B l)(k:Nat):val B (l.drop k)*(B:Int)^k≤val B l∧val B l<(val B (l.drop k)+1)*(B:Int)^k:=by
 rcases Nat.le_total k l.length with h|h
 ·have h1:=jbs B l k h
  have h2:=jal (ja8 hd k)
  have h3:=jbL (ja8 hd k)
  rw[jhL,Nat.min_eq_left h] at h3
  rw[jhy,jhz,h1,jhm (val B (l.drop k))]
  omega
 ·rw[List.drop_eq_nil_of_le h]
  have h2:=jal hd
  have h3:=jbL hd
  have h4:B^l.length≤B^k:=jht (by omega) h
  have h5:((B^l.length:Nat):Int)≤((B^k:Nat):Int):=by exact_mod_cast h4
  rw[jhx,jhx] at h5
  simp[val]
  omega
theorem trial_ends {B F top P R b:Int}(hB:2≤B)(hP:0<P)(ht:B≤top)(hF0:0≤F)(hb1:top*P≤b)(hb2:b<(top+1)*P)(hR1:F*P≤R)(hR2:R<(F+1)*P)(hlt:R<B*b) :
  0≤F/(top+1)∧F/(top+1)*b≤R∧R<(F/top+1)*b∧F/top+1≤B+1:=by
 have h0:0≤F/(top+1):=Int.ediv_nonneg hF0 (by omega)
 refine⟨h0,?_,?_,?_⟩
 ·have h1:F/(top+1)*b≤F/(top+1)*((top+1)*P):=jhl (by omega) h0
  have h2:F/(top+1)*(top+1)≤F:=Int.ediv_mul_le _ (by omega)
  have h3:F/(top+1)*(top+1)*P≤F*P:=jhg h2 (by omega)
  rw[jhn] at h3
  omega
 ·have h1:F<(F/top+1)*top:=Int.lt_ediv_add_one_mul_self _ (by omega)
  have h2:(F+1)*P≤(F/top+1)*top*P:=jhg (by omega) (by omega)
  have h4:0≤F/top:=Int.ediv_nonneg hF0 (by omega)
  have h3:(F/top+1)*(top*P)≤(F/top+1)*b:=jhl hb1 (by omega)
  rw[jhn] at h2
  omega
 ·have h1:F*P<B*(top+1)*P:=by
   have:B*b<B*((top+1)*P):=Int.mul_lt_mul_of_pos_left hb2 (by omega)
   rw[jhn];omega
  have h2:=Int.lt_of_mul_lt_mul_right h1 (by omega)
  rw[jhs,Int.mul_one] at h2
  have h3:F/top<B+1:=Int.ediv_lt_of_lt_mul (by omega) (by rw[jhy,jhz];omega)
  omega
theorem trial_out {R b low high:Int}(hb:0<b)(h1:low*b≤R)(h2:R<high*b)(h3:high-low≤1):low=R/b∧R-b*low=R%b:=by
 have h4:low<high:=Int.lt_of_mul_lt_mul_right (Int.lt_of_le_of_lt h1 h2) (by omega)
 obtain rfl:high=low+1:=by omega
 have h5:low=R/b:=by
  refine Int.le_antisymm ((Int.le_ediv_iff_mul_le hb).2 h1) ?_
  have:=(Int.ediv_lt_iff_lt_mul hb).2 h2
  omega
 refine⟨h5,?_⟩
 have:=jg3 R b
 rw[h5];omega
theorem cut_mg (n:Nat)(h:(mg 10000 n).length≤281474976710656):Cl 105 [.ints .i64 (mg 10000 n)] (.ints .i64 (mg 10000 n)):=by
 have:=cut_c _ (mg_dg (B:=10000) (by omega) n) h
 rw[jax (by omega),jha] at this
 exact this
theorem parts_one (a b:Nat)(ha:(mg 10000 a).length≤100000000)(hb:0<b)(hb1:b<10000):Cl 76 [.ints .i64 (mg 10000 a),.ints .i64 (mg 10000 b)] (.tup [.ints .i64 (mg 10000 (a/b)),.ints .i64 (mg 10000 (a%b))]):=by
 have hmb:mg 10000 b=[(b:Int)]:=by
  rw[jbQ (by omega) hb,Nat.mod_eq_of_lt hb1,Nat.div_eq_of_lt hb1];rfl
 have ho:=once_g (mg 10000 a) (b:Int) ha (mg_dg (by omega) a) (by omega) (by omega)
 rw[jax (by omega)] at ho
 have e1:((a:Int)/(b:Int)).toNat=a/b:=by rw[← Int.natCast_ediv,jha]
 have e2:((a:Int)%(b:Int))=((a%b:Nat):Int):=by rw[Int.natCast_emod]
 rw[e1,e2] at ho
 have hlt:a%b<b:=Nat.mod_lt _ hb
 have hc:=cut_c [((a%b:Nat):Int)] (jap ⟨by omega,by omega⟩) (by simp)
 have e3:(val 10000 [((a%b:Nat):Int)]).toNat=a%b:=by rw[val,val,Int.mul_zero,jhw,jha]
 rw[e3] at hc
 rw[hmb]
 refine V.en tbOk Tryz.func76 ?_
 (conv=>whnf)
 refine V.st ?_
 refine Cnd.yes (by simp) ?_
 (conv=>whnf)
 refine V.st ?_
 repeat ((try ((with_reducible refine .ext ?_);(conv=>whnf)));(with_reducible refine jaa (r:=?_) ?_ ?_);rotate_left;(focus (first|exact(ho)|exact(hc)));(conv=>whnf);refine V.st ?_)
 exact Fin.of rfl
theorem jga (a b:Nat)(ha:(mg 10000 a).length<(mg 10000 b).length)(hb:(mg 10000 b).length≤100000000)(hb1:10000≤b):Cl 76 [.ints .i64 (mg 10000 a),.ints .i64 (mg 10000 b)] (.tup [.ints .i64 (mg 10000 (a/b)),.ints .i64 (mg 10000 (a%b))]):=by
 have hlt:a<b:=Nat.lt_of_not_le fun h=>by have:=jaf (B:=10000) (by omega) h;omega
 have hl2:2≤(mg 10000 b).length:=by
  have:=jaf (B:=10000) (by omega) hb1
  have e:mg 10000 10000=[0,1]:=by rfl
  rw[e] at this;exact this
 rw[Nat.div_eq_of_lt hlt,Nat.mod_eq_of_lt hlt,jb3]
 generalize mg 10000 a=xs at *
 generalize mg 10000 b=ys at *
 refine V.en tbOk Tryz.func76 ?_
 (conv=>whnf)
 refine V.st ?_
 refine Cnd.no (by simp;omega) ?_
 (conv=>whnf)
 refine V.st ?_
 refine Cnd.yes (by simp;omega) ?_
 (conv=>whnf)
 refine V.st ?_
 exact Fin.tup ⟨Fin.nil _,Fin.of (by rw[jhR,jg8,jhZ]),trivial⟩
theorem zJ10_0:type_of% @jha∧type_of% @jg8:=⟨@jha,@jg8⟩
theorem parts_long (a b:Nat)(ha:(mg 10000 b).length≤(mg 10000 a).length)(hb:(mg 10000 a).length≤90000000)(hb1:10000≤b):Cl 76 [.ints .i64 (mg 10000 a),.ints .i64 (mg 10000 b)] (.tup [.ints .i64 (mg 10000 (a/b)),.ints .i64 (mg 10000 (a%b))]):=by
 obtain⟨n,hn⟩:∃ n,(mg 10000 b).length=n+2:=by
  have:=jaf (B:=10000) (by omega) hb1
  have e:mg 10000 10000=[0,1]:=by rfl
  rw[e] at this
  exact⟨(mg 10000 b).length-2,by simp at this;omega⟩
 have hdx:=mg_dg (B:=10000) (by omega) a
 have hdy:=mg_dg (B:=10000) (by omega) b
 have hvx:=jax (B:=10000) (by omega) a
 have hvy:=jax (B:=10000) (by omega) b
 have hlx:=jda (B:=10000) (n:=a) (by omega)
 have hly:=jda (B:=10000) (n:=b) (by omega)
 generalize hxs:mg 10000 a=xs at *
 generalize hys:mg 10000 b=ys at *
 have e1:((ys.length:Int)-1)=((n+1:Nat):Int):=by omega
 have e2:(((n+1:Nat):Int)-1)=(n:Int):=by omega
 have e3:((xs.length:Int)-((n+1:Nat):Int))=((xs.length-(n+1):Nat):Int):=by omega
 refine V.en tbOk Tryz.func76 ?_
 (conv=>whnf)
 refine V.st ?_
 refine Cnd.no (by simp;omega) ?_
 (conv=>whnf)
 (try simp only[e1,e2,e3,jha])
 repeat ((first|refine V.s1 ?_);(try simp only[e1,e2,e3,jha]))
 refine Cnd.no (by simp;omega) ?_
 (conv=>whnf)
 (try simp only[e1,e2,e3,jha])
 repeat ((first|refine V.s1 ?_);(try simp only[e1,e2,e3,jha]))
 refine⟨(V.tk [0,1,2,3,4,5,6,7,8,9,10,11] .done),[],V.pok,.go (jab ?_)⟩
 have b1:=jak (by omega) hdy (n+1)
 have b0:=jak (by omega) hdy n
 have htop:val 10000 (ys.drop n)=ys.getD (n+1) 0*10000+ys.getD n 0:=by
  rw[jaU,jaU,List.drop_eq_nil_of_le (by omega)];simp[val];omega
 have hy1:ys.getD (n+1) 0≠0:=by
  refine hly _ ?_
  rw[List.getLast?_eq_getElem?,hn,jhF]
  rw[show n+2-1=n+1 by omega,jhI (by omega)];rfl
 have hvye:=jdu (B:=10000) (by omega) hdy n
 rw[htop,hvy] at hvye
 have htop1:10000≤ys.getD (n+1) 0*10000+ys.getD n 0:=by omega
 have hbpos:0<b:=by omega
 have hPpos:(0:Int)<((10000:Nat):Int)^n:=jdy (by omega) n
 have hbB:b<10000^(n+2):=by rw[← hn,← hys];exact jaA (by omega)
 generalize hy1':ys.getD (n+1) 0=y1 at *
 generalize hy0':ys.getD n 0=y0 at *
 obtain⟨R0,hR0⟩:∃ R0:Nat,xs.drop (xs.length-(n+1))=mg 10000 R0:=⟨_,mg_of (by omega) (jbf hdx _) fun x hx=>hlx x (by
  rw[List.getLast?_drop] at hx
  split at hx
  ·cases hx
  ·exact hx)⟩
 have hR0v:=congrArg (val 10000) hR0
 rw[jax (by omega)] at hR0v
 have hR0b:R0<b:=by
  have h1:R0<10000^(n+1):=by
   have:=jaA (B:=10000) (n:=R0) (by omega)
   rw[← hR0,jhV] at this
   exact jhh this (jht (by omega) (by omega))
  have h2:=jce (B:=10000) (n:=b) (by omega) hbpos
  rw[hys,hn] at h2
  exact jhh h1 h2
 have hR0l:(mg 10000 R0).length=n+1:=by rw[← hR0,jhV];omega
 generalize hL:xs.length-(n+1)=L at *
 (conv=>whnf)
 (try simp only[e1,e2,e3,jha,hy1',hy0',hR0,hR0l,jg8,jhR])
 repeat ((first|refine V.s1 ?_);(try simp only[e1,e2,e3,jha,hy1',hy0',hR0,hR0l,jg8,jhR]))
 refine Lp.pub 66 ?_
 (conv=>whnf)
 have hR0t:List.take (n+1) (mg 10000 R0)=mg 10000 R0:=by rw[← hR0l,jhZ]
 try simp only[hR0t,jhZ]
 refine jae ((L,List.replicate L 0,R0):Nat×List Int×Nat) (fun s=>s.1≤L∧s.2.1.length=L∧Dg 10000 s.2.1∧s.2.2<b∧val 10000 (xs.drop s.1)=val 10000 (s.2.1.drop s.1)*b+s.2.2) (fun s=>s.1)
  (fun s=>[(12,.int .i64 ((s.1:Int)-1)),(11,.ints .i64 (mg 10000 s.2.2)),(10,.osl 58 0 L)]) (fun s=>[(58,.arr .i64 s.2.1)]) ?_ ?_ ?_
 ·exact V.wk
 ·exact⟨jhb _,by simp,jbG (by omega) _,hR0b,by rw[hR0v];simp[val]⟩
 rintro⟨k,q,R⟩ ⟨h1,h2,h3,h4,h5⟩
 dsimp only at h1 h2 h3 h4 h5 ⊢
 (conv=>whnf)
 refine V.st ?_
 refine V.br (fun hq=>?_) (fun hq=>?_)
 ·rw[decide_eq_true_eq] at hq
  obtain⟨j,rfl⟩:∃ j,k=j+1:=⟨k-1,by omega⟩
  have hj:j<xs.length:=by omega
  have bx:=jak (by omega) hdx j
  generalize hx0:xs.getD j 0=x at *
  have f1:(((j+1:Nat):Int)-1)=(j:Int):=by omega
  have hRl:=jau (B:=10000) (n:=R) (k:=n+2) (by omega) (by omega)
  obtain⟨t,ht⟩:∃ t:Nat,x+10000*(R:Int)=t:=⟨(x+10000*(R:Int)).toNat,by omega⟩
  have hc1:=cut_c ([x]++mg 10000 R) (jag (jap bx) (mg_dg (by omega) R)) (by simp;omega)
  have hv1:val 10000 ([x]++mg 10000 R)=t:=by rw[List.singleton_append,val,jax (by omega)];exact ht
  rw[hv1,jha] at hc1
  have hl1:([x]++mg 10000 R).length=1+(mg 10000 R).length:=by simp;omega
  rw[← jhZ (l:=[x]++mg 10000 R),hl1] at hc1
  have htB:t<10000*b:=by omega
  have htl:=jau (B:=10000) (n:=t) (k:=n+3) (by omega) (by rw[Nat.pow_succ];omega)
  have hdt:=mg_dg (B:=10000) (by omega) t
  have hvt:=jax (B:=10000) (by omega) t
  have hst:=jdQ (B:=10000) (d:=(b:Int)) hj (by omega) hx0 h5 (t:=(t:Int)) (by omega)
  generalize hts:mg 10000 t=ts at *
  refine V.r1 (V.a3 zJ10_0 f1 hx0) hc1 ?_
  have g1:((n+1:Nat):Int)+1=(n:Int)+((3:Nat):Int)-1:=by omega
  try simp only[g1]
  refine jae (3:Nat) (fun m=>m≤3) (fun m=>m) (fun m=>[(14,.int .i64 ((n:Int)+(m:Int)-1)),(13,.int .i64 (val 10000 (ts.drop (n+m))))]) (fun _=>[]) ?_ ?_ ?_
  ·rw[show val 10000 (ts.drop (n+3))=0 by rw[List.drop_eq_nil_of_le htl];rfl]
   exact V.wk
  ·exact jhb _
  intro m hm
  have hF:∀ k,n≤k→0≤val 10000 (ts.drop k)∧val 10000 (ts.drop k)<1000000000000:=fun k hk=>⟨jal (jbf hdt k),by
   have h8:=jbL (jbf hdt k)
   have h9:(10000:Nat)^(ts.drop k).length≤10000^3:=jht (by omega) (by rw[jhV];omega)
   have h7:((10000^(ts.drop k).length:Nat):Int)≤((10000^3:Nat):Int):=by exact_mod_cast h9
   rw[jhx] at h7
   omega⟩
  (conv=>whnf)
  refine V.st ?_
  refine V.br (fun hq1=>?_) (fun hq1=>?_)
  ·rw[decide_eq_true_eq] at hq1
   obtain⟨m,rfl⟩:∃ m',m=m'+1:=⟨m-1,by omega⟩
   have g2:(n:Int)+((m+1:Nat):Int)-1=((n+m:Nat):Int):=by omega
   have g3:((n+m:Nat):Int)-1=(n:Int)+(m:Int)-1:=by omega
   have hF1:=hF (n+(m+1)) (by omega)
   have hF0:=hF (n+m) (by omega)
   have hd1:val 10000 (ts.drop (n+(m+1)))*10000+ts.getD (n+m) 0=val 10000 (ts.drop (n+m)):=by
    rw[jaU 10000 ts (n+m),jhm,Int.add_comm];rfl
   refine V.r0 g2 ?_
   refine V.br (fun hq2=>?_) (fun hq2=>?_)
   ·rw[decide_eq_true_eq] at hq2
    have bt:=jak (by omega) hdt (n+m)
    refine V.r0 (V.a4 g2 g3 @jha hd1) ?_
    exact⟨m,by omega,by omega,V.wk⟩
   ·rw[decide_eq_false_iff_not] at hq2
    rw[jbJ (by omega),jhw] at hd1
    refine V.r0 (V.a4 g2 g3 @jha hd1) ?_
    exact⟨m,by omega,by omega,V.wk⟩
  ·rw[decide_eq_false_iff_not] at hq1
   obtain rfl:m=0:=by omega
   have hte:=jdu (B:=10000) (by omega) hdt n
   rw[hvt] at hte
   have hFn:=hF n (by omega)
   refine V.r0 @jg9 ?_
   refine⟨(V.tk [0,1,2,3,4,5,6,7,8,9] .done),[],V.pok,.go (jab ?_)⟩
   have hends:=trial_ends (B:=10000) (F:=val 10000 (ts.drop n)) (top:=y1*10000+y0) (P:=((10000:Nat):Int)^n) (R:=(t:Int)) (b:=(b:Int)) (by omega) hPpos htop1 hFn.1 hvye.1 hvye.2 hte.1 hte.2 (by omega)
   generalize hFv:val 10000 (ts.drop n)=F at *
   refine V.r0 (V.a2 @jg9 hFv) ?_
   have hFlo:0≤F/(y1*10000+y0):=Int.ediv_nonneg (by omega) (by omega)
   refine jae ((F/(y1*10000+y0+1),F/(y1*10000+y0)+1):Int×Int) (fun s=>0≤s.1∧s.1*b≤t∧t<s.2*b∧s.2≤10001) (fun s=>(s.2-s.1).toNat) (fun s=>[(16,.int .i64 s.2),(15,.int .i64 s.1)]) (fun _=>[]) ?_ ?_ ?_
   ·exact V.wk
   ·exact⟨hends.1,hends.2.1,hends.2.2.1,by dsimp only;omega⟩
   rintro⟨low,high⟩ ⟨i1,i2,i3,i4⟩
   dsimp only at i1 i2 i3 i4 ⊢
   have hlh:low<high:=Int.lt_of_mul_lt_mul_right (Int.lt_of_le_of_lt i2 i3) (by omega)
   (conv=>whnf)
   refine V.st ?_
   refine V.br (fun hq3=>?_) (fun hq3=>?_)
   ·rw[decide_eq_true_eq] at hq3
    obtain⟨m,hm2⟩:∃ m:Nat,(low+high)/2=m:=⟨((low+high)/2).toNat,by omega⟩
    have hp:=jdO ys [(m:Int)] (by omega) (by simp) hdy (fun j=>by
     cases j with
     | zero=>simp;omega
     | succ j=>simp)
    have hpv:(val 10000 ys*val 10000 [(m:Int)]).toNat=b*m:=by
     rw[hvy,val,val,Int.mul_zero,jhw,← jho,jha]
    rw[hpv] at hp
    have hpl:=jau (B:=10000) (n:=b*m) (k:=n+4) (by omega) (by
     have h8:b*m≤b*10000:=Nat.mul_le_mul_left _ (by omega)
     rw[Nat.pow_succ,Nat.pow_succ];omega)
    have hcm:=cut_mg (b*m) (by omega)
    have ho:=order_c (mg 10000 (b*m)) ts (by omega) (by omega) (mg_dg (by omega) _) hdt
    have hsg:=jfx (b*m) t
    rw[hts] at hsg
    generalize ordV (mg 10000 (b*m)) ts=od at *
    have hbm:(m:Int)*(b:Int)=((b*m:Nat):Int):=by rw[jhf,jho]
    refine V.r3 hm2 hp hcm ho ?_
    refine V.br (fun hq4=>?_) (fun hq4=>?_)
    ·rw[decide_eq_true_eq] at hq4
     (conv=>whnf)
     refine V.st ?_
     exact⟨((m:Int),high),⟨by dsimp only;omega,by dsimp only;omega,i3,i4⟩,by dsimp only;omega,V.wk⟩
    ·rw[decide_eq_false_iff_not] at hq4
     (conv=>whnf)
     refine V.st ?_
     exact⟨(low,(m:Int)),⟨i1,i2,by dsimp only;omega,by dsimp only;omega⟩,by dsimp only;omega,V.wk⟩
   ·rw[decide_eq_false_iff_not] at hq3
    have hout:=trial_out (R:=(t:Int)) (b:=(b:Int)) (by omega) i2 i3 (by omega)
    obtain⟨lw,rfl⟩:∃ lw:Nat,low=lw:=⟨low.toNat,by omega⟩
    have hlwB:lw<10000:=by
     have h8:(lw:Int)*b<10000*b:=by omega
     have:=Int.lt_of_mul_lt_mul_right h8 (by omega)
     omega
    have hp:=jdO ys [(lw:Int)] (by omega) (by simp) hdy (fun j=>by
     cases j with
     | zero=>simp;omega
     | succ j=>simp)
    have hpv:(val 10000 ys*val 10000 [(lw:Int)]).toNat=b*lw:=by
     rw[hvy,val,val,Int.mul_zero,jhw,← jho,jha]
    rw[hpv] at hp
    have hble:b*lw≤t:=by
     rw[← jho] at i2
     have:=Int.ofNat_le.1 i2
     rw[jhf];exact this
    have hdf:=jcj t (b*lw) hble (by rw[hts];omega)
    rw[hts] at hdf
    have hmod:((t%b:Nat):Int)=(t:Int)%(b:Int):=Int.natCast_emod _ _
    have hmod2:t-b*lw=t%b:=by
     have h8:=hout.2
     rw[← jho] at h8
     omega
    rw[hmod2] at hdf
    refine V.r2 (V.a2 zJ10_0 f1) hp hdf ?_
    rw[← hout.1,← hmod] at hst
    exact⟨(j,q.set j (lw:Int),t%b),⟨by dsimp only;omega,by dsimp only;rw[jhY];exact h2,jcZ h3 (by omega),Nat.mod_lt _ hbpos,hst⟩,by dsimp only;omega,V.wk⟩
 ·rw[decide_eq_false_iff_not] at hq
  obtain rfl:k=0:=by omega
  rw[jhW,jhW,hvx] at h5
  have hvq:=jal h3
  obtain⟨w,hw⟩:∃ w:Nat,val 10000 q=w:=⟨(val 10000 q).toNat,by omega⟩
  rw[hw,← jho] at h5
  have h6:a=w*b+R:=by omega
  have e8:a/b=w:=by rw[h6,Nat.add_comm,Nat.add_mul_div_right _ _ hbpos,Nat.div_eq_of_lt h4,jg8]
  have e9:a%b=R:=by rw[h6,Nat.add_comm,Nat.add_mul_mod_self_right,Nat.mod_eq_of_lt h4]
  have hc:=cut_c q h3 (by omega)
  rw[hw,jha,← jhZ (l:=q),h2] at hc
  (conv=>whnf)
  refine V.st ?_
  repeat ((try ((with_reducible refine .ext ?_);(conv=>whnf)));(with_reducible refine jaa (r:=?_) ?_ ?_);rotate_left;(focus (first|exact(hc)));(conv=>whnf);refine V.st ?_)
  exact Fin.of (by rw[e8,e9])
theorem parts_c (a b:Nat)(ha:(mg 10000 a).length≤90000000)(hb:(mg 10000 b).length≤90000000)(hb0:0<b):Cl 76 [.ints .i64 (mg 10000 a),.ints .i64 (mg 10000 b)] (.tup [.ints .i64 (mg 10000 (a/b)),.ints .i64 (mg 10000 (a%b))]):=by
 rcases jhi b 10000 with h|h
 ·exact parts_one a b (by omega) hb0 h
 ·rcases jhi (mg 10000 a).length (mg 10000 b).length with h2|h2
  ·exact jga a b h2 (by omega) h
  ·exact parts_long a b h2 ha h
def Sm (k:Nat)(z:Int):Prop:=(mg 10000 z.natAbs).length≤k
theorem jcq {B:Nat}(hB:2≤B)(a b:Nat):(mg B (a+b)).length≤max (mg B a).length (mg B b).length+1:=by
 have h1:=jaA (B:=B) (n:=a) hB
 have h2:=jaA (B:=B) (n:=b) hB
 have h3:B^(mg B a).length≤B^max (mg B a).length (mg B b).length:=jht (by omega) (by omega)
 have h4:B^(mg B b).length≤B^max (mg B a).length (mg B b).length:=jht (by omega) (by omega)
 refine jau hB ?_
 rw[Nat.pow_succ]
 have h5:=Nat.mul_le_mul_left (B^max (mg B a).length (mg B b).length) hB
 omega
theorem jcp {B:Nat}(hB:2≤B)(a b:Nat):(mg B (a*b)).length≤(mg B a).length+(mg B b).length:=by
 have h1:=jaA (B:=B) (n:=a) hB
 have h2:=jaA (B:=B) (n:=b) hB
 refine jau hB ?_
 rw[Nat.pow_add]
 exact Nat.mul_lt_mul'' h1 h2
theorem Sm.mono {k l:Nat}{z:Int}(h:Sm k z)(hl:k≤l):Sm l z:=jhc h hl
theorem Sm.neg {k:Nat}{z:Int}(h:Sm k z):Sm k (-z):=by unfold Sm at *; rw[Int.natAbs_neg];exact h
theorem Sm.le {k:Nat}{y z:Int}(h:Sm k z)(hy:y.natAbs≤z.natAbs):Sm k y:=jhc (jaf (by omega) hy) h
theorem Sm.mul {k l:Nat}{y z:Int}(h:Sm k y)(h2:Sm l z):Sm (k+l) (y*z):=by
 unfold Sm at *
 rw[Int.natAbs_mul]
 have:=jcp (B:=10000) (by omega) y.natAbs z.natAbs
 omega
theorem Sm.add {k:Nat}{y z:Int}(h:Sm k y)(h2:Sm k z):Sm (k+1) (y+z):=by
 unfold Sm at *
 have h3:=jcq (B:=10000) (by omega) y.natAbs z.natAbs
 have h4:=jaf (B:=10000) (by omega) (Int.natAbs_add_le y z)
 omega
theorem Sm.lit {k:Nat}{z:Int}(h:z.natAbs<10000^k):Sm k z:=jau (by omega) h
theorem jdb (b:Bool)(n:Nat)(h:(mg 10000 n).length≤200000000):Cl 74 [.bool b,.ints .i64 (mg 10000 n)] (plD (if b then -(n:Int) else n)):=by
 have:=jdV b (mg 10000 n) (mg_dg (by omega) n) (by omega)
 rw[jax (by omega)] at this
 exact this
theorem plus_c (x y:Int)(hx:Sm 90000000 x)(hy:Sm 90000000 y):Cl 109 [plD x,plD y] (plD (x+y)):=by
 unfold Sm at hx hy
 have hl:=jcq (B:=10000) (by omega) x.natAbs y.natAbs
 have hs:=sum_c x.natAbs y.natAbs (by omega) (by omega)
 have ho:=order_c (mg 10000 x.natAbs) (mg 10000 y.natAbs) (by omega) (by omega) (mg_dg (by omega) _) (mg_dg (by omega) _)
 have hsg:=jfx x.natAbs y.natAbs
 generalize ordV (mg 10000 x.natAbs) (mg 10000 y.natAbs)=od at *
 rw[show plD x = .agg [.bool (decide (x<0)),.ints .i64 (mg 10000 x.natAbs)] from rfl,show plD y = .agg [.bool (decide (y<0)),.ints .i64 (mg 10000 y.natAbs)] from rfl]
 refine V.en tbOk Tryz.func109 ?_
 (conv=>whnf)
 refine V.st ?_
 refine V.br (fun hq=>?_) (fun hq=>?_)
 ·rw[beq_iff_eq,decide_eq_decide] at hq
  have hm:=jdb (decide (x<0)) (x.natAbs+y.natAbs) (by omega)
  have e:(if decide (x<0)=true then -((x.natAbs+y.natAbs:Nat):Int) else ((x.natAbs+y.natAbs:Nat):Int))=x+y:=by
   by_cases h:x<0
   ·simp[h];omega
   ·simp[h];omega
  rw[e] at hm
  (conv=>whnf)
  refine V.st ?_
  refine⟨Pq29z,[],V.pok,.go (jab ?_)⟩
  (conv=>whnf)
  refine V.st ?_
  repeat ((try ((with_reducible refine .ext ?_);(conv=>whnf)));(with_reducible refine jaa (r:=?_) ?_ ?_);rotate_left;(focus (first|exact(hs)|exact(hm)));(conv=>whnf);refine V.st ?_)
  exact Fin.of rfl
 ·have hq':¬ (x<0↔y<0):=fun h=>by rw[beq_eq_false_iff_ne] at hq;exact hq (decide_eq_decide.2 h)
  (conv=>whnf)
  refine V.st ?_
  repeat ((try ((with_reducible refine .ext ?_);(conv=>whnf)));(with_reducible refine jaa (r:=?_) ?_ ?_);rotate_left;(focus (first|exact(ho)));(conv=>whnf);refine V.st ?_)
  refine V.br (fun hq2=>?_) (fun hq2=>?_)
  ·rw[decide_eq_true_eq] at hq2
   have hd:=jcj x.natAbs y.natAbs (by omega) (by omega)
   have hl2:=jaf (B:=10000) (by omega) (Nat.sub_le x.natAbs y.natAbs)
   have hm:=jdb (decide (x<0)) (x.natAbs-y.natAbs) (by omega)
   have e:(if decide (x<0)=true then -((x.natAbs-y.natAbs:Nat):Int) else ((x.natAbs-y.natAbs:Nat):Int))=x+y:=by
    by_cases h:x<0
    ·simp[h];omega
    ·simp[h];omega
   rw[e] at hm
   (conv=>whnf)
   refine V.st ?_
   refine⟨Pq29z,[],V.pok,.go (jab ?_)⟩
   (conv=>whnf)
   refine V.st ?_
   repeat ((try ((with_reducible refine .ext ?_);(conv=>whnf)));(with_reducible refine jaa (r:=?_) ?_ ?_);rotate_left;(focus (first|exact(hd)|exact(hm)));(conv=>whnf);refine V.st ?_)
   exact Fin.of rfl
  ·rw[decide_eq_false_iff_not] at hq2
   have hd:=jcj y.natAbs x.natAbs (by omega) (by omega)
   have hl2:=jaf (B:=10000) (by omega) (Nat.sub_le y.natAbs x.natAbs)
   have hm:=jdb (decide (y<0)) (y.natAbs-x.natAbs) (by omega)
   have e:(if decide (y<0)=true then -((y.natAbs-x.natAbs:Nat):Int) else ((y.natAbs-x.natAbs:Nat):Int))=x+y:=by
    by_cases h:y<0
    ·simp[h];omega
    ·simp[h];omega
   rw[e] at hm
   (conv=>whnf)
   refine V.st ?_
   refine⟨Pq29z,[],V.pok,.go (jab ?_)⟩
   (conv=>whnf)
   refine V.st ?_
   repeat ((try ((with_reducible refine .ext ?_);(conv=>whnf)));(with_reducible refine jaa (r:=?_) ?_ ?_);rotate_left;(focus (first|exact(hd)|exact(hm)));(conv=>whnf);refine V.st ?_)
   exact Fin.of rfl
theorem minus_c (x y:Int)(hx:Sm 90000000 x)(hy:Sm 90000000 y):Cl 77 [plD x,plD y] (plD (x-y)):=by
 have ht:=turn_c y (by unfold Sm at hy;omega)
 have hp:=plus_c x (-y) hx hy.neg
 rw[show x + -y=x-y by omega] at hp
 rw[show plD x = .agg [.bool (decide (x<0)),.ints .i64 (mg 10000 x.natAbs)] from rfl,show plD y = .agg [.bool (decide (y<0)),.ints .i64 (mg 10000 y.natAbs)] from rfl] at *
 refine V.en tbOk Tryz.func77 ?_
 (conv=>whnf)
 refine V.st ?_
 refine⟨(V.tk [0,1] (V.e1 2 [0] (V.e1 3 [] (V.e1 4 [] .done)))),[],V.pok,.go (jab ?_)⟩
 (conv=>whnf)
 refine V.st ?_
 repeat ((try ((with_reducible refine .ext ?_);(conv=>whnf)));(with_reducible refine jaa (r:=?_) ?_ ?_);rotate_left;(focus (first|exact(ht)|exact(hp)));(conv=>whnf);refine V.st ?_)
 exact Fin.of rfl
theorem jaR {a b X Y:Int}(hb:b≠0)(h:a=Y+b*X)(h0:0≤Y)(h1:Y<b.natAbs):a/b=X∧a%b=Y:=by
 have hm:a%b=Y:=by
  rw[h,Int.add_mul_emod_self_left]
  rcases Int.lt_or_lt_of_ne hb with h2|h2
  ·rw[← Int.emod_neg,Int.emod_eq_of_lt h0 (by omega)]
  ·exact Int.emod_eq_of_lt h0 (by omega)
 refine⟨?_,hm⟩
 have h3:=jg3 a b
 rw[hm] at h3
 exact Int.eq_of_mul_eq_mul_left hb (by omega)
theorem jgb (a b:Int)(hb:b≠0)(x0 y0:Int)(hx:x0=if (decide (a<0) != decide (b<0))=true then -((a.natAbs/b.natAbs:Nat):Int) else ((a.natAbs/b.natAbs:Nat):Int))
  (hy:y0=if decide (a<0)=true then -((a.natAbs%b.natAbs:Nat):Int) else ((a.natAbs%b.natAbs:Nat):Int)) :
  (y0<0→a%b=y0+b.natAbs∧(b<0→a/b=x0+1)∧(¬ b<0→a/b=x0-1))∧(¬ y0<0→a%b=y0∧a/b=x0):=by
 have h1:=Nat.mod_add_div a.natAbs b.natAbs
 have h2:a.natAbs%b.natAbs<b.natAbs:=Nat.mod_lt _ (by omega)
 generalize a.natAbs%b.natAbs=r at *
 generalize a.natAbs/b.natAbs=q at *
 have h3:(a.natAbs:Int)=r+(b.natAbs:Int)*q:=by rw[← jho,← Int.natCast_add,h1]
 have hmul1:b*((q:Int)+1)=b*q+b:=by rw[jhs,Int.mul_one]
 have hmul2:b*(-(q:Int)+1) = -(b*q)+b:=by rw[jhs,Int.mul_one,Int.mul_neg]
 have hmul3:b*((q:Int)-1)=b*q-b:=by rw[Int.mul_sub,Int.mul_one]
 have hmul4:b*(-(q:Int)-1) = -(b*q)-b:=by rw[Int.mul_sub,Int.mul_one,Int.mul_neg]
 have hmul5:b*(-(q:Int)) = -(b*q):=by rw[Int.mul_neg]
 by_cases ha:a<0<;>by_cases hbn:b<0
 ·have e1:(b.natAbs:Int) = -b:=by omega
  rw[e1,Int.neg_mul] at h3
  simp only[ha,hbn,decide_true,bne_self_eq_false,Bool.false_eq_true,if_false,if_true] at hx hy
  subst hx hy
  refine⟨fun h=>?_,fun h=>?_⟩
  ·have:=jaR (a:=a) (b:=b) (X:=(q:Int)+1) (Y := -(r:Int)+b.natAbs) hb (by omega) (by omega) (by omega)
   exact⟨this.2,fun _=>this.1,fun h=>absurd hbn h⟩
  ·have:=jaR (a:=a) (b:=b) (X:=(q:Int)) (Y := -(r:Int)) hb (by omega) (by omega) (by omega)
   exact⟨this.2,this.1⟩
 ·have e1:(b.natAbs:Int)=b:=by omega
  rw[e1] at h3
  simp only[ha,hbn,decide_true,decide_false,bne,beq_eq_false_iff_ne,ne_eq,Bool.true_eq_false,not_false_eq_true,if_true,Bool.not_false,beq_false] at hx hy
  have hx':x0 = -(q:Int):=by simpa using hx
  subst hx' hy
  refine⟨fun h=>?_,fun h=>?_⟩
  ·have:=jaR (a:=a) (b:=b) (X := -(q:Int)-1) (Y := -(r:Int)+b.natAbs) hb (by omega) (by omega) (by omega)
   exact⟨this.2,fun h=>absurd h hbn,fun _=>this.1⟩
  ·have:=jaR (a:=a) (b:=b) (X := -(q:Int)) (Y := -(r:Int)) hb (by omega) (by omega) (by omega)
   exact⟨this.2,this.1⟩
 ·have e1:(b.natAbs:Int) = -b:=by omega
  rw[e1,Int.neg_mul] at h3
  have hx':x0 = -(q:Int):=by simpa [ha,hbn] using hx
  have hy':y0=(r:Int):=by simpa [ha] using hy
  subst hx' hy'
  refine⟨fun h=>by omega,fun h=>?_⟩
  have:=jaR (a:=a) (b:=b) (X := -(q:Int)) (Y:=(r:Int)) hb (by omega) (by omega) (by omega)
  exact⟨this.2,this.1⟩
 ·have e1:(b.natAbs:Int)=b:=by omega
  rw[e1] at h3
  have hx':x0=(q:Int):=by simpa [ha,hbn] using hx
  have hy':y0=(r:Int):=by simpa [ha] using hy
  subst hx' hy'
  refine⟨fun h=>by omega,fun h=>?_⟩
  have:=jaR (a:=a) (b:=b) (X:=(q:Int)) (Y:=(r:Int)) hb (by omega) (by omega) (by omega)
  exact⟨this.2,this.1⟩
theorem jdz (x y:Int)(hx:Sm 80000000 x)(hy:Sm 80000000 y)(hy0:y≠0):Cl 111 [plD x,plD y] (.tup [plD (x/y),plD (x%y)]):=by
 unfold Sm at hx hy
 have hp:=parts_c x.natAbs y.natAbs (by omega) (by omega) (by omega)
 have hq:=jaf (B:=10000) (by omega) (jhu x.natAbs y.natAbs)
 have hr:=jaf (B:=10000) (by omega) (Nat.mod_le x.natAbs y.natAbs)
 have hm1:=jdb (decide (x<0) != decide (y<0)) (x.natAbs/y.natAbs) (by omega)
 have hm2:=jdb (decide (x<0)) (x.natAbs%y.natAbs) (by omega)
 have hpl:=jgb x y hy0 _ _ rfl rfl
 have hsx:Sm 80000000 (if (decide (x<0) != decide (y<0))=true then -((x.natAbs/y.natAbs:Nat):Int) else ((x.natAbs/y.natAbs:Nat):Int)):=by
  unfold Sm;split<;>simp only[Int.natAbs_neg,jhA]<;>omega
 have hsy:Sm 80000000 (if decide (x<0)=true then -((x.natAbs%y.natAbs:Nat):Int) else ((x.natAbs%y.natAbs:Nat):Int)):=by
  unfold Sm;split<;>simp only[Int.natAbs_neg,jhA]<;>omega
 generalize (if (decide (x<0) != decide (y<0))=true then -((x.natAbs/y.natAbs:Nat):Int) else ((x.natAbs/y.natAbs:Nat):Int))=x0 at *
 generalize (if decide (x<0)=true then -((x.natAbs%y.natAbs:Nat):Int) else ((x.natAbs%y.natAbs:Nat):Int))=y0 at *
 rw[show plD x = .agg [.bool (decide (x<0)),.ints .i64 (mg 10000 x.natAbs)] from rfl,show plD y = .agg [.bool (decide (y<0)),.ints .i64 (mg 10000 y.natAbs)] from rfl] at *
 refine V.en tbOk Tryz.func111 ?_
 (conv=>whnf)
 refine V.st ?_
 repeat ((try ((with_reducible refine .ext ?_);(conv=>whnf)));(with_reducible refine jaa (r:=?_) ?_ ?_);rotate_left;(focus (first|exact(hp)));(conv=>whnf);refine V.st ?_)
 rw[show plD x0 = .agg [.bool (decide (x0<0)),.ints .i64 (mg 10000 x0.natAbs)] from rfl] at hm1
 rw[show plD y0 = .agg [.bool (decide (y0<0)),.ints .i64 (mg 10000 y0.natAbs)] from rfl] at hm2
 refine⟨(V.tk [0,1,2,3,4,5,7,8,9] (.ev (.cons 6 [9,8,7] (.ev (.cons 10 [] (.ev (.cons 11 [] (V.e1 12 [] (V.e1 13 [] (V.e1 14 [] .done))) (.cons 12 [] (V.e1 11 [] (V.e1 13 [] (V.e1 14 [] .done))) .nil))) (.cons 11 [9,8,7] (.ev (.cons 10 [] (V.e1 12 [] (V.e1 13 [] (V.e1 14 [] .done))) (.cons 12 [9,8,7] (V.e1 10 [] (V.e1 13 [] (V.e1 14 [] .done))) .nil))) (.cons 12 [9,8,7] (.ev (.cons 10 [] (V.e1 11 [] (V.e1 13 [] (V.e1 14 [] .done))) (.cons 11 [9,8,7] (V.e1 10 [] (V.e1 13 [] (V.e1 14 [] .done))) .nil))) .nil)))) (.cons 11 [9,8,7,5,4,3,2,1,0] (.ev (.cons 6 [9,8,7] (.ev (.cons 10 [] (V.e1 12 [] (V.e1 13 [] (V.e1 14 [] .done))) (.cons 12 [9,8,7] (V.e1 10 [] (V.e1 13 [] (V.e1 14 [] .done))) .nil))) (.cons 12 [9,8,7,5,4,3,2,1,0] (V.e1 6 [9,8,7] (V.e1 10 [] (V.e1 13 [] (V.e1 14 [] .done)))) .nil))) (.cons 12 [9,8,7,5,4,3,2,1,0] (.ev (.cons 6 [9,8,7] (.ev (.cons 10 [] (V.e1 11 [] (V.e1 13 [] (V.e1 14 [] .done))) (.cons 11 [9,8,7] (V.e1 10 [] (V.e1 13 [] (V.e1 14 [] .done))) .nil))) (.cons 11 [9,8,7,5,4,3,2,1,0] (V.e1 6 [9,8,7] (V.e1 10 [] (V.e1 13 [] (V.e1 14 [] .done)))) .nil))) .nil))))),[],V.pok,?_⟩
 refine jad [(8,.box 8 0),(9,.box 9 0)] [(8,.box [.bool (decide (x0<0)),.ints .i64 (mg 10000 x0.natAbs)]),(9,.box [.bool (decide (y0<0)),.ints .i64 (mg 10000 y0.natAbs)])] ?_ ?_
 ·exact V.d2 @jg8 hm1 hm2
 (conv=>whnf)
 refine V.st ?_
 refine V.br (fun hq=>?_) (fun hq=>?_)
 ·rw[decide_eq_true_eq] at hq
  have hpl:=hpl.1 hq
  have hy1:y0+(y.natAbs:Int)=x%y:=by omega
  have hc1:=plus_c y0 (y.natAbs:Int) (hsy.mono (by omega)) (by unfold Sm;rw[jhA];omega)
  rw[hy1] at hc1
  rw[show plD y0 = .agg [.bool (decide (y0<0)),.ints .i64 (mg 10000 y0.natAbs)] from rfl,show plD (y.natAbs:Int) = .agg [.bool false,.ints .i64 (mg 10000 y.natAbs)] by unfold plD;rw[jhA,decide_eq_false (by omega)],show plD (x%y) = .agg [.bool (decide (x%y<0)),.ints .i64 (mg 10000 (x%y).natAbs)] from rfl] at hc1
  have hi:=jd1 1 ⟨by decide,by decide⟩
  (conv=>whnf)
  refine V.st ?_
  repeat ((try ((with_reducible refine .ext ?_);(conv=>whnf)));(with_reducible refine jaa (r:=?_) ?_ ?_);rotate_left;(focus (first|exact(hc1)));(conv=>whnf);refine V.st ?_)
  refine V.br (fun hq2=>?_) (fun hq2=>?_)
  ·rw[decide_eq_true_eq] at hq2
   have hc2:=plus_c x0 1 (hsx.mono (by omega)) ((Sm.lit (k:=1) (by decide)).mono (by omega))
   rw[← hpl.2.1 hq2,show plD x0 = .agg [.bool (decide (x0<0)),.ints .i64 (mg 10000 x0.natAbs)] from rfl,show plD (x/y) = .agg [.bool (decide (x/y<0)),.ints .i64 (mg 10000 (x/y).natAbs)] from rfl] at hc2
   (conv=>whnf)
   refine V.st ?_
   refine⟨(V.tk [0] (V.e1 1 [0] (V.e1 2 [] (V.e1 3 [] .done)))),[],V.pok,.go (jab ?_)⟩
   (conv=>whnf)
   refine V.st ?_
   repeat ((try ((with_reducible refine .ext ?_);(conv=>whnf)));(with_reducible refine jaa (r:=?_) ?_ ?_);rotate_left;(focus (first|exact(hi)|exact(hc2)));(conv=>whnf);refine V.st ?_)
   refine⟨Pq55z,[],V.pok,.go (jab ?_)⟩
   (conv=>whnf)
   refine V.st ?_
   exact Fin.of rfl
  ·rw[decide_eq_false_iff_not] at hq2
   have hc2:=minus_c x0 1 (hsx.mono (by omega)) ((Sm.lit (k:=1) (by decide)).mono (by omega))
   rw[← hpl.2.2 hq2,show plD x0 = .agg [.bool (decide (x0<0)),.ints .i64 (mg 10000 x0.natAbs)] from rfl,show plD (x/y) = .agg [.bool (decide (x/y<0)),.ints .i64 (mg 10000 (x/y).natAbs)] from rfl] at hc2
   (conv=>whnf)
   refine V.st ?_
   refine⟨(V.tk [0] (V.e1 1 [0] (V.e1 2 [] (V.e1 3 [] .done)))),[],V.pok,.go (jab ?_)⟩
   (conv=>whnf)
   refine V.st ?_
   repeat ((try ((with_reducible refine .ext ?_);(conv=>whnf)));(with_reducible refine jaa (r:=?_) ?_ ?_);rotate_left;(focus (first|exact(hi)|exact(hc2)));(conv=>whnf);refine V.st ?_)
   refine⟨Pq55z,[],V.pok,.go (jab ?_)⟩
   (conv=>whnf)
   refine V.st ?_
   exact Fin.of rfl
 ·rw[decide_eq_false_iff_not] at hq
  have hpl:=hpl.2 hq
  rw[← hpl.1,← hpl.2]
  (conv=>whnf)
  refine V.st ?_
  refine⟨Pq55z,[],V.pok,.go (jab ?_)⟩
  (conv=>whnf)
  refine V.st ?_
  exact Fin.of rfl
theorem jec (x y:Int)(hx:Sm 80000000 x)(hy:Sm 80000000 y):Cl 48 [plD x,plD y] (plD (Int.gcd x y)):=by
 unfold Sm at hx hy
 rw[show plD x = .agg [.bool (decide (x<0)),.ints .i64 (mg 10000 x.natAbs)] from rfl,show plD y = .agg [.bool (decide (y<0)),.ints .i64 (mg 10000 y.natAbs)] from rfl]
 refine V.en tbOk Tryz.func48 ?_
 (conv=>whnf)
 refine V.st ?_
 refine⟨(V.tk [0,1,2,3,4,5] .done),[],V.pok,.go (jab ?_)⟩
 refine V.st ?_
 refine jae ((x.natAbs,y.natAbs):Nat×Nat) (fun s=>Nat.gcd s.1 s.2=Int.gcd x y∧(mg 10000 s.1).length≤80000000∧(mg 10000 s.2).length≤80000000) (fun s=>s.2)
  (fun s=>[(6,.ints .i64 (mg 10000 s.2)),(5,.ints .i64 (mg 10000 s.1))]) (fun _=>[]) ?_ ?_ ?_
 ·exact V.wk
 ·exact⟨rfl,hx,hy⟩
 rintro⟨a,b⟩ ⟨h1,h2,h3⟩
 dsimp only at h1 h2 h3 ⊢
 have hnil:=jbR (B:=10000) (n:=b) (by omega)
 rw[← jhG] at hnil
 (conv=>whnf)
 refine V.st ?_
 refine V.br (fun hq=>?_) (fun hq=>?_)
 ·rw[decide_eq_true_eq] at hq
  have hb:0<b:=by omega
  have hp:=parts_c a b (by omega) (by omega) hb
  have hr:=jaf (B:=10000) (by omega) (Nat.le_of_lt (Nat.mod_lt a hb))
  (conv=>whnf)
  refine V.st ?_
  repeat ((try ((with_reducible refine .ext ?_);(conv=>whnf)));(with_reducible refine jaa (r:=?_) ?_ ?_);rotate_left;(focus (first|exact(hp)));(conv=>whnf);refine V.st ?_)
  exact⟨(b,a%b),⟨by dsimp only;rw[Nat.gcd_comm,← Nat.gcd_rec,Nat.gcd_comm];exact h1,h3,by dsimp only;omega⟩,Nat.mod_lt _ hb,V.wk⟩
 ·rw[decide_eq_false_iff_not] at hq
  obtain rfl:b=0:=hnil.1 (by omega)
  rw[Nat.gcd_zero_right] at h1
  (conv=>whnf)
  refine V.st ?_
  exact Fin.of (by unfold plD;rw[jhA,h1,decide_eq_false (by omega)])
theorem jeD (k:Nat):∀ (l a b:Nat),b<10^l→pad k a++pad l b=pad (k+l) (a*10^l+b)
 | 0,a,b,h=>by
  obtain rfl:b=0:=by simp at h;omega
  simp[pad]
 | l+1,a,b,h=>by
  have hb:b/10<10^l:=Nat.div_lt_of_lt_mul (by rw[Nat.pow_succ,jhf] at h;exact h)
  have e:a*10^(l+1)+b=(a*10^l)*10+b:=by rw[Nat.pow_succ,Nat.mul_assoc]
  have e1:(a*10^(l+1)+b)/10=a*10^l+b/10:=by omega
  have e2:(a*10^(l+1)+b)%10=b%10:=by omega
  rw[show k+(l+1)=(k+l)+1 by omega,pad,pad,e1,e2,← jeD k l a _ hb,jhM]
theorem dec_head (n:Nat)(h:0<n):(dec n).getD 0 0≠48:=by
 induction n using Nat.strongRecOn with
 | _ n ih=>
  by_cases h1:n<10
  ·rw[jbV h1]
   intro e
   have:=congrArg UInt8.toNat e
   simp only[List.getD_cons_zero] at this
   rw[jci h1] at this
   simp at this
   omega
  ·rw[jcF (by omega),jhF,jhN (jaV _),← jhF]
   exact ih _ (by omega) (by omega)
theorem four_c (n:Nat)(h:n<10000):Cl 75 [.int .i64 n] (.str (pad 4 n)):=by
 refine V.en tbOk Tryz.func75 ?_
 (conv=>whnf)
 refine V.st ?_
 exact Fin.of (by
  have e:∀ m:Nat,(48+(m:Int)).toNat=48+m:=fun m=>by omega
  simp only[pad,jhR,jhM,jhD,List.map_cons,List.map_nil]
  have e1:(48+(n:Int)/1000).toNat=48+n/10/10/10%10:=by omega
  have e2:(48+(n:Int)/100%10).toNat=48+n/10/10%10:=by omega
  have e3:(48+(n:Int)/10%10).toNat=48+n/10%10:=by omega
  have e4:(48+(n:Int)%10).toNat=48+n%10:=by omega
  rw[e1,e2,e3,e4])
theorem text_c (z:Int)(hz:Sm 90000000 z):Cl 47 [plD z] (.str (decZ z)):=by
 unfold Sm at hz
 have hdx:=mg_dg (B:=10000) (by omega) z.natAbs
 have hvx:=jax (B:=10000) (by omega) z.natAbs
 have hnil:=jbR (B:=10000) (n:=z.natAbs) (by omega)
 have hltp:=jaA (B:=10000) (n:=z.natAbs) (by omega)
 rw[show plD z = .agg [.bool (decide (z<0)),.ints .i64 (mg 10000 z.natAbs)] from rfl]
 generalize mg 10000 z.natAbs=xs at *
 refine V.en tbOk Tryz.func47 ?_
 (conv=>whnf)
 refine V.st ?_
 refine jae ((xs.length,0):Nat×Nat) (fun s=>s.1≤xs.length∧val 10000 (xs.drop s.1)=s.2) (fun s=>s.1)
  (fun s=>[(4,.int .i64 ((s.1:Int)-1)),(3,.str (pad (4*(xs.length-s.1)) s.2))]) (fun _=>[]) ?_ ?_ ?_
 ·rw[jhq]
  exact V.wk
 ·exact⟨jhb _,by simp[val]⟩
 rintro⟨k,v⟩ ⟨h1,h2⟩
 dsimp only at h1 h2 ⊢
 have hpl:=jc8 (4*(xs.length-k)) v
 (conv=>whnf)
 refine V.st ?_
 refine V.br (fun hq=>?_) (fun hq=>?_)
 ·rw[decide_eq_true_eq] at hq
  obtain⟨j,rfl⟩:∃ j,k=j+1:=⟨k-1,by omega⟩
  have hj:j<xs.length:=by omega
  have bx:=jak (by omega) hdx j
  have hd:=jbA (B:=10000) hj
  generalize hx0:xs.getD j 0=x at *
  obtain⟨d,rfl⟩:∃ d:Nat,x=d:=⟨x.toNat,by omega⟩
  have e2:(((j+1:Nat):Int)-1)=(j:Int):=by omega
  have hf:=four_c d (by omega)
  have hp4:=jc8 4 d
  have hpa:=jeD (4*(xs.length-(j+1))) 4 v d (by omega)
  have e4:4*(xs.length-(j+1))+4=4*(xs.length-j):=by omega
  rw[e4] at hpa
  refine V.r1 (V.a4 e2 @jha hx0 hpa) hf ?_
  exact⟨(j,v*10^4+d),⟨by dsimp only;omega,by dsimp only;rw[hd,h2];omega⟩,by dsimp only;omega,V.wk⟩
 ·rw[decide_eq_false_iff_not] at hq
  obtain rfl:k=0:=by omega
  rw[jhW,hvx] at h2
  have hv:v=z.natAbs:=by omega
  subst hv
  have hK:z.natAbs<10^(4*xs.length):=by rw[Nat.pow_mul];exact hltp
  rw[Nat.sub_zero] at *
  generalize hs:pad (4*xs.length) z.natAbs=t at *
  obtain⟨Z,hZ,hZ1,hZ2⟩:∃ Z,Z≤t.length∧t.drop Z=(if z.natAbs=0 then [] else dec z.natAbs) ∧ ∀ k,k≤Z→(k<t.length∧t.getD k 0=48↔k<Z):=by
   by_cases h0:z.natAbs=0
   ·have:=hnil.2 h0
    subst this
    rw[if_pos h0]
    have ht:t=[]:=jhG.1 (by simpa using hpl)
    subst ht
    exact⟨0,by simp,rfl,fun k hk=>by simp⟩
   ·rw[if_neg h0]
    have hne:0<xs.length:=by
     rcases jhe xs.length with e|e
     ·exact absurd (hnil.1 (jhG.1 e)) h0
     ·exact e
    obtain⟨p1,p2⟩:=jbv (4*xs.length) z.natAbs (by omega) hK
    rw[hs] at p2
    have hdl:=jaV z.natAbs
    refine⟨4*xs.length-(dec z.natAbs).length,by omega,?_,fun k hk=>?_⟩
    ·rw[p2,List.drop_append_of_le_length (by simp),List.drop_of_length_le (by simp)];rfl
    ·rw[p2]
     rcases jhi k (4*xs.length-(dec z.natAbs).length) with hlt|hge
     ·rw[jhF,jhN (by simpa using hlt),List.getElem?_replicate,if_pos hlt]
      simp[hlt];omega
     ·have hke:k=4*xs.length-(dec z.natAbs).length:=by omega
      rw[jhF,List.getElem?_append_right (by simp;omega),List.length_replicate,hke,jhq,← jhF]
      have:=dec_head z.natAbs (by omega)
      simp only[Nat.lt_irrefl,iff_false,not_and]
      exact fun _=>this
  refine V.r0 @jha ?_
  refine jae (0) (fun k=>k≤Z) (fun k=>Z-k) (fun k=>[(5,.int .i64 k)]) (fun k=>[]) ?_ ?_ ?_
  ·exact V.wk
  ·exact jg2 _
  intro k hk
  have hz2:=hZ2 k hk
  have hkc:((k:Int)+1)=((k+1:Nat):Int):=by omega
  have hu:(((t.getD k 0).toNat:Int)=48)↔t.getD k 0=48:=⟨fun h=>UInt8.toNat_inj.1 (by have e:(48:UInt8).toNat=48:=rfl;rw[e];omega),fun h=>by rw[h];rfl⟩
  refine V.r0 @jha ?_
  refine V.br (fun hq2=>?_) (fun hq2=>?_)
  ·rw[jg0,decide_eq_true_eq,decide_eq_true_eq,hu] at hq2
   have hkZ:=hz2.1 ⟨by omega,hq2.2⟩
   refine V.r0 hkc ?_
   exact⟨k+1,by omega,by omega,V.wk⟩
  ·have hkZ:k=Z:=by
    rcases jhi k Z with h|h
    ·have h3:=hz2.2 h
     rw[Bool.and_eq_false_iff,decide_eq_false_iff_not,decide_eq_false_iff_not,hu] at hq2
     rcases hq2 with h4|h4
     ·omega
     ·exact absurd h3.2 h4
    ·omega
   subst hkZ
   refine V.r0 (V.a2 @jha hZ1) ?_
   by_cases h0:z.natAbs=0
   ·rw[if_pos h0] at hZ1 ⊢
    have hz0:z=0:=by omega
    (conv=>whnf)
    refine V.st ?_
    exact Fin.of (by rw[hz0];rfl)
   ·rw[if_neg h0] at hZ1 ⊢
    have hne:=jaV z.natAbs
    have hne2:dec z.natAbs≠[]:=fun e=>by rw[e] at hne;simp at hne
    have hdl:(dec z.natAbs).length≤t.length:=by rw[← hZ1,jhV];omega
    (conv=>whnf)
    refine V.st ?_
    refine Cnd.no (decide_eq_false hne2) ?_
    (conv=>whnf)
    refine V.st ?_
    refine V.br (fun hneg=>?_) (fun hneg=>?_)
    ·rw[decide_eq_true_eq] at hneg
     (conv=>whnf)
     refine V.st ?_
     exact Fin.of (by unfold decZ;rw[if_pos hneg];rfl)
    ·rw[decide_eq_false_iff_not] at hneg
     (conv=>whnf)
     refine V.st ?_
     exact Fin.of (by unfold decZ;rw[if_neg hneg])
theorem out_c (z:Int)(hz:Sm 90000000 z):Cl 79 [plD z] (.tup [.str (if 600<(dec z.natAbs).length then [] else decZ z),.int .i64 (if 600<(dec z.natAbs).length then 6 else 0)]):=by
 have ht:=text_c z hz
 rw[show plD z = .agg [.bool (decide (z<0)),.ints .i64 (mg 10000 z.natAbs)] from rfl] at *
 have hl:(decZ z).length=(dec z.natAbs).length+(if z<0 then 1 else 0):=by unfold decZ;split<;>simp
 generalize hzs:decZ z=s at *
 refine V.en tbOk Tryz.func79 ?_
 (conv=>whnf)
 refine V.st ?_
 repeat ((try ((with_reducible refine .ext ?_);(conv=>whnf)));(with_reducible refine jaa (r:=?_) ?_ ?_);rotate_left;(focus (first|exact(ht)));(conv=>whnf);refine V.st ?_)
 refine V.br (fun hq=>?_) (fun hq=>?_)
 ·rw[decide_eq_true_eq] at hq
  rw[if_pos hq] at hl
  (conv=>whnf)
  refine V.st ?_
  refine V.br (fun hq2=>?_) (fun hq2=>?_)
  ·rw[decide_eq_true_eq] at hq2
   rw[if_pos (by omega),if_pos (by omega)]
   (conv=>whnf)
   refine V.st ?_
   exact Fin.of rfl
  ·rw[decide_eq_false_iff_not] at hq2
   rw[if_neg (by omega),if_neg (by omega)]
   (conv=>whnf)
   refine V.st ?_
   exact Fin.of rfl
 ·rw[decide_eq_false_iff_not] at hq
  rw[if_neg hq] at hl
  (conv=>whnf)
  refine V.st ?_
  refine V.br (fun hq2=>?_) (fun hq2=>?_)
  ·rw[decide_eq_true_eq] at hq2
   rw[if_pos (by omega),if_pos (by omega)]
   (conv=>whnf)
   refine V.st ?_
   exact Fin.of rfl
  ·rw[decide_eq_false_iff_not] at hq2
   rw[if_neg (by omega),if_neg (by omega)]
   (conv=>whnf)
   refine V.st ?_
   exact Fin.of rfl
end Go.Proofs.YtbhpaandigaanaaGreatDoor
end
