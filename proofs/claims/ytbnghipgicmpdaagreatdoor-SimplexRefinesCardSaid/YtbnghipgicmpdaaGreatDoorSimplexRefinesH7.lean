/- What functions of the program answer at given values, part 7. Conditions: those that each theorem names. -/
import Derived.Test.YtbnghipgicmpdaaGreatDoorSimplexRefinesH6
import Derived.Shelf.Strconv.ParseIntPublic10
import Derived.Test.YtbnghipgicmpdaaGreatDoorSimplexRefinesH4
set_option linter.unusedSimpArgs false
set_option linter.unusedVariables false
set_option maxHeartbeats 8000000
set_option maxRecDepth 100000
section
namespace Go.Proofs.YtbnghipgicmpdaaGreatDoor
open Go Go.V Go.Nb
def okD (d:List UInt8)(neg:Bool):Bool := !(decide (d.length=0) || decide (600<d.length)) && d.all isDig && !(decide (d.getD 0 0=48) && (neg || decide (1<d.length)))
def okW (s:List UInt8):Bool:=okD (Go.Lib.trimPrefix s [45]) (Go.Lib.hasPrefix s [45])
theorem dig_lo (c:UInt8):(isDig c=true) ↔ ¬ (c.toNat:Int)<48 ∧ ¬ (57<(c.toNat:Int)):=by
 simp only[isDig,decide_eq_true_eq];omega
theorem Fin.any' (r:D):Fin .any r:=⟨fun _ _ _=>by simp[Den]⟩
theorem wread_g (s:List UInt8)(hs:s.length≤281474976710656):Cl 197 [.str s] (.tup [.agg [.any,.any],.bool (okW s)]):=by
 have hcp:=jfw s [45]
 unfold okW
 have hdl:(Go.Lib.trimPrefix s [45]).length≤s.length:=by unfold Go.Lib.trimPrefix;split<;>simp
 generalize Go.Lib.trimPrefix s [45]=d at *
 generalize Go.Lib.hasPrefix s [45]=neg at *
 refine V.en tbOk Tryz.func197 ?_
 refine V.u1 hcp ?_
 refine V.br (fun hq=>?_) (fun hq=>?_)
 ·simp only[Bool.or_eq_true,decide_eq_true_eq] at hq
  have hf:okD d neg=false:=by
   unfold okD
   rcases hq with h|h
   ·rw[decide_eq_true (show d.length=0 by omega)];rfl
   ·rw[decide_eq_true (show 600<d.length by omega),Bool.or_true];rfl
  rw[hf]
  (conv=>whnf)
  refine V.st ?_
  exact Fin.tup ⟨Fin.agg ⟨Fin.any' _,Fin.any' _,trivial⟩,Fin.of rfl,trivial⟩
 ·simp only[jjl,decide_eq_false_iff_not] at hq
  (conv=>whnf)
  refine V.st ?_
  refine jad (0:Nat) (fun k=>k≤d.length ∧ ∀ i,i<k→isDig (d.getD i 0)=true) (fun k=>d.length-k) (fun k=>[(23,.int .i64 k)]) (fun _=>[]) ?_ ?_ ?_
  ·exact V.wk
  ·exact⟨ji2 _,fun i hi=>by omega⟩
  intro k hk
  have hkc:((k:Int)+1)=((k+1:Nat):Int):=by omega
  (conv=>whnf)
  refine V.st ?_
  refine V.br (fun hq2=>?_) (fun hq2=>?_)
  ·rw[decide_eq_true_eq] at hq2
   have hdl:=dig_lo (d.getD k 0)
   generalize hc:d.getD k 0=c at *
   refine V.r0 (V.a3 @jjb hc hkc) ?_
   refine V.br (fun hq3=>?_) (fun hq3=>?_)
   ·rw[Bool.or_eq_true,decide_eq_true_eq,decide_eq_true_eq] at hq3
    have hf:okD d neg=false:=by
     have h1:d.all isDig=false:=by
      rw[List.all_eq_false]
      refine⟨c,?_,fun h=>by have:=hdl.1 h;omega⟩
      rw[← hc,jjF,jjI (by omega)]
      exact jjJ _
     unfold okD
     rw[h1,Bool.and_false,Bool.false_and]
    rw[hf]
    (conv=>whnf)
    refine V.st ?_
    exact Fin.tup ⟨Fin.agg ⟨Fin.any' _,Fin.any' _,trivial⟩,Fin.of rfl,trivial⟩
   ·rw[jjl,decide_eq_false_iff_not,decide_eq_false_iff_not] at hq3
    refine V.r0 hkc ?_
    refine⟨k+1,⟨by omega,fun i hi=>?_⟩,by omega,V.wk⟩
    rcases jjk i k with h|h
    ·exact hk.2 i h
    ·obtain rfl:i=k:=by omega
     rw[hc];exact hdl.2 (by omega)
  ·rw[decide_eq_false_iff_not] at hq2
   obtain rfl:k=d.length:=by omega
   have hall:∀ c∈d,isDig c=true:=fun c hc=>by
    obtain⟨i,hi,e⟩:=List.getElem_of_mem hc
    have:=hk.2 i hi
    rw[jjF,jjI hi] at this
    rw[← e];exact this
   have hok:okD d neg = !(decide (d.getD 0 0=48) && (neg || decide (1<d.length))):=by
    unfold okD
    rw[jjE.2 hall,decide_eq_false (show ¬ d.length=0 by omega),decide_eq_false (show ¬ 600<d.length by omega)]
    rfl
   have hu:decide ((((d.getD 0 0).toNat:Nat):Int)=48)=decide (d.getD 0 0=48):=decide_eq_decide.2 ⟨fun h=>UInt8.toNat_inj.1 (by have e:(48:UInt8).toNat=48:=rfl;rw[e];omega),fun h=>by rw[h];rfl⟩
   have hl:decide ((d.length:Int)>1)=decide (1<d.length):=decide_eq_decide.2 (by omega)
   have hg:=wgather_c d hall (by omega)
   rw[hok]
   have e0:(0:Int).toNat=0:=rfl
   refine V.r0 (V.a3 e0 hu hl) ?_
   refine And.intro (fun h1 h2=>by rw[h1,h2];rfl) ?_
   refine V.r0 (V.a3 e0 hu hl) ?_
   refine V.br (fun hq4=>?_) (fun hq4=>?_)
   ·rw[hq4]
    (conv=>whnf)
    refine V.st ?_
    exact Fin.tup ⟨Fin.agg ⟨Fin.any' _,Fin.any' _,trivial⟩,Fin.of rfl,trivial⟩
   ·rw[hq4]
    refine V.u1 hg ?_
    exact Fin.tup ⟨Fin.agg ⟨Fin.any' _,Fin.any' _,trivial⟩,Fin.of rfl,trivial⟩
theorem jcp (s:List UInt8)(hs:s.length≤281474976710656):Cl 158 [.str s] (.int .i64 (if okW s then 0 else 10)):=by
 have h1:=wread_g s hs
 generalize okW s=b at *
 refine V.en tbOk Tryz.func158 ?_
 refine V.u1 h1 ?_
 refine V.br (fun hq=>?_) (fun hq=>?_)
 ·obtain rfl:b=false:=by simpa using hq
  (conv=>whnf)
  refine V.st ?_
  exact Fin.of rfl
 ·obtain rfl:b=true:=by simpa using hq
  (conv=>whnf)
  refine V.st ?_
  exact Fin.of rfl
def itD (z:Int):D := .agg [.ints .u32 (mg 1000000000 z.natAbs),.bool (decide (z<0))]
def wval (s:List UInt8):Int:=if Go.Lib.hasPrefix s [45] then -(rdv (Go.Lib.trimPrefix s [45]):Nat) else (rdv (Go.Lib.trimPrefix s [45]):Nat)
theorem okD_nz {d:List UInt8}(h:okD d true=true):0<rdv d:=by
 unfold okD at h
 simp only[ji0,Bool.not_eq_true',jjl,decide_eq_false_iff_not,Bool.true_or,Bool.and_true,jjE] at h
 obtain⟨⟨⟨h1,_⟩,h2⟩,h3⟩:=h
 cases d with
 | nil=>simp at h1
 | cons c r=>
  have h4:=h2 c (by simp)
  simp only[isDig,decide_eq_true_eq] at h4
  rw[List.getD_cons_zero] at h3
  have h5:c.toNat≠48:=fun e=>h3 (UInt8.toNat_inj.1 e)
  have h6:=jbm [c] r
  rw[jeb] at h6
  rw[show c::r=[c]++r from rfl,h6]
  have:0<(c.toNat-48)*10^r.length:=Nat.mul_pos (by omega) (Nat.pow_pos (by omega))
  omega
theorem jc8 (s:List UInt8)(h:okW s=true):Cl 159 [.str s] (itD (wval s)):=by
 have hcp:=jfw s [45]
 unfold wval itD
 unfold okW at h
 have hl:(Go.Lib.trimPrefix s [45]).length≤600 ∧ ∀ c∈Go.Lib.trimPrefix s [45],isDig c=true:=by
  unfold okD at h
  simp only[ji0,Bool.not_eq_true',jjl,decide_eq_false_iff_not,jjE] at h
  exact⟨by omega,h.1.2⟩
 have hg:=gather_c _ hl.2 (by omega)
 generalize Go.Lib.trimPrefix s [45]=d at *
 have e:(if Go.Lib.hasPrefix s [45]=true then -((rdv d:Nat):Int) else ((rdv d:Nat):Int)).natAbs=rdv d∧decide ((if Go.Lib.hasPrefix s [45]=true then -((rdv d:Nat):Int) else ((rdv d:Nat):Int))<0)=Go.Lib.hasPrefix s [45]:=by
  cases hn:Go.Lib.hasPrefix s [45] with
  | true=>
   rw[hn] at h
   have:=okD_nz h
   exact⟨by simp,by simp;omega⟩
  | false=>exact⟨by simp,by simp⟩
 rw[e.1,e.2]
 generalize Go.Lib.hasPrefix s [45]=neg at *
 refine V.en tbOk Tryz.func159 ?_
 refine V.u2 hcp hg ?_
 exact Fin.of rfl
theorem jd3 (z:Int):Go.Lib.hasPrefix (decZ z) [45]=decide (z<0)∧Go.Lib.trimPrefix (decZ z) [45]=dec z.natAbs:=by
 unfold decZ Go.Lib.trimPrefix Go.Lib.hasPrefix
 by_cases h:z<0
 ·simp[h,List.isPrefixOf]
 ·simp only[if_neg h,decide_eq_false h]
  have h1:=jgN z.natAbs
  have h2:=jbe z.natAbs
  cases hd:dec z.natAbs with
  | nil=>rw[hd] at h2;simp at h2
  | cons c r=>
   have h3:=h1 c (by rw[hd];simp)
   have h4:((45:UInt8) == c)=false:=by
    rw[beq_eq_false_iff_ne];intro e;subst e;exact absurd h3 (by decide)
   simp[List.isPrefixOf,h4]
theorem jcw (z:Int)(h:(dec z.natAbs).length≤600):okW (decZ z)=true:=by
 unfold okW okD
 rw[(jd3 z).1,(jd3 z).2]
 have h2:=jbe z.natAbs
 have h3:(dec z.natAbs).all isDig=true:=jjE.2 (jgN _)
 rw[h3,decide_eq_false (show ¬ (dec z.natAbs).length=0 by omega),decide_eq_false (show ¬ 600<(dec z.natAbs).length by omega)]
 by_cases h0:z.natAbs=0
 ·have:z=0:=by omega
  subst this
  rfl
 ·have:=dec_head z.natAbs (by omega)
  rw[decide_eq_false this];rfl
theorem jbp (z:Int):wval (decZ z)=z:=by
 unfold wval
 rw[(jd3 z).1,(jd3 z).2,rdv_dec]
 by_cases h:z<0
 ·simp[h];omega
 ·simp[h];omega
theorem jdt (n:Nat):Cl 145 [.ints .u32 (mg 1000000000 n)] (.bool (decide (n=0))):=by
 have hnil:=jcl (B:=1000000000) (n:=n) (by omega)
 rw[← jjG] at hnil
 have e:decide (((mg 1000000000 n).length:Int)=0)=decide (n=0):=decide_eq_decide.2 (by rw[← hnil];omega)
 refine V.en tbOk Tryz.func145 ?_
 (conv=>whnf)
 refine V.st ?_
 exact Fin.of (by rw[e])
theorem ja6 (n:Nat)(neg:Bool):Cl 167 [.ints .u32 (mg 1000000000 n),.bool neg] (itD (if neg then -(n:Int) else n)):=by
 have h1:=jdt n
 have e:(if neg=true then -(n:Int) else (n:Int)).natAbs=n:=by cases neg<;>simp
 have e2:decide ((if neg=true then -(n:Int) else (n:Int))<0)=(neg && !decide (n=0)):=by
  cases neg with
  | false=>simp
  | true=>
   by_cases h:n=0
   ·simp[h]
   ·rw[decide_eq_false h,if_pos rfl,decide_eq_true (by omega)];rfl
 unfold itD
 rw[e,e2]
 generalize decide (n=0)=z at *
 refine V.en tbOk Tryz.func167 ?_
 refine V.u1 h1 ?_
 exact Fin.of rfl
theorem small_c (n:Nat)(h:n<1000000000000000000):Cl 200 [.ints .u32 (mg 1000000000 n)] (.int .u64 n):=by
 have hlen:=jax (B:=1000000000) (n:=n) (k:=2) (by omega) (by omega)
 have hdx:=mg_dg (B:=1000000000) (by omega) n
 have hvx:=jaH (B:=1000000000) (by omega) n
 generalize mg 1000000000 n=xs at *
 refine V.en tbOk Tryz.func200 ?_
 (conv=>whnf)
 refine V.st ?_
 refine jad (xs.length:Nat) (fun k=>k≤xs.length) (fun k=>k) (fun k=>[(4,.int .i64 ((k:Int)-1)),(3,.int .u64 (val 1000000000 (xs.drop k)))]) (fun _=>[]) ?_ ?_ ?_
 ·rw[List.drop_length]
  exact V.wk
 ·exact jjc _
 intro k hk
 (conv=>whnf)
 refine V.st ?_
 refine V.br (fun hq=>?_) (fun hq=>?_)
 ·rw[decide_eq_true_eq] at hq
  obtain⟨j,rfl⟩:∃ j,k=j+1:=⟨k-1,by omega⟩
  have hd:=jbI (B:=1000000000) (l:=xs) (k:=j) (by omega)
  have bx:=jam (by omega) hdx j
  have h0:=jao (jbk hdx (j+1))
  have h1:=jcg (jbk hdx (j+1))
  rw[jj0] at h1
  have h2:(1000000000:Nat)^(xs.length-(j+1))≤1000000000^1:=jjs (by omega) (by omega)
  have h3:((1000000000^(xs.length-(j+1)):Nat):Int)≤((1000000000^1:Nat):Int):=by exact_mod_cast h2
  rw[jjw] at h3
  have e2:(((j+1:Nat):Int)-1)=(j:Int):=by omega
  generalize hx0:xs.getD j 0=x at *
  have e3:val 1000000000 (xs.drop (j+1))*1000000000+x=val 1000000000 (xs.drop j):=by omega
  refine V.r0 (V.a4 e2 @jjb hx0 e3) ?_
  exact⟨j,by omega,by omega,V.wk⟩
 ·rw[decide_eq_false_iff_not] at hq
  obtain rfl:k=0:=by omega
  rw[jj1,hvx]
  (conv=>whnf)
  refine V.st ?_
  exact Fin.of rfl
theorem jdq (n:Nat)(hn:n<18446744073709551616):Cl 118 [.int .u64 n] (.ints .u32 (mg 1000000000 n)):=by
 have hlen:=jax (B:=1000000000) (n:=n) (k:=3) (by omega) (by omega)
 refine V.en tbOk Tryz.func118 ?_
 (conv=>whnf)
 refine V.st ?_
 refine Lp.ghostSlot 13 3 .u32 (by decide) ?_
 (conv=>whnf)
 refine jad ((n,[]):Nat×List Int) (fun s=>val 1000000000 s.2+((1000000000:Nat):Int)^s.2.length*s.1=n∧Dg 1000000000 s.2∧s.1≤n∧s.2.length+(mg 1000000000 s.1).length=(mg 1000000000 n).length∧(s.1=0→s.2=mg 1000000000 n)) (fun s=>s.1) (fun s=>[(0,.int .u64 s.1),(3,.osl 13 0 s.2.length)]) (fun s=>[(13,.arr .u32 s.2)]) ?_ ?_ ?_
 ·exact V.wk
 ·exact⟨by simp[val],fun x hx=>by simp at hx,jjc _,by simp,fun h=>by dsimp only at h;rw[h];rfl⟩
 rintro⟨q,out⟩ ⟨h1,h2,h3,h4,h5⟩
 dsimp only at h1 h2 h3 h4 h5 ⊢
 (conv=>whnf)
 refine V.st ?_
 refine V.br (fun hq=>?_) (fun hq=>?_)
 ·rw[decide_eq_true_eq] at hq
  have hq0:0<q:=by omega
  have hmg:=jck (B:=1000000000) (by omega) hq0
  have hst:=jeL (B:=1000000000) (by omega) h1
  have hlt:q/1000000000<q:=Nat.div_lt_self hq0 (by omega)
  have hdg:Dg 1000000000 (out++[((q%1000000000:Nat):Int)]):=jai h2 (jay ⟨by omega,by have:=jjf q (by omega:1000000000>0);omega⟩)
  have e1:(q:Int)%1000000000=((q%1000000000:Nat):Int):=by omega
  have e2:(q:Int)/1000000000=((q/1000000000:Nat):Int):=by omega
  have hl2:(out++[((q%1000000000:Nat):Int)]).length=out.length+1:=by simp
  have hl3:out.length+(List.take 1 (List.drop 0 [((q%1000000000:Nat):Int)])).length=(out++[((q%1000000000:Nat):Int)]).length:=by simp
  rw[hmg,jjV] at h4
  have hmr:=jjf q (by omega:1000000000>0)
  (conv=>whnf)
  (try simp only[e1,e2,hl3])
  repeat ((first|refine V.s1 ?_);(try simp only[e1,e2,hl3]))
  try refine And.intro (fun _=>⟨trivial,by omega⟩) ?_
  (conv=>whnf)
  (try simp only[e1,e2,hl3])
  repeat ((first|refine V.s1 ?_);(try simp only[e1,e2,hl3]))
  refine⟨(q/1000000000,out++[((q%1000000000:Nat):Int)]),⟨hst,hdg,by dsimp only;omega,by dsimp only;omega,fun h0=>?_⟩,hlt,V.wk⟩
  dsimp only at h0 ⊢
  rw[h0,Int.natCast_zero,Int.mul_zero,jjv] at hst
  have:=mg_of (B:=1000000000) (by omega) hdg (fun x hx=>by
   rw[List.getLast?_append] at hx
   simp at hx
   omega)
  rw[hst,jjb] at this
  exact this
 ·rw[decide_eq_false_iff_not] at hq
  obtain rfl:q=0:=by omega
  (conv=>whnf)
  refine V.st ?_
  exact Fin.of (by rw[jj6,h5 rfl])
theorem isNaNi_c (n:Int):Cl 226 [.int .i64 n] (.bool false):=by
 refine V.en tbOk Tryz.func226 ?_
 (conv=>whnf)
 refine V.st ?_
 exact Fin.of (by simp)
theorem isNaNu_c (n:Int):Cl 227 [.int .u32 n] (.bool false):=by
 refine V.en tbOk Tryz.func227 ?_
 (conv=>whnf)
 refine V.st ?_
 exact Fin.of (by simp)
theorem cmpi_c (m n:Int):Cl 201 [.int .i64 m,.int .i64 n] (.int .i64 (m-n).sign):=by
 have h1:=isNaNi_c m
 have h2:=isNaNi_c n
 refine V.en tbOk Tryz.func201 ?_
 refine V.u2 h1 h2 ?_
 refine V.br (fun hq=>?_) (fun hq=>?_)
 ·rw[decide_eq_true_eq] at hq
  (conv=>whnf)
  refine V.st ?_
  exact Fin.of (by rw[jjz (by omega)])
 ·rw[decide_eq_false_iff_not] at hq
  (conv=>whnf)
  refine V.st ?_
  refine V.br (fun hq2=>?_) (fun hq2=>?_)
  ·rw[decide_eq_true_eq] at hq2
   (conv=>whnf)
   refine V.st ?_
   exact Fin.of (by rw[jjA (by omega)])
  ·rw[decide_eq_false_iff_not] at hq2
   (conv=>whnf)
   refine V.st ?_
   exact Fin.of (by rw[show m-n=0 by omega];rfl)
theorem cmpu_c (m n:Int):Cl 202 [.int .u32 m,.int .u32 n] (.int .i64 (m-n).sign):=by
 have h1:=isNaNu_c m
 have h2:=isNaNu_c n
 refine V.en tbOk Tryz.func202 ?_
 refine V.u2 h1 h2 ?_
 refine V.br (fun hq=>?_) (fun hq=>?_)
 ·rw[decide_eq_true_eq] at hq
  (conv=>whnf)
  refine V.st ?_
  exact Fin.of (by rw[jjz (by omega)])
 ·rw[decide_eq_false_iff_not] at hq
  (conv=>whnf)
  refine V.st ?_
  refine V.br (fun hq2=>?_) (fun hq2=>?_)
  ·rw[decide_eq_true_eq] at hq2
   (conv=>whnf)
   refine V.st ?_
   exact Fin.of (by rw[jjA (by omega)])
  ·rw[decide_eq_false_iff_not] at hq2
   (conv=>whnf)
   refine V.st ?_
   exact Fin.of (by rw[show m-n=0 by omega];rfl)
theorem jco (a b:Nat)(ha:(mg 1000000000 a).length≤100000000)(hb:(mg 1000000000 b).length≤100000000):Cl 162 [.ints .u32 (mg 1000000000 a),.ints .u32 (mg 1000000000 b)] (.int .i64 ((a:Int)-b).sign):=by
 have hdx:=mg_dg (B:=1000000000) (by omega) a
 have hdy:=mg_dg (B:=1000000000) (by omega) b
 have hsg:=jfZ (B:=1000000000) (by omega) a b
 generalize mg 1000000000 a=xs at *
 generalize mg 1000000000 b=ys at *
 have hsn:((a:Int)-b).sign=(ordV xs ys).sign:=by
  rcases Nat.lt_trichotomy a b with h|h|h
  ·rw[jjz (by omega),jjz (by omega)]
  ·rw[show (a:Int)-b=0 by omega,show ordV xs ys=0 by omega]
  ·rw[jjA (by omega),jjA (by omega)]
 rw[hsn]
 have hc1:=cmpi_c (xs.length:Int) (ys.length:Int)
 refine V.en tbOk Tryz.func162 ?_
 (conv=>whnf)
 refine V.st ?_
 refine V.br (fun hq=>?_) (fun hq=>?_)
 ·rw[decide_eq_true_eq] at hq
  refine V.u1 hc1 ?_
  exact Fin.of (by unfold ordV;rw[if_neg (by omega)])
 ·rw[decide_eq_false_iff_not] at hq
  have hq':xs.length=ys.length:=by omega
  have hov:ordV xs ys=ordR xs ys xs.length:=by unfold ordV;rw[if_pos hq']
  rw[hov]
  (conv=>whnf)
  refine V.st ?_
  refine jad (xs.length) (fun k=>k≤xs.length∧ordR xs ys k=ordR xs ys xs.length) (fun k=>k) (fun k=>[(5,.int .i64 ((k:Int)-1))]) (fun k=>[]) ?_ ?_ ?_
  ·exact V.wk
  ·exact⟨jjc _,rfl⟩
  intro k hk
  have bx:=jam (by omega) hdx (k-1)
  have by':=jam (by omega) hdy (k-1)
  (conv=>whnf)
  refine V.st ?_
  refine V.br (fun hz=>?_) (fun hz=>?_)
  ·rw[decide_eq_true_eq] at hz
   obtain⟨j,rfl⟩:∃ j,k=j+1:=⟨k-1,by omega⟩
   have e2:(((j+1:Nat):Int)-1)=(j:Int):=by omega
   have hr:=hk.2
   rw[ordR] at hr
   rw[Nat.add_sub_cancel] at bx by'
   refine V.r0 (V.a2 e2 @jjb) ?_
   refine⟨Pq24z,[],V.pok,.go (jac ?_)⟩
   have hc2:=cmpu_c (xs.getD j 0) (ys.getD j 0)
   refine V.r0 (V.a2 e2 @jjb) ?_
   refine V.br (fun hn=>?_) (fun hn=>?_)
   ·rw[decide_eq_true_eq] at hn
    refine V.r0 (V.a2 e2 @jjb) ?_
    refine⟨(V.tk [0,1,2,3,4,5,6,7] (V.e1 8 [] (V.tk [9] .done))),[],V.pok,.go (jac ?_)⟩
    refine V.r1 (V.a2 e2 @jjb) hc2 ?_
    exact Fin.of (by rw[← hr,if_neg hn])
   ·rw[decide_eq_false_iff_not] at hn
    rw[if_pos (by omega)] at hr
    refine V.r0 e2 ?_
    exact⟨j,⟨by omega,hr⟩,by omega,V.wk⟩
  ·rw[decide_eq_false_iff_not] at hz
   obtain rfl:k=0:=by omega
   (conv=>whnf)
   refine V.st ?_
   exact Fin.of (by rw[← hk.2];rfl)
theorem jcJ (a b:Nat)(ha:(mg 1000000000 a).length≤100000000)(hb:(mg 1000000000 b).length≤100000000):Cl 165 [.ints .u32 (mg 1000000000 a),.ints .u32 (mg 1000000000 b)] (.ints .u32 (mg 1000000000 (a*b))):=by
 have hdx:=mg_dg (B:=1000000000) (by omega) a
 have hdy:=mg_dg (B:=1000000000) (by omega) b
 have hvx:=jaH (B:=1000000000) (by omega) a
 have hvy:=jaH (B:=1000000000) (by omega) b
 generalize mg 1000000000 a=xs at *
 generalize mg 1000000000 b=ys at *
 have hmn:((xs.length:Int)+(ys.length:Int)).toNat=xs.length+ys.length:=by omega
 refine V.en tbOk Tryz.func165 ?_
 refine V.r0 hmn ?_
 refine jad ((0,List.replicate (xs.length+ys.length) 0):Nat×List Int) (fun s=>s.1≤xs.length∧s.2.length=xs.length+ys.length∧Dg 1000000000 s.2∧(∀ k,s.1+ys.length≤k→s.2.getD k 0=0)∧val 1000000000 s.2=val 1000000000 (xs.take s.1)*val 1000000000 ys) (fun s=>xs.length-s.1)
  (fun s=>[(19,.int .i64 s.1),(5,.osl 16 0 (xs.length+ys.length))]) (fun s=>[(16,.arr .u32 s.2)]) ?_ ?_ ?_
 ·exact V.wk
 ·exact⟨ji2 _,by simp,jb9 (by omega) _,fun k _=>by simp[jjF,List.getElem?_replicate];split<;>simp,by simp[val,jeR]⟩
 rintro⟨i,out⟩ ⟨h1,h2,h3,h4,h5⟩
 dsimp only at h1 h2 h3 h4 h5 ⊢
 have vx:=jaj 1000000000 xs i
 have bx:=jam (by omega) hdx i
 generalize hx0:xs.getD i 0=x at *
 (conv=>whnf)
 refine V.st ?_
 refine V.br (fun hq=>?_) (fun hq=>?_)
 ·rw[decide_eq_true_eq] at hq
  refine V.r0 (V.a2 @jjb hx0) ?_
  refine jad ((0,out,0):Nat×List Int×Int) (fun s=>s.1≤ys.length∧s.2.1.length=xs.length+ys.length∧Dg 1000000000 s.2.1∧(∀ k,i+ys.length≤k→s.2.1.getD k 0=0)∧(0≤s.2.2∧s.2.2<1000000000)∧val 1000000000 s.2.1+((1000000000:Nat):Int)^(i+s.1)*s.2.2=val 1000000000 (xs.take i)*val 1000000000 ys+((1000000000:Nat):Int)^i*x*val 1000000000 (ys.take s.1)) (fun s=>ys.length-s.1)
   (fun s=>[(26,.int .i64 s.1),(8,.int .u64 s.2.2),(5,.osl 16 0 (xs.length+ys.length))]) (fun s=>[(16,.arr .u32 s.2.1)]) ?_ ?_ ?_
  ·exact V.wk
  ·exact⟨ji2 _,h2,h3,h4,by simp,by simp[val,h5]⟩
  rintro⟨j,o,c⟩ ⟨g1,g2,g3,g4,g5,g6⟩
  dsimp only at g1 g2 g3 g4 g5 g6 ⊢
  have vy:=jaj 1000000000 ys j
  have by':=jam (by omega) hdy j
  have bo:=jam (by omega) g3 (i+j)
  generalize hy0:ys.getD j 0=y at *
  generalize ho0:o.getD (i+j) 0=q at *
  have eij:((i:Int)+(j:Int)).toNat=i+j:=by omega
  have hxy:0≤x*y∧x*y≤999999999*999999999:=⟨ji6 (by omega) (by omega),jjB (by omega) (by omega) (by omega) (by omega)⟩
  have hkj:((j:Int)+1)=((j+1:Nat):Int):=by omega
  have hki:((i:Int)+1)=((i+1:Nat):Int):=by omega
  have ein:((i:Int)+(ys.length:Int)).toNat=i+ys.length:=by omega
  (conv=>whnf)
  refine V.st ?_
  refine V.br (fun hw=>?_) (fun hw=>?_)
  ·rw[decide_eq_true_eq] at hw
   have hm:0≤(c+(q+x*y))%1000000000∧(c+(q+x*y))%1000000000<1000000000:=⟨ji4 _ (by omega),jju _ (by omega)⟩
   have hc9:0≤(c+(q+x*y))/1000000000∧(c+(q+x*y))/1000000000<1000000000:=by omega
   have hst:=jg3 (B:=1000000000) (x:=x) (y:=y) (q:=q) (c:=c) (d:=(c+(q+x*y))%1000000000) (c':=(c+(q+x*y))/1000000000) (by omega) ho0 g6 (by have:=ji5 (c+(q+x*y)) 1000000000;omega)
   rw[← vy] at hst
   refine V.r0 (V.a7 eij @ji8 @jjb hx0 hy0 ho0 hkj) ?_
   exact⟨(j+1,o.set (i+j) ((c+(q+x*y))%1000000000),(c+(q+x*y))/1000000000),⟨by dsimp only;omega,by dsimp only;rw[jj3];exact g2,jd1 g3 hm,fun k hk=>by dsimp only;rw[jcA (by omega)];exact g4 k hk,⟨hc9.1,hc9.2⟩,hst⟩,by dsimp only;omega,V.wk⟩
  ·rw[decide_eq_false_iff_not] at hw
   have hj:j=ys.length:=by omega
   subst hj
   rw[jj6] at g6
   have hst:=prod_end (B:=1000000000) (by omega) (g4 _ (jjc _)) g6 hx0
   refine V.r0 (V.a3 ein @ji8 hki) ?_
   exact⟨(i+1,o.set (i+ys.length) c),⟨by dsimp only;omega,by dsimp only;rw[jj3];exact g2,jd1 g3 ⟨g5.1,g5.2⟩,fun k hk=>by dsimp only at hk ⊢; rw[jcA (by omega)];exact g4 k (by omega),hst⟩,by dsimp only;omega,V.wk⟩
 ·rw[decide_eq_false_iff_not] at hq
  rw[jjW (by omega),hvx,hvy,← jjm] at h5
  have hc:=jfO out h3 (by omega)
  rw[h5,jjb,← jj6 (l:=out),h2] at hc
  refine V.u1 hc ?_
  exact Fin.of rfl
theorem short_c (a d:Nat)(ha:(mg 1000000000 a).length≤100000000)(hd0:0<d)(hd1:d≤1000000000):Cl 219 [.ints .u32 (mg 1000000000 a),.int .u32 d] (.tup [.ints .u32 (mg 1000000000 (a/d)),.int .u32 (a%d:Nat)]):=by
 have hdx:=mg_dg (B:=1000000000) (by omega) a
 have hvx:=jaH (B:=1000000000) (by omega) a
 generalize mg 1000000000 a=xs at *
 have hmn:((xs.length:Int)).toNat=xs.length:=by omega
 refine V.en tbOk Tryz.func219 ?_
 refine V.r0 hmn ?_
 refine jad ((xs.length,List.replicate xs.length 0,0):Nat×List Int×Int) (fun s=>s.1≤xs.length∧s.2.1.length=xs.length∧Dg 1000000000 s.2.1∧(0≤s.2.2∧s.2.2<d)∧val 1000000000 (xs.drop s.1)=val 1000000000 (s.2.1.drop s.1)*d+s.2.2) (fun s=>s.1)
  (fun s=>[(8,.int .i64 ((s.1:Int)-1)),(7,.int .u64 s.2.2),(6,.osl 11 0 xs.length)]) (fun s=>[(11,.arr .u32 s.2.1)]) ?_ ?_ ?_
 ·exact V.wk
 ·exact⟨jjc _,by simp,jb9 (by omega) _,⟨by simp,by dsimp only;omega⟩,by simp[val]⟩
 rintro⟨k,out,r⟩ ⟨h1,h2,h3,h4,h5⟩
 dsimp only at h1 h2 h3 h4 h5 ⊢
 (conv=>whnf)
 refine V.st ?_
 refine V.br (fun hq=>?_) (fun hq=>?_)
 ·rw[decide_eq_true_eq] at hq
  obtain⟨j,rfl⟩:∃ j,k=j+1:=⟨k-1,by omega⟩
  have hj:j<xs.length:=by omega
  have bx:=jam (by omega) hdx j
  generalize hx0:xs.getD j 0=x at *
  have e2:(((j+1:Nat):Int)-1)=(j:Int):=by omega
  have hb:0≤(r*1000000000+x)/(d:Int)∧(r*1000000000+x)/(d:Int)<1000000000∧0≤(r*1000000000+x)%(d:Int)∧(r*1000000000+x)%(d:Int)<d:=je8 (B:=1000000000) (by omega:(0:Int)<d) h4 bx
  have hst:=je7 (B:=1000000000) hj (by omega) hx0 h5 (t:=r*1000000000+x) rfl
  have hr0:0≤r*1000000000+x:=by omega
  refine V.r0 (V.a4 e2 @ji8 @jjb hx0) ?_
  exact⟨(j,out.set j ((r*1000000000+x)/d),(r*1000000000+x)%d),⟨by dsimp only;omega,by dsimp only;rw[jj3];exact h2,jd1 h3 ⟨hb.1,hb.2.1⟩,⟨hb.2.2.1,hb.2.2.2⟩,hst⟩,by dsimp only;omega,V.wk⟩
 ·rw[decide_eq_false_iff_not] at hq
  obtain rfl:k=0:=by omega
  rw[jj1,jj1,hvx] at h5
  have hvq:=jao h3
  obtain⟨w,hw⟩:∃ w:Nat,val 1000000000 out=w:=⟨(val 1000000000 out).toNat,by omega⟩
  obtain⟨r',rfl⟩:∃ r':Nat,r=r':=⟨r.toNat,by omega⟩
  rw[hw,← jjm] at h5
  have h6:a=w*d+r':=by omega
  have e8:a/d=w:=by rw[h6,Nat.add_comm,Nat.add_mul_div_right _ _ hd0,Nat.div_eq_of_lt (by omega),ji8]
  have e9:a%d=r':=by rw[h6,Nat.add_comm,Nat.add_mul_mod_self_right,jjh (by omega)]
  have hc:=jfO out h3 (by omega)
  rw[hw,jjb,← jj6 (l:=out),h2] at hc
  refine V.u1 hc ?_
  exact Fin.of (by rw[e8,e9])
theorem length_c (n:Nat)(hn:(mg 1000000000 n).length≤100000000):Cl 188 [.ints .u32 (mg 1000000000 n)] (.int .i64 (dec n).length):=by
 have hz:=jdt n
 have hdx:=mg_dg (B:=1000000000) (by omega) n
 have hvx:=jaH (B:=1000000000) (by omega) n
 have hlx:=jef (B:=1000000000) (n:=n) (by omega)
 have hnil:=jcl (B:=1000000000) (n:=n) (by omega)
 generalize mg 1000000000 n=xs at *
 refine V.en tbOk Tryz.func188 ?_
 refine V.u1 hz ?_
 refine V.br (fun hq=>?_) (fun hq=>?_)
 ·rw[decide_eq_true_eq] at hq
  subst hq
  (conv=>whnf)
  refine V.st ?_
  exact Fin.of rfl
 ·rw[decide_eq_false_iff_not] at hq
  obtain⟨j,hj⟩:∃ j,xs.length=j+1:=⟨xs.length-1,by
   have:xs≠[]:=fun e=>hq (hnil.1 e)
   have:=List.length_pos_iff.2 this
   omega⟩
  have bx:=jam (by omega) hdx j
  have hd:=jbI (B:=1000000000) (l:=xs) (k:=j) (by omega)
  have hnil2:xs.drop (j+1)=[]:=List.drop_eq_nil_of_le (by omega)
  rw[hnil2] at hd
  have hsp:=jbU 1000000000 xs j (by omega)
  have hlo:=jcg (jbv hdx j)
  have hlo0:=jao (jbv hdx j)
  rw[jjM,Nat.min_eq_left (by omega)] at hlo
  have hx1:xs.getD j 0≠0:=by
   refine hlx _ ?_
   rw[List.getLast?_eq_getElem?,hj,jjF,show j+1-1=j by omega,jjI (by omega)];rfl
  generalize hx0:xs.getD j 0=x at *
  obtain⟨d,rfl⟩:∃ d:Nat,x=d:=⟨x.toNat,by omega⟩
  rw[hd,hvx] at hsp
  obtain⟨w,hw⟩:∃ w:Nat,val 1000000000 (xs.take j)=w:=⟨(val 1000000000 (xs.take j)).toNat,by omega⟩
  have hnw:n=d*10^(9*j)+w:=by
   have e:((10^(9*j):Nat):Int)=((1000000000:Nat):Int)^j:=by rw[Nat.pow_mul,jjw]
   simp only[val,Int.mul_zero,jjv] at hsp
   rw[hw,← e,← jjm,jjg] at hsp
   omega
  have hwl:w<10^(9*j):=by
   rw[Nat.pow_mul]
   rw[hw,← jjw] at hlo
   exact_mod_cast hlo
  have hdp:=jic (a:=d) (by omega) (9*j) w hwl
  rw[← hnw] at hdp
  have hlen:(dec n).length=(dec d).length+9*j:=by rw[hdp,jjL,jec]
  have hi:=itoa_c (d:Int)
  have hdz:decZ (d:Int)=dec d:=by unfold decZ;rw[if_neg (by omega),jjr]
  rw[hdz] at hi
  have e1:((xs.length:Int)-1)=(j:Int):=by omega
  have hdl:=jfv d 9 (by omega) (by omega)
  (conv=>whnf)
  (try simp only[e1,jjb,hx0])
  repeat ((first|refine V.s1 ?_|((try ((with_reducible refine .ext ?_);(conv=>whnf);(try simp only[e1,jjb,hx0])));(with_reducible refine jaa (r:=?_) ?_ ?_);rotate_left;(focus (first|exact(hi)));(conv=>whnf)));(try simp only[e1,jjb,hx0]))
  exact Fin.of (by rw[hlen];congr 1;omega)
end Go.Proofs.YtbnghipgicmpdaaGreatDoor
end
section
namespace Go.Nb
structure Kn (B top v2 vr u2 ur head U V P:Int):Prop where
 hB:2≤B
 hP:1≤P
 ht:1≤top
 hv:V=(top*B+v2)*P+vr
 hu:U=(head*B+u2)*P+ur
 v20:0≤v2
 v2B:v2<B
 u20:0≤u2
 u2B:u2<B
 vr0:0≤vr
 vrP:vr<P
 ur0:0≤ur
 urP:ur<P
 hh:0≤head
 htB:top<B
 lt:U<B*V
section
variable {B top v2 vr u2 ur head U V P : Int}
theorem Kn.vpos (K:Kn B top v2 vr u2 ur head U V P):0<V:=by
 have h1:0≤top*B:=ji6 (by have:=K.ht;omega) (by have:=K.hB;omega)
 have h2:1*2≤top*B:=jjB K.ht K.hB (by omega) (by have:=K.ht;omega)
 have h3:1*1≤(top*B+v2)*P:=jjB (by have:=K.v20;omega) K.hP (by omega) (by have:=K.v20;omega)
 have:=K.hv
 have:=K.vr0
 omega
theorem Kn.ulo (K:Kn B top v2 vr u2 ur head U V P):head*B*P≤U∧U<(head+1)*B*P:=by
 have e:(head*B+u2)*P=head*B*P+u2*P:=jjx _ _ _
 have e2:(head+1)*B*P=head*B*P+B*P:=by rw[jjx,jjy,jjx]
 have h1:0≤u2*P:=ji6 K.u20 (by have:=K.hP;omega)
 have h2:(u2+1)*P≤B*P:=jji (by have:=K.u2B;omega) (by have:=K.hP;omega)
 rw[jjx,jjy] at h2
 have:=K.hu
 have:=K.ur0
 have:=K.urP
 omega
theorem Kn.vlo (K:Kn B top v2 vr u2 ur head U V P):top*B*P≤V∧V<(top+1)*B*P:=by
 have e:(top*B+v2)*P=top*B*P+v2*P:=jjx _ _ _
 have e2:(top+1)*B*P=top*B*P+B*P:=by rw[jjx,jjy,jjx]
 have h1:0≤v2*P:=ji6 K.v20 (by have:=K.hP;omega)
 have h2:(v2+1)*P≤B*P:=jji (by have:=K.v2B;omega) (by have:=K.hP;omega)
 rw[jjx,jjy] at h2
 have:=K.hv
 have:=K.vr0
 have:=K.vrP
 omega
theorem Kn.bp (K:Kn B top v2 vr u2 ur head U V P):0<B*P:=Int.mul_pos (by have:=K.hB;omega) (by have:=K.hP;omega)
theorem Kn.qlt (K:Kn B top v2 vr u2 ur head U V P){Q:Int}(h:Q*V≤U):Q<B:=
 Int.lt_of_mul_lt_mul_right (Int.lt_of_le_of_lt h K.lt) (Int.le_of_lt K.vpos)
theorem Kn.init (K:Kn B top v2 vr u2 ur head U V P){Q:Int}(hQ:0≤Q)(h:Q*V≤U):Q≤head/top:=by
 have ht:=K.ht
 refine(Int.le_ediv_iff_mul_le (by omega)).2 ?_
 rcases Int.lt_or_le head (Q*top) with hc|hc
 ·exfalso
  have h1:(head+1)*(B*P)≤Q*top*(B*P):=jji (by omega) (Int.le_of_lt K.bp)
  have h2:Q*(top*B*P)≤Q*V:=jjq K.vlo.1 hQ
  have h3:=K.ulo.2
  have e1:(head+1)*(B*P)=(head+1)*B*P:=(jjp _ _ _).symm
  have e2:Q*top*(B*P)=Q*(top*B*P):=by simp only[jjp]
  omega
 ·exact hc
theorem Kn.step (K:Kn B top v2 vr u2 ur head U V P){Q q r:Int}(hQ:0≤Q)(h:Q*V≤U)(hq:Q≤q)(hr:head=q*top+r)(hc:B≤q∨r*B+u2<q*v2):Q≤q-1:=by
 rcases hc with hc|hc
 ·have:=K.qlt h
  omega
 ·have hq0:0≤q:=by omega
  have h1:head*B+u2+1≤q*(top*B+v2):=by
   rw[hr,jjx,jjn,jjp]
   omega
  have h2:(head*B+u2+1)*P≤q*(top*B+v2)*P:=jji h1 (by have:=K.hP;omega)
  rw[jjx,jjy] at h2
  have h3:q*((top*B+v2)*P)≤q*V:=jjq (by have:=K.hv;have:=K.vr0;omega) hq0
  rw[← jjp] at h3
  have h4:Q*V<q*V:=by
   have:=K.hu
   have:=K.urP
   omega
  have:=Int.lt_of_mul_lt_mul_right h4 (Int.le_of_lt K.vpos)
  omega
theorem Kn.out1 (K:Kn B top v2 vr u2 ur head U V P){q r:Int}(hq0:0≤q)(hr:head=q*top+r)(h1:q<B)(h2:q*v2≤r*B+u2):(q-1)*V≤U:=by
 have h3:q*(top*B+v2)≤head*B+u2:=by
  rw[hr,jjx,jjn,jjp]
  omega
 have h4:q*(top*B+v2)*P≤(head*B+u2)*P:=jji h3 (by have:=K.hP;omega)
 have e1:q*V=q*(top*B+v2)*P+q*vr:=by rw[K.hv,jjn,jjp]
 have h5:q*vr≤B*P:=by
  have h6:q*vr≤B*vr:=jji (by omega) K.vr0
  have h7:B*vr≤B*P:=jjq (by have:=K.vrP;omega) (by have:=K.hB;omega)
  omega
 have h8:1*(B*P)≤top*(B*P):=jji K.ht (Int.le_of_lt K.bp)
 have e2:top*(B*P)=top*B*P:=(jjp _ _ _).symm
 have h9:=K.vlo.1
 have:=K.hu
 have:=K.ur0
 rw[Int.sub_mul,jjy]
 omega
theorem Kn.out2 (K:Kn B top v2 vr u2 ur head U V P){q r:Int}(hq0:0≤q)(hr:head=q*top+r)(h1:B≤r):q<B∧(q-1)*V≤U:=by
 have hlo:=K.ulo
 have vlo:=K.vlo
 have hbp:=K.bp
 -- the head is at most top * B + B - 1
 have h2:head<(top+1)*B:=by
  rcases Int.lt_or_le head ((top+1)*B) with h|h
  ·exact h
  ·exfalso
   have h3:(top+1)*B*(B*P)≤head*(B*P):=jji h (Int.le_of_lt hbp)
   have h4:B*V<B*((top+1)*B*P):=Int.mul_lt_mul_of_pos_left vlo.2 (by have:=K.hB;omega)
   have e1:(top+1)*B*(B*P)=B*((top+1)*B*P):=by ac_rfl
   have e2:head*(B*P)=head*B*P:=(jjp _ _ _).symm
   have:=K.lt
   omega
 rw[jjx,jjy] at h2
 have hqB:q<B:=by
  rcases Int.lt_or_le q B with h|h
  ·exact h
  ·exfalso
   have h3:B*top≤q*top:=jji h (by have:=K.ht;omega)
   rw[jjo B top] at h3
   omega
 refine⟨hqB,?_⟩
 have h5:q*top≤head-B:=by omega
 have h6:q*top*(B*P)≤(head-B)*(B*P):=jji h5 (Int.le_of_lt hbp)
 have h7:q*V≤q*((top+1)*B*P):=jjq (Int.le_of_lt vlo.2) hq0
 have h8:q*(B*P)≤B*(B*P):=jji (Int.le_of_lt hqB) (Int.le_of_lt hbp)
 have e1:q*((top+1)*B*P)=q*top*(B*P)+q*(B*P):=by
  rw[jjx,jjy,jjx,jjn]
  simp only[jjp]
 rw[Int.sub_mul] at h6
 have e2:head*(B*P)=head*B*P:=(jjp _ _ _).symm
 have:=K.vpos
 rw[Int.sub_mul,jjy]
 omega
end
end Go.Nb
end
section
namespace Go.Proofs.YtbnghipgicmpdaaGreatDoor
open Go Go.V Go.Nb
theorem red_a {P W V q c b mid wlo un:Int}(hP:0<P)(hV0:0<V)(hVP:V≤P)(hW:W=wlo+un*P)(hmid:mid-(c+b)*P=wlo-q*V)(hm0:0≤mid)(hq:W/V≤q)(h:c+b≤un):q=W/V∧mid=W%V:=by
 have h1:=ji5 W V
 have h2:=jju W hV0
 have h3:W-q*V=mid+(un-(c+b))*P:=by rw[Int.sub_mul];omega
 have h4:0≤(q-W/V)*V:=ji6 (by omega) (by omega)
 rw[Int.sub_mul,jjo (W/V)] at h4
 have h5:un-(c+b)=0:=by
  rcases Int.lt_or_le 0 (un-(c+b)) with h6|h6
  ·have h7:1*P≤(un-(c+b))*P:=jji (by omega) (by omega)
   omega
  ·omega
 rw[h5,Int.zero_mul,jjv] at h3
 have h8:q≤W/V:=(Int.le_ediv_iff_mul_le hV0).2 (by omega)
 have h9:q=W/V:=by omega
 refine⟨h9,?_⟩
 rw[h9,jjo] at h3
 omega
theorem red_b {P W V q c b mid mid2 over wlo un:Int}(hP:0<P)(hV0:0<V)(hVP:V≤P)(hW:W=wlo+un*P)(hmid:mid-(c+b)*P=wlo-q*V)(hm1:mid<P)(hq1:(q-1)*V≤W)(h:un<c+b)
  (h2:mid2+over*P=mid+V) (h20:0≤mid2) (h21:mid2<P):q-1=W/V∧mid2=W%V:=by
 have h1:=ji5 W V
 have h3:=jju W hV0
 have h30:=ji4 W (by omega:V≠0)
 have h4:W-q*V=mid+(un-(c+b))*P:=by rw[Int.sub_mul];omega
 have h5:1*P≤(c+b-un)*P:=jji (by omega) (by omega)
 have h6:(un-(c+b))*P = -((c+b-un)*P):=by rw[← Int.neg_mul];congr 1;omega
 have h7:q-1≤W/V:=(Int.le_ediv_iff_mul_le hV0).2 hq1
 have h8:W/V<q:=(Int.ediv_lt_iff_lt_mul hV0).2 (by omega)
 have h9:q-1=W/V:=by omega
 refine⟨h9,?_⟩
 have e1:W%V=mid2+(over+un-(c+b))*P:=by
  have e2:W%V=W-(q-1)*V:=by rw[h9,jjo];omega
  rw[e2,Int.sub_mul,jjy]
  have e3:(over+un-(c+b))*P=over*P+(un-(c+b))*P:=by rw[← jjx];congr 1;omega
  rw[e3];omega
 have e4:over+un-(c+b)=0:=by
  rcases Int.lt_trichotomy (over+un-(c+b)) 0 with g|g|g
  ·have:(over+un-(c+b))*P≤(-1)*P:=jji (by omega) (by omega)
   omega
  ·exact g
  ·have:1*P≤(over+un-(c+b))*P:=jji (by omega) (by omega)
   omega
 rw[e4,Int.zero_mul,jjv] at e1
 exact e1.symm
theorem red_step {B:Nat}{mid ul vl:List Int}{c b u d r c' b' q:Int}{i:Nat}(hi:mid.length=i)(h:val B mid-(c+b)*(B:Int)^i=val B ul-q*val B vl)(hs:r-B*(c'+b')=u-q*d-(c+b)) :
  val B (mid++[r])-(c'+b')*(B:Int)^(i+1)=(val B ul+(B:Int)^i*u)-q*(val B vl+(B:Int)^i*d):=by
 rw[ja0,hi,Int.pow_succ,jjn]
 generalize (B:Int)^i=P at *
 have e1:P*(r-B*(c'+b'))=P*r-(c'+b')*(P*B):=by rw[Int.mul_sub];congr 1;ac_rfl
 have e2:P*(u-q*d-(c+b))=P*u-q*(P*d)-(c+b)*P:=by rw[Int.mul_sub,Int.mul_sub];congr 1;congr 1;ac_rfl;ac_rfl
 rw[hs,e2] at e1
 omega
theorem jgG {u A mid:List Int}{k:Nat}{r:Int}(hk:A.length+mid.length=k)(h:k<u.length):(A++mid++u.drop k).set k r=A++(mid++[r])++u.drop (k+1):=by
 have e:(A++mid).length=k:=by rw[jjL];exact hk
 rw[List.set_append_right _ _ (by omega),e,Nat.sub_self,jjZ h,List.set_cons_zero]
 simp
theorem mid_get {u A mid:List Int}{k:Nat}(hk:A.length+mid.length=k):(A++mid++u.drop k).getD k 0=u.getD k 0:=by
 have e:(A++mid).length=k:=by rw[jjL];exact hk
 rw[jjF,List.getElem?_append_right (by omega),e,Nat.sub_self,List.getElem?_drop,jjF]
 rfl
theorem mid_drop {u A mid:List Int}{k:Nat}(hk:A.length+mid.length=k):(A++mid++u.drop k).drop k=u.drop k:=by
 have e:(A++mid).length=k:=by rw[jjL];exact hk
 rw[List.drop_append,e,Nat.sub_self,jjX (by omega)]
 simp
theorem getD_drop {u:List Int}{j i:Nat} : (u.drop j).getD i 0=u.getD (j+i) 0:=by
 rw[jjF,List.getElem?_drop,jjF]
theorem kn_of {B p j:Nat}{u v:List Int}{W V:Int}(hB:2≤B)(hu:Dg B u)(hv:Dg B v)(hlv:v.length=p+2)(hV:val B v=V)(hW:val B (u.drop j)=W)(hz:val B (u.drop (j+(p+2)+1))=0)(htop:1≤v.getD (p+1) 0)(hlt:W<B*V) :
  Kn B (v.getD (p+1) 0) (v.getD p 0) (val B (v.take p)) (u.getD (j+p) 0) (val B ((u.drop j).take p)) (u.getD (j+(p+2)) 0*B+u.getD (j+(p+1)) 0) W V ((B:Int)^p):=by
 have e1:V=(v.getD (p+1) 0*B+v.getD p 0)*(B:Int)^p+val B (v.take p):=by
  rw[← hV]
  conv=>lhs;rw[← jj6 (l:=v),hlv,jaj,jaj]
  rw[Int.pow_succ]
  generalize (B:Int)^p=P
  rw[jjx]
  have e:v.getD (p+1) 0*B*P=P*B*v.getD (p+1) 0:=by ac_rfl
  have e':v.getD p 0*P=P*v.getD p 0:=jjo _ _
  omega
 have e2:W=((u.getD (j+(p+2)) 0*B+u.getD (j+(p+1)) 0)*B+u.getD (j+p) 0)*(B:Int)^p+val B ((u.drop j).take p):=by
  have h1:val B (u.drop j)=val B ((u.drop j).take p)+(B:Int)^p*val B (u.drop (j+p)):=by
   rcases Nat.le_total p (u.drop j).length with h|h
   ·rw[jbU B (u.drop j) p h,List.drop_drop]
   ·have hz2:u.drop (j+p)=[]:=List.drop_eq_nil_of_le (by rw[jj0] at h;omega)
    rw[jjW h,hz2];simp[val]
  rw[← hW,h1,jbc B u (j+p),jbc B u (j+p+1),jbc B u (j+p+1+1)]
  rw[show j+p+1+1+1=j+(p+2)+1 by omega,hz,show j+p+1+1=j+(p+2) by omega,show j+p+1=j+(p+1) by omega]
  rw[Int.mul_zero,jjv]
  generalize (B:Int)^p=P
  rw[Int.add_comm,jjo P]
  congr 2
  rw[jjo (B:Int),jjo (B:Int),Int.add_comm,Int.add_comm (u.getD (j+(p+1)) 0)]
 have b1:=jam (by omega) hv (p+1)
 have b2:=jam (by omega) hv p
 have b3:=jam (by omega) hu (j+p)
 have b4:=jam (by omega) hu (j+(p+1))
 have b5:=jam (by omega) hu (j+(p+2))
 have l1:=jcr hB hv p
 have l2:=jcr hB (jbk hu j) p
 have l3:=jao (jbv hv p)
 have l4:=jao (jbv (jbk hu j) p)
 have l5:=jdJ hB p
 have l6:0≤u.getD (j+(p+2)) 0*(B:Int):=ji6 b5.1 (by omega)
 exact { hB:=by omega,hP:=by omega,ht:=htop,hv:=e1,hu:=e2,v20:=b2.1,v2B:=b2.2,u20:=b3.1,u2B:=b3.2,vr0:=l3,vrP:=l1,ur0:=l4,urP:=l2,hh:=by omega,htB:=b1.2,lt:=hlt }
theorem div_inv {B p j:Nat}{u q mid:List Int}{Qd W VV M:Int}(hB:2≤B)(hj:j<q.length)(hju:j+(p+2)<u.length)(hmid:mid.length=p+2)(hdu:Dg B u)(hdm:Dg B mid)(h6:val B (u.drop (j+(p+2)+1))=0)
  (hW:val B (u.drop j)=W) (hV0:0<VV) (hm:val B mid=W%VV) (hQ:Qd=W/VV) (h8:M=val B (q.drop (j+1))*(B:Int)^(j+1)*VV+val B u) :
  (u.take j++(mid++[0])++u.drop (j+(p+2)+1)).length=u.length∧Dg B (u.take j++(mid++[0])++u.drop (j+(p+2)+1))∧val B ((u.take j++(mid++[0])++u.drop (j+(p+2)+1)).drop (j+(p+2)))=0 ∧
  val B ((u.take j++(mid++[0])++u.drop (j+(p+2)+1)).drop j)<VV∧M=val B ((q.set j Qd).drop j)*(B:Int)^j*VV+val B (u.take j++(mid++[0])++u.drop (j+(p+2)+1)):=by
 have hA:(u.take j).length=j:=by rw[jjM];omega
 have hl:(u.take j++(mid++[0])++u.drop (j+(p+2)+1)).length=u.length:=by
  simp only[jjL,jjM,jj0,List.length_singleton,hmid];omega
 have hd:Dg B (u.take j++(mid++[0])++u.drop (j+(p+2)+1)):=jai (jai (jbv hdu _) (jai hdm (jay (by omega)))) (jbk hdu _)
 have hz:∀ P:Int,val B (mid++[0]++u.drop (j+(p+2)+1))=val B mid:=fun _=>by
  rw[jbP,h6,Int.mul_zero,jjv,ja0,Int.mul_zero,jjv]
 have e1:(u.take j++(mid++[0])++u.drop (j+(p+2)+1)).drop j=mid++[0]++u.drop (j+(p+2)+1):=by
  rw[jjN,List.drop_append,hA,Nat.sub_self,jjX (by omega)];rfl
 have e2:(u.take j++(mid++[0])++u.drop (j+(p+2)+1)).drop (j+(p+2))=[0]++u.drop (j+(p+2)+1):=by
  rw[← List.drop_drop,e1,jjN,List.drop_append,hmid,Nat.sub_self,jjX (by omega)];rfl
 have hr:=jju W hV0
 refine⟨hl,hd,?_,?_,?_⟩
 ·rw[e2,jbP,h6];simp[val]
 ·rw[e1,hz 0,hm];exact hr
 ·have v1:=jbU B u j (by omega)
  rw[hW] at v1
  have v2:val B (u.take j++(mid++[0])++u.drop (j+(p+2)+1))=val B (u.take j)+(B:Int)^j*(W%VV):=by
   rw[jjN,jbP,hA,hz 0,hm]
  have v3:=jbI (B:=B) (l:=q.set j Qd) (k:=j) (by rw[jj3];exact hj)
  rw[jfk hj,jfo (l:=q) (i:=j) (k:=j+1) (by omega)] at v3
  rw[h8,v2,v3,v1,hQ,Int.pow_succ]
  have v4:=ji5 W VV
  generalize W/VV=Q at *
  generalize W%VV=R at *
  generalize (B:Int)^j=P
  generalize val B (q.drop (j+1))=q1
  rw[← v4,jjn,jjx,jjx]
  have w1:q1*(P*(B:Int))*VV=(B:Int)*q1*P*VV:=by ac_rfl
  have w2:P*(VV*Q)=Q*P*VV:=by ac_rfl
  rw[w1,w2]
  omega
theorem jh7 (a b:Nat)(h:a<b)(ha:(mg 1000000000 a).length≤100000000)(hb:(mg 1000000000 b).length≤100000000):Cl 187 [.ints .u32 (mg 1000000000 a),.ints .u32 (mg 1000000000 b)] (.tup [.ints .u32 (mg 1000000000 (a/b)),.ints .u32 (mg 1000000000 (a%b))]):=by
 have hc:=jco a b ha hb
 rw[jjz (by omega)] at hc
 rw[Nat.div_eq_of_lt h,jjh h,jcx]
 refine V.en tbOk Tryz.func187 ?_
 refine V.u1 hc ?_
 exact Fin.tup ⟨Fin.nil _,Fin.of rfl,trivial⟩
theorem divide_one (a b:Nat)(h:b≤a)(hb:0<b)(hb1:b<1000000000)(ha:(mg 1000000000 a).length≤100000000):Cl 187 [.ints .u32 (mg 1000000000 a),.ints .u32 (mg 1000000000 b)] (.tup [.ints .u32 (mg 1000000000 (a/b)),.ints .u32 (mg 1000000000 (a%b))]):=by
 have hc:=jco a b ha (by have:=jah (B:=1000000000) (by omega) h;omega)
 have hmb:mg 1000000000 b=[(b:Int)]:=by
  rw[jck (by omega) hb,jjh hb1,Nat.div_eq_of_lt hb1];rfl
 have hs0:0≤((a:Int)-b).sign:=Int.sign_nonneg_iff.2 (by omega)
 generalize ((a:Int)-b).sign=sg at *
 have hsh:=short_c a b ha hb (by omega)
 have hlt:a%b<b:=jjf _ hb
 have hfs:=jdq (a%b) (by omega)
 rw[hmb] at hc ⊢
 refine V.en tbOk Tryz.func187 ?_
 refine V.u1 hc ?_
 refine Cnd.no (by rw[decide_eq_false_iff_not];omega) ?_
 (conv=>whnf)
 refine V.st ?_
 refine Cnd.yes (by simp) ?_
 refine V.u2 hsh hfs ?_
 exact Fin.of rfl
theorem jio:type_of% @jjb∧type_of% @ji8:=⟨@jjb,@ji8⟩
theorem jh6 (a b:Nat)(h:b≤a)(hb1:1000000000≤b)(ha:(mg 1000000000 a).length≤90000000):Cl 187 [.ints .u32 (mg 1000000000 a),.ints .u32 (mg 1000000000 b)] (.tup [.ints .u32 (mg 1000000000 (a/b)),.ints .u32 (mg 1000000000 (a%b))]):=by
 have hlen:=jah (B:=1000000000) (by omega) h
 have hc:=jco a b (by omega) (by omega)
 have hs0:0≤((a:Int)-b).sign:=Int.sign_nonneg_iff.2 (by omega)
 generalize ((a:Int)-b).sign=sg at *
 obtain⟨p,hp⟩:∃ p,(mg 1000000000 b).length=p+2:=by
  have:=jah (B:=1000000000) (by omega) hb1
  have e:mg 1000000000 1000000000=[0,1]:=by rfl
  rw[e] at this
  exact⟨(mg 1000000000 b).length-2,by simp at this;omega⟩
 -- the scale
 have hdb:=mg_dg (B:=1000000000) (by omega) b
 have hvb:=jaH (B:=1000000000) (by omega) b
 have hlb:=jef (B:=1000000000) (n:=b) (by omega)
 have hlt1:=jaM (B:=1000000000) (n:=a) (by omega)
 have ht0:=jam (by omega) hdb (p+1)
 have ht1:(mg 1000000000 b).getD (p+1) 0≠0:=by
  refine hlb _ ?_
  rw[List.getLast?_eq_getElem?,hp,jjF,show p+2-1=p+1 by omega,jjI (by omega)];rfl
 generalize hts:(mg 1000000000 b).getD (p+1) 0=t at *
 obtain⟨t,rfl⟩:∃ t':Nat,t=t':=⟨t.toNat,by omega⟩
 obtain⟨s,hs⟩:∃ s:Nat,1000000000/((t:Int)+1)=s:=⟨(1000000000/((t:Int)+1)).toNat,by have:=ji3 (a:=1000000000) (b:=(t:Int)+1) (by omega) (by omega);omega⟩
 have hs1:1≤s∧s<1000000000∧s*(t+1)≤1000000000:=by
  have e1:s=1000000000/(t+1):=by
   have:((1000000000/(t+1):Nat):Int)=1000000000/((t:Int)+1):=by rw[Int.natCast_ediv];rfl
   omega
  refine⟨?_,?_,?_⟩
  ·rw[e1];exact(Nat.le_div_iff_mul_le (by omega)).2 (by omega)
  ·rw[e1];exact Nat.div_lt_of_lt_mul (by omega)
  ·rw[e1];exact Nat.div_mul_le_self _ _
 have hms:mg 1000000000 s=[(s:Int)]:=by
  rw[jck (by omega) (by omega),jjh (by omega),Nat.div_eq_of_lt (by omega)];rfl
 have htm1:=jcJ b s (by omega) (by rw[hms];simp)
 have htm2:=jcJ a s (by omega) (by rw[hms];simp)
 rw[hms] at htm1 htm2
 -- the divisor, scaled
 have hbt:b<(t+1)*1000000000^(p+1)∧t*1000000000^(p+1)≤b:=by
  have h1:=jdw (B:=1000000000) (by omega) hdb (p+1)
  rw[jbc,hts,List.drop_eq_nil_of_le (by omega),hvb] at h1
  simp only[val,Int.mul_zero,jjv] at h1
  have e:((1000000000:Nat):Int)^(p+1)=((1000000000^(p+1):Nat):Int):=by rw[jjw]
  rw[e] at h1
  have e1:((t:Int)+1)=((t+1:Nat):Int):=by omega
  rw[e1,← jjm,← jjm] at h1
  omega
 have hPp:0<1000000000^(p+1):=Nat.pow_pos (by omega)
 have hVlt:b*s<1000000000^(p+2):=by
  have h1:b*s<(t+1)*1000000000^(p+1)*s:=Nat.mul_lt_mul_of_pos_right hbt.1 (by omega)
  have h2:s*(t+1)*1000000000^(p+1)≤1000000000*1000000000^(p+1):=Nat.mul_le_mul_right _ hs1.2.2
  have e1:(t+1)*1000000000^(p+1)*s=s*(t+1)*1000000000^(p+1):=by ac_rfl
  rw[Nat.pow_succ 1000000000 (p+1),jjg (1000000000^(p+1))]
  omega
 have hVge:s*1000000000^(p+1)≤b*s:=by
  have h1:1*1000000000^(p+1)≤t*1000000000^(p+1):=Nat.mul_le_mul_right _ (by omega)
  rw[jjg b]
  exact Nat.mul_le_mul_left _ (by omega)
 have hVl:(mg 1000000000 (b*s)).length=p+2:=by
  have h1:=jax (B:=1000000000) (n:=b*s) (k:=p+2) (by omega) hVlt
  rcases jjk (mg 1000000000 (b*s)).length (p+2) with h2|h2
  ·have h3:=jaM (B:=1000000000) (n:=b*s) (by omega)
   have h4:1000000000^(mg 1000000000 (b*s)).length≤1000000000^(p+1):=jjs (by omega) (by omega)
   have h5:1*1000000000^(p+1)≤s*1000000000^(p+1):=Nat.mul_le_mul_right _ hs1.1
   omega
  ·omega
 have hdV:=mg_dg (B:=1000000000) (by omega) (b*s)
 have hvV:=jaH (B:=1000000000) (by omega) (b*s)
 have hlV:=jef (B:=1000000000) (n:=b*s) (by omega)
 have htV:(mg 1000000000 (b*s)).getD (p+1) 0≠0:=by
  refine hlV _ ?_
  rw[List.getLast?_eq_getElem?,hVl,jjF,show p+2-1=p+1 by omega,jjI (by omega)];rfl
 have hM:(mg 1000000000 (a*s)).length≤(mg 1000000000 a).length+1:=by
  have:=jbR (B:=1000000000) (by omega) a s
  rw[hms] at this
  simpa using this
 have hdM:=mg_dg (B:=1000000000) (by omega) (a*s)
 have hvM:=jaH (B:=1000000000) (by omega) (a*s)
 have hMlt:a*s<s*1000000000^(mg 1000000000 a).length:=by
  rw[jjg];exact Nat.mul_lt_mul_of_pos_left hlt1 (by omega)
 generalize hmb:mg 1000000000 b=bs at *
 generalize hma:mg 1000000000 a=xs at *
 generalize hmV:mg 1000000000 (b*s)=vs at *
 generalize hmM:mg 1000000000 (a*s)=ms at *
 have e1:((bs.length:Int)-1).toNat=p+1:=by omega
 obtain⟨N,hN⟩:∃ N,N=xs.length+1:=⟨_,rfl⟩
 obtain⟨L,hL⟩:∃ L,L=xs.length-vs.length:=⟨_,rfl⟩
 obtain⟨L1,hL1⟩:∃ L1,L1=L+1:=⟨_,rfl⟩
 have e2:(xs.length:Int)+1=(N:Int):=by omega
 have e3:(xs.length:Int)-((p+2:Nat):Int)=(L:Int):=by omega
 have e4:(L:Int)+1=(L1:Int):=by omega
 refine V.en tbOk Tryz.func187 ?_
 refine V.u1 hc ?_
 refine Cnd.no (by rw[decide_eq_false_iff_not];omega) ?_
 (conv=>whnf)
 refine V.st ?_
 refine Cnd.no (by rw[decide_eq_false_iff_not];omega) ?_
 (conv=>whnf)
 (try simp only[e1,e2,e3,e4,hts,hs,hVl,jjb])
 repeat ((first|refine V.s1 ?_|((try ((with_reducible refine .ext ?_);(conv=>whnf);(try simp only[e1,e2,e3,e4,hts,hs,hVl,jjb])));(with_reducible refine jaa (r:=?_) ?_ ?_);rotate_left;(focus (first|exact(htm1)|exact(htm2)));(conv=>whnf)));(try simp only[e1,e2,e3,e4,hts,hs,hVl,jjb]))
 have hu0:setAt (List.replicate N 0) 0 (List.take N ms)=ms++List.replicate (N-ms.length) 0:=by
  unfold setAt
  rw[List.take_zero,jjS,jjW (l:=ms) (by omega),ji8,List.drop_replicate]
 have hu0v:val 1000000000 (ms++List.replicate (N-ms.length) 0)=(a*s:Nat):=by
  rw[jbP,jeR,Int.mul_zero,jjv,hvM]
 simp only[hu0]
 refine jad ((L1,ms++List.replicate (N-ms.length) 0,List.replicate L1 0):Nat×List Int×List Int) (fun x=>x.1≤L1∧x.2.1.length=N∧Dg 1000000000 x.2.1∧x.2.2.length=L1∧Dg 1000000000 x.2.2∧val 1000000000 (x.2.1.drop (x.1+(p+2)))=0∧val 1000000000 (x.2.1.drop x.1)<(b*s:Nat)∧((a*s:Nat):Int)=val 1000000000 (x.2.2.drop x.1)*((1000000000:Nat):Int)^x.1*(b*s:Nat)+val 1000000000 x.2.1) (fun x=>x.1)
  (fun x=>[(12,.int .i64 ((x.1:Int)-1)),(4,.osl 62 0 L1),(10,.osl 48 0 N)]) (fun x=>[(62,.arr .u32 x.2.2),(48,.arr .u32 x.2.1)]) ?_ ?_ ?_
 ·rw[show ((L1:Int)-1)=(L:Int) by omega]
  exact V.wk
 ·refine⟨jjc _,by simp;omega,jai hdM (jb9 (by omega) _),by simp,jb9 (by omega) _,?_,?_,?_⟩
  ·dsimp only
   rw[jjX (by simp;omega)];rfl
  ·dsimp only
   have h1:=jdw (B:=1000000000) (by omega) (jai hdM (jb9 (by omega) (N-ms.length))) L1
   rw[hu0v] at h1
   generalize val 1000000000 ((ms++List.replicate (N-ms.length) 0).drop L1)=z at *
   have h2:((1000000000:Nat):Int)^L1=((1000000000^L1:Nat):Int):=by rw[jjw]
   have h3:0<1000000000^L1:=Nat.pow_pos (by omega)
   have h4:a*s<(s*1000000000^(p+1))*1000000000^L1:=by
    rw[Nat.mul_assoc,← Nat.pow_add,show p+1+L1=xs.length by omega];exact hMlt
   have h5:(s*1000000000^(p+1))*1000000000^L1≤(b*s)*1000000000^L1:=Nat.mul_le_mul_right _ hVge
   rw[h2] at h1
   refine Int.lt_of_mul_lt_mul_right (a:=((1000000000^L1:Nat):Int)) ?_ (by omega)
   rw[← jjm]
   omega
  ·dsimp only
   rw[jjX (by simp),hu0v];simp[val]
 rintro⟨k,u,q⟩ ⟨h1,h2,h3,h4,h5,h6,h7,h8⟩
 dsimp only at h1 h2 h3 h4 h5 h6 h7 h8 ⊢
 (conv=>whnf)
 refine V.st ?_
 refine V.br (fun hq=>?_) (fun hq=>?_)
 ·rw[decide_eq_true_eq] at hq
  obtain⟨j,rfl⟩:∃ j,k=j+1:=⟨k-1,by omega⟩
  have f1:(((j+1:Nat):Int)-1)=(j:Int):=by omega
  have f2:(j:Int)+((p+2:Nat):Int)=((j+(p+2):Nat):Int):=by omega
  have f4:((j+(p+2):Nat):Int)+1=((j+(p+3):Nat):Int):=by omega
  have f5:j+(p+3)-j=p+3:=by omega
  have f6:((p+2:Nat):Int)-1=((p+1:Nat):Int):=by omega
  have f7:((p+2:Nat):Int)-2=((p:Nat):Int):=by omega
  -- what is looked at
  obtain⟨W,hW⟩:∃ W,val 1000000000 (u.drop j)=W:=⟨_,rfl⟩
  obtain⟨VV,hVV⟩:∃ VV:Int,((b*s:Nat):Int)=VV:=⟨_,rfl⟩
  rw[hVV] at h7 h8 hvV
  have bv1:=jam (by omega) hdV (p+1)
  have bu:=jam (by omega) h3 j
  have hWlt:W<1000000000*VV:=by
   rw[jbc] at hW;omega
  have hkn:=kn_of (B:=1000000000) (p:=p) (j:=j) (u:=u) (v:=vs) (W:=W) (V:=VV) (by omega) h3 hdV hVl hvV hW (by rw[show j+(p+2)+1=j+1+(p+2) by omega];exact h6) (by omega) hWlt
  have hVpos:=hkn.vpos
  have hW0:0≤W:=by rw[← hW];exact jao (jbk h3 j)
  have b1:=jam (by omega) h3 (j+(p+2))
  have b2:=jam (by omega) h3 (j+(p+1))
  have b3:=jam (by omega) h3 (j+p)
  have b4:=jam (by omega) hdV p
  generalize hg1:u.getD (j+(p+2)) 0=un at *
  generalize hg2:u.getD (j+(p+1)) 0=u1 at *
  generalize hg3:u.getD (j+p) 0=u0 at *
  generalize hg4:vs.getD (p+1) 0=vt at *
  generalize hg5:vs.getD p 0=v2 at *
  refine V.r0 (V.a7 jio f1 f2 f4 f5 f6 f7) ?_
  refine V.il Tryz.func220 ?_
  (conv=>whnf)
  (conv=>whnf)
  (try simp only[jio,f1,f2,f4,f5,f6,f7,hVl,hg4])
  repeat ((first|refine V.s1 ?_);(try simp only[jio,f1,f2,f4,f5,f6,f7,hVl,hg4]))
  refine⟨(V.tk [0,1,2,3,4,5,6,7,8,9,10,11,12,13] .done),[],V.pok,.go (jac ?_)⟩
  (conv=>whnf)
  (try simp only[jio,f1,f2,f4,f5,f6,f7,hVl,hg1,hg2])
  repeat ((first|refine V.s1 ?_);(try simp only[jio,f1,f2,f4,f5,f6,f7,hVl,hg1,hg2]))
  refine⟨(V.tk [0,1,2,3,4,5,6,7] .done),[],V.pok,.go (jac ?_)⟩
  (conv=>whnf)
  (try simp only[jio,f1,f2,f4,f5,f6,f7,hVl,hg1,hg2])
  repeat ((first|refine V.s1 ?_);(try simp only[jio,f1,f2,f4,f5,f6,f7,hVl,hg1,hg2]))
  have hkn':Kn 1000000000 vt v2 (val 1000000000 (vs.take p)) u0 (val 1000000000 ((u.drop j).take p)) (un*1000000000+u1) W VV (((1000000000:Nat):Int)^p):=hkn
  have hQ0:0≤W/VV:=ji3 hW0 (by omega)
  have hQm:W/VV*VV≤W:=Int.ediv_mul_le _ (by omega)
  have hQi:=hkn'.init hQ0 hQm
  have hhd:0≤un*1000000000+u1∧un*1000000000+u1<1000000000000000000:=by omega
  generalize hHD:un*1000000000+u1=HD at *
  refine jbA (β:=Int×Int) 0 (fun y=>0≤y.1∧y.1<1000000000∧(y.1-1)*VV≤W∧W/VV≤y.1) (fun y=>[(8,.int .u64 y.1),(9,.int .u64 y.2)]) (fun _=>[]) ?_ ?_
  ·refine jad ((HD/vt,HD%vt):Int×Int) (fun y=>HD=y.1*vt+y.2∧(0≤y.2∧y.2<1000000000)∧W/VV≤y.1) (fun y=>y.1.toNat) (fun y=>[(8,.int .u64 y.1),(9,.int .u64 y.2)]) (fun _=>[]) ?_ ?_ ?_
   ·exact V.wk
   ·have hvtp:(0:Int)<vt:=by omega
    refine⟨by dsimp only;have:=ji5 HD vt;rw[jjo];omega,⟨ji4 _ (by omega),?_⟩,hQi⟩
    have:=jju HD hvtp
    dsimp only;omega
   rintro⟨qq,r⟩ ⟨i1,i2,i3⟩
   dsimp only at i1 i2 i3 ⊢
   have hqv:qq<1000000000→0≤qq*v2∧qq*v2≤999999999*999999999:=fun h=>⟨ji6 (by omega) (by omega),jjB (by omega) (by omega) (by omega) (by omega)⟩
   refine V.r0 (V.a8 jio f1 f2 f4 f5 f6 f7 hVl) ?_
   refine⟨(V.tk [0,1,2,3,4,5,6,7,8,9,10,11,12,13,14,15,16,17,18,19,20,21] .done),[],V.pok,.go (jac ?_)⟩
   (conv=>whnf)
   (try simp only[jio,f1,f2,f4,f5,f6,f7,hVl,hg5,hg3])
   repeat ((first|refine V.s1 ?_);(try simp only[jio,f1,f2,f4,f5,f6,f7,hVl,hg5,hg3]))
   refine Or.inl (And.intro (fun h _ _=>?_) ?_)
   ·have h9:=hqv (by simpa using h)
    exact⟨by simp only[V.lo];omega,by simp only[V.hi];omega⟩
   (conv=>whnf)
   (try simp only[jio,f1,f2,f4,f5,f6,f7,hVl,hg5,hg3])
   repeat ((first|refine V.s1 ?_);(try simp only[jio,f1,f2,f4,f5,f6,f7,hVl,hg5,hg3]))
   refine V.br (fun hq5=>?_) (fun hq5=>?_)
   ·rw[Bool.or_eq_true,decide_eq_true_eq,decide_eq_true_eq] at hq5
    have hst:=hkn'.step hQ0 hQm i3 i1 (by omega)
    have hqpos:1≤qq:=by omega
    have hrec:HD=(qq-1)*vt+(r+vt):=by rw[Int.sub_mul,jjy];omega
    refine V.r0 (V.a8 jio f1 f2 f4 f5 f6 f7 hVl) ?_
    refine V.br (fun hq6=>?_) (fun hq6=>?_)
    ·rw[decide_eq_true_eq] at hq6
     have ho:=hkn'.out2 (q:=qq-1) (r:=r+vt) (by omega) hrec hq6
     refine V.r0 (V.a8 jio f1 f2 f4 f5 f6 f7 hVl) ?_
     exact⟨(qq-1,r+vt),⟨by dsimp only;omega,ho.1,ho.2,hst⟩,V.wk⟩
    ·rw[decide_eq_false_iff_not] at hq6
     refine V.r0 (V.a8 jio f1 f2 f4 f5 f6 f7 hVl) ?_
     exact⟨(qq-1,r+vt),⟨hrec,by dsimp only;omega,hst⟩,by dsimp only;omega,V.wk⟩
   ·rw[jjl,decide_eq_false_iff_not,decide_eq_false_iff_not] at hq5
    have ho:=hkn'.out1 (q:=qq) (r:=r) (by omega) i1 (by omega) (by omega)
    refine V.r0 (V.a8 jio f1 f2 f4 f5 f6 f7 hVl) ?_
    exact⟨(qq,r),⟨by dsimp only;omega,by dsimp only;omega,ho,i3⟩,V.wk⟩
  ·rintro⟨qq,r⟩ ⟨i1,i2,i3,i4⟩
   dsimp only at i1 i2 i3 i4 ⊢
   refine V.r0 (V.a8 jio f1 f2 f4 f5 f6 f7 hVl) ?_
   have hAl:(u.take j).length=j:=by rw[jjM];omega
   have hnl:u.take j++[]++u.drop (j+0)=u:=by rw[List.append_nil,ji9,List.take_append_drop]
   refine jad ((0,[],0,0):Nat×List Int×Int×Int) (fun y=>y.1≤p+2∧y.2.1.length=y.1∧Dg 1000000000 y.2.1∧(0≤y.2.2.1∧y.2.2.1<1000000000)∧(0≤y.2.2.2∧y.2.2.2≤1)∧val 1000000000 y.2.1-(y.2.2.1+y.2.2.2)*((1000000000:Nat):Int)^y.1=val 1000000000 ((u.drop j).take y.1)-qq*val 1000000000 (vs.take y.1)) (fun y=>p+2-y.1)
    (fun y=>[(77,.int .i64 y.1),(10,.int .u64 y.2.2.1),(11,.int .i64 y.2.2.2)]) (fun y=>[(48,.arr .u32 (u.take j++y.2.1++u.drop (j+y.1)))]) ?_ ?_ ?_
   ·rw[hnl]
    exact V.wk
   ·exact⟨ji2 _,rfl,fun x hx=>by simp at hx,by simp,by simp,by simp[val]⟩
   rintro⟨i,mid,c,bw⟩ ⟨g1,g2,g3,g4,g5,g6⟩
   dsimp only at g1 g2 g3 g4 g5 g6 ⊢
   have hvu:=jaj 1000000000 (u.drop j) i
   have hvv:=jaj 1000000000 vs i
   rw[getD_drop] at hvu
   have bd:=jam (by omega) hdV i
   have bui:=jam (by omega) h3 (j+i)
   have hcl:(u.take j++mid++u.drop (j+i)).length=N:=by
    rw[jjL,jjL,hAl,g2,jj0];omega
   have hcg:=mid_get (u:=u) (A:=u.take j) (mid:=mid) (k:=j+i) (by omega)
   refine V.r0 (V.a8 jio f1 f2 f4 f5 f6 f7 hVl) ?_
   refine V.br (fun hw=>?_) (fun hw=>?_)
   ·rw[decide_eq_true_eq] at hw
    have hms2:=fun r=>jgG (u:=u) (A:=u.take j) (mid:=mid) (k:=j+i) (r:=r) (by omega) (by omega)
    generalize hd0:vs.getD i 0=d at *
    generalize hui:u.getD (j+i) 0=ui at *
    have hqd:0≤qq*d∧qq*d≤999999999*999999999:=⟨ji6 (by omega) (by omega),jjB (by omega) (by omega) (by omega) (by omega)⟩
    have hki:((i:Int)+1)=((i+1:Nat):Int):=by omega
    have hai:j+i+1=j+(i+1):=by omega
    generalize hqd0:qq*d=qd at *
    (conv=>whnf)
    (try simp only[jio,f1,f2,f4,f5,f6,f7,hVl,hd0,hcg,hki,hqd0])
    repeat ((first|refine V.s1 ?_);(try simp only[jio,f1,f2,f4,f5,f6,f7,hVl,hd0,hcg,hki,hqd0]))
    refine V.br (fun hneg=>?_) (fun hneg=>?_)
    ·rw[decide_eq_true_eq] at hneg
     have hst:=red_step (B:=1000000000) (q:=qq) (d:=d) (u:=ui) (r:=ui-bw-(c+qd)%1000000000+1000000000) (c':=(c+qd)/1000000000) (b':=1) g2 g6 (by rw[hqd0];have:=ji5 (c+qd) 1000000000;omega)
     rw[← hvu,← hvv] at hst
     (conv=>whnf)
     (try simp only[jio,f1,f2,f4,f5,f6,f7,hVl,hd0,hcg,hki,hms2,hai])
     repeat ((first|refine V.s1 ?_);(try simp only[jio,f1,f2,f4,f5,f6,f7,hVl,hd0,hcg,hki,hms2,hai]))
     exact⟨(i+1,mid++[ui-bw-(c+qd)%1000000000+1000000000],(c+qd)/1000000000,1),⟨by dsimp only;omega,by simp[g2],jai g3 (jay (by omega)),by dsimp only;omega,by simp,hst⟩,by dsimp only;omega,V.wk⟩
    ·rw[decide_eq_false_iff_not] at hneg
     have hst:=red_step (B:=1000000000) (q:=qq) (d:=d) (u:=ui) (r:=ui-bw-(c+qd)%1000000000) (c':=(c+qd)/1000000000) (b':=0) g2 g6 (by rw[hqd0];have:=ji5 (c+qd) 1000000000;omega)
     rw[← hvu,← hvv] at hst
     (conv=>whnf)
     (try simp only[jio,f1,f2,f4,f5,f6,f7,hVl,hd0,hcg,hki,hms2,hai])
     repeat ((first|refine V.s1 ?_);(try simp only[jio,f1,f2,f4,f5,f6,f7,hVl,hd0,hcg,hki,hms2,hai]))
     exact⟨(i+1,mid++[ui-bw-(c+qd)%1000000000],(c+qd)/1000000000,0),⟨by dsimp only;omega,by simp[g2],jai g3 (jay (by omega)),by dsimp only;omega,by simp,hst⟩,by dsimp only;omega,V.wk⟩
   ·rw[decide_eq_false_iff_not] at hw
    obtain rfl:i=p+2:=by omega
    rw[hg1] at hcg
    (conv=>whnf)
    (try simp only[jio,f1,f2,f4,f5,f6,f7,hVl,hcg])
    repeat ((first|refine V.s1 ?_);(try simp only[jio,f1,f2,f4,f5,f6,f7,hVl,hcg]))
    have h6':val 1000000000 (u.drop (j+(p+2)+1))=0:=by rw[show j+(p+2)+1=j+1+(p+2) by omega];exact h6
    have hWs:W=val 1000000000 ((u.drop j).take (p+2))+un*((1000000000:Nat):Int)^(p+2):=by
     have k1:=jbU 1000000000 (u.drop j) (p+2) (by rw[jj0];omega)
     rw[hW,List.drop_drop,jbc 1000000000 u (j+(p+2)),h6',hg1,Int.mul_zero,jjv,jjo] at k1
     exact k1
    have hvsV:val 1000000000 (vs.take (p+2))=VV:=by rw[← hVl,jj6,hvV]
    rw[hvsV] at g6
    have hPn:(0:Int)<((1000000000:Nat):Int)^(p+2):=jdJ (by omega) _
    have hVP:VV≤((1000000000:Nat):Int)^(p+2):=by
     have k1:((b*s:Nat):Int)<((1000000000^(p+2):Nat):Int):=by exact_mod_cast hVlt
     rw[jjw] at k1
     omega
    have hm0:=jao g3
    have hm1:=jcg g3
    rw[g2] at hm1
    have hsetz:=jgG (u:=u) (A:=u.take j) (mid:=mid) (k:=j+(p+2)) (r:=0) (by omega) (by omega)
    refine V.br (fun hc2=>?_) (fun hc2=>?_)
    ·rw[decide_eq_true_eq] at hc2
     have hq1:1≤qq:=by
      rcases Int.lt_or_le qq 1 with k0|k0
      ·obtain rfl:qq=0:=by omega
       exfalso
       rw[Int.zero_mul,Int.sub_zero] at g6
       have k3:0≤val 1000000000 ((u.drop j).take (p+2)):=jao (jbv (jbk h3 j) _)
       rcases Int.lt_or_le 0 (c+bw) with k4|k4
       ·have k5:1*((1000000000:Nat):Int)^(p+2)≤(c+bw)*((1000000000:Nat):Int)^(p+2):=jji (by omega) (by omega)
        omega
       ·omega
      ·exact k0
     have hml:(u.take j++mid++u.drop (j+(p+2))).length=N:=by
      rw[jjL,jjL,hAl,g2,jj0];omega
     obtain⟨w,hw1⟩:∃ w,w=u.take j++mid++u.drop (j+(p+2)):=⟨_,rfl⟩
     have hwd:w.drop (j+(p+2))=u.drop (j+(p+2)):=by rw[hw1];exact mid_drop (by omega)
     have hwg:∀ i,i<p+2→w.getD (j+i) 0=mid.getD i 0:=fun i hi=>by
      rw[hw1,jjN,jjF,List.getElem?_append_right (by omega),hAl,Nat.add_sub_cancel_left,jjO (by omega),jjF]
     have hnl2:u.take j++[]++w.drop (j+0)=w:=by
      have:u.take j=w.take j:=by rw[hw1,jjN,jjT (by omega),List.take_take,Nat.min_self]
      rw[this,List.append_nil,ji9,List.take_append_drop]
     rw[← hw1] at hml
     simp only[← hw1]
     refine V.r0 (V.a8 jio f1 f2 f4 f5 f6 f7 hVl) ?_
     refine jad ((0,[],0):Nat×List Int×Int) (fun y=>y.1≤p+2∧y.2.1.length=y.1∧Dg 1000000000 y.2.1∧(0≤y.2.2∧y.2.2≤1)∧val 1000000000 y.2.1+y.2.2*((1000000000:Nat):Int)^y.1=val 1000000000 (mid.take y.1)+val 1000000000 (vs.take y.1)) (fun y=>p+2-y.1)
      (fun y=>[(125,.int .i64 y.1),(15,.int .u32 y.2.2)]) (fun y=>[(48,.arr .u32 (u.take j++y.2.1++w.drop (j+y.1)))]) ?_ ?_ ?_
     ·rw[hnl2]
      exact V.wk
     ·exact⟨ji2 _,rfl,fun x hx=>by simp at hx,by simp,by simp[val]⟩
     rintro⟨i,m2,ov⟩ ⟨k1,k2,k3,k4,k5⟩
     dsimp only at k1 k2 k3 k4 k5 ⊢
     have hvm:=jaj 1000000000 mid i
     have hvv2:=jaj 1000000000 vs i
     have bd:=jam (by omega) hdV i
     have bmi:=jam (by omega) g3 i
     have hcg2:=mid_get (u:=w) (A:=u.take j) (mid:=m2) (k:=j+i) (by omega)
     have hcl2:(u.take j++m2++w.drop (j+i)).length=N:=by
      rw[jjL,jjL,hAl,k2,jj0];omega
     refine V.r0 (V.a8 jio f1 f2 f4 f5 f6 f7 hVl) ?_
     refine V.br (fun hw2=>?_) (fun hw2=>?_)
     ·rw[decide_eq_true_eq] at hw2
      have hms3:=fun r=>jgG (u:=w) (A:=u.take j) (mid:=m2) (k:=j+i) (r:=r) (by omega) (by omega)
      rw[hwg i (by omega)] at hcg2
      generalize hd0:vs.getD i 0=d at *
      generalize hmi:mid.getD i 0=mi at *
      have hki:((i:Int)+1)=((i+1:Nat):Int):=by omega
      have hai:j+i+1=j+(i+1):=by omega
      (conv=>whnf)
      (try simp only[jio,f1,f2,f4,f5,f6,f7,hVl,hd0,hcg2,hki])
      repeat ((first|refine V.s1 ?_);(try simp only[jio,f1,f2,f4,f5,f6,f7,hVl,hd0,hcg2,hki]))
      refine V.br (fun hge=>?_) (fun hge=>?_)
      ·rw[decide_eq_true_eq] at hge
       have hst:=jaE (B:=1000000000) (x:=mi) (y:=d) (d:=mi+d+ov-1000000000) (c':=1) k2 k5 (by omega)
       rw[← hvm,← hvv2] at hst
       (conv=>whnf)
       (try simp only[jio,f1,f2,f4,f5,f6,f7,hVl,hki,hms3,hai])
       repeat ((first|refine V.s1 ?_);(try simp only[jio,f1,f2,f4,f5,f6,f7,hVl,hki,hms3,hai]))
       exact⟨(i+1,m2++[mi+d+ov-1000000000],1),⟨by dsimp only;omega,by simp[k2],jai k3 (jay (by omega)),by simp,hst⟩,by dsimp only;omega,V.wk⟩
      ·rw[decide_eq_false_iff_not] at hge
       have hst:=jaE (B:=1000000000) (x:=mi) (y:=d) (d:=mi+d+ov) (c':=0) k2 k5 (by omega)
       rw[← hvm,← hvv2] at hst
       (conv=>whnf)
       (try simp only[jio,f1,f2,f4,f5,f6,f7,hVl,hki,hms3,hai])
       repeat ((first|refine V.s1 ?_);(try simp only[jio,f1,f2,f4,f5,f6,f7,hVl,hki,hms3,hai]))
       exact⟨(i+1,m2++[mi+d+ov],0),⟨by dsimp only;omega,by simp[k2],jai k3 (jay (by omega)),by simp,hst⟩,by dsimp only;omega,V.wk⟩
     ·rw[decide_eq_false_iff_not] at hw2
      obtain rfl:i=p+2:=by omega
      rw[hvsV,← g2,jj6,g2] at k5
      have hn0:=jao k3
      have hn1:=jcg k3
      rw[k2] at hn1
      have hrb:=red_b hPn hVpos hVP hWs g6 hm1 i3 (by omega) k5 hn0 hn1
      have hinv:=div_inv (B:=1000000000) (p:=p) (j:=j) (u:=u) (q:=q) (mid:=m2) (Qd:=qq-1) (M:=((a*s:Nat):Int)) (by omega) (by omega) (by omega) k2 h3 k3 h6' hW hVpos hrb.2 hrb.1 h8
      have hsetz2:=jgG (u:=u) (A:=u.take j) (mid:=m2) (k:=j+(p+2)) (r:=0) (by omega) (by omega)
      (conv=>whnf)
      (try simp only[jio,f1,f2,f4,f5,f6,f7,hVl,hwd,hsetz2])
      repeat ((first|refine V.s1 ?_);(try simp only[jio,f1,f2,f4,f5,f6,f7,hVl,hwd,hsetz2]))
      exact⟨(j,u.take j++(m2++[0])++u.drop (j+(p+2)+1),q.set j (qq-1)),⟨by dsimp only;omega,by dsimp only;rw[hinv.1];exact h2,hinv.2.1,by dsimp only;rw[jj3];exact h4,jd1 h5 (by omega),hinv.2.2.1,by dsimp only;rw[hVV];exact hinv.2.2.2.1,by dsimp only;rw[hVV];exact hinv.2.2.2.2⟩,by dsimp only;omega,V.wk⟩
    ·rw[decide_eq_false_iff_not] at hc2
     have hra:=red_a hPn hVpos hVP hWs g6 hm0 i4 (by omega)
     have hinv:=div_inv (B:=1000000000) (p:=p) (j:=j) (u:=u) (q:=q) (mid:=mid) (Qd:=qq) (M:=((a*s:Nat):Int)) (by omega) (by omega) (by omega) g2 h3 g3 h6' hW hVpos hra.2 hra.1 h8
     (conv=>whnf)
     (try simp only[jio,f1,f2,f4,f5,f6,f7,hVl,hsetz])
     repeat ((first|refine V.s1 ?_);(try simp only[jio,f1,f2,f4,f5,f6,f7,hVl,hsetz]))
     exact⟨(j,u.take j++(mid++[0])++u.drop (j+(p+2)+1),q.set j qq),⟨by dsimp only;omega,by dsimp only;rw[hinv.1];exact h2,hinv.2.1,by dsimp only;rw[jj3];exact h4,jd1 h5 ⟨i1,i2⟩,hinv.2.2.1,by dsimp only;rw[hVV];exact hinv.2.2.2.1,by dsimp only;rw[hVV];exact hinv.2.2.2.2⟩,by dsimp only;omega,V.wk⟩
 ·rw[decide_eq_false_iff_not] at hq
  obtain rfl:k=0:=by omega
  rw[jj1,Int.pow_zero,Int.mul_one] at h8
  rw[jj1] at h7
  rw[ji8] at h6
  have hvq:=jao h5
  have hvu:=jao h3
  obtain⟨w,hw⟩:∃ w:Nat,val 1000000000 q=w:=⟨(val 1000000000 q).toNat,by omega⟩
  obtain⟨z,hz⟩:∃ z:Nat,val 1000000000 u=z:=⟨(val 1000000000 u).toNat,by omega⟩
  rw[hw,hz,← jjm,← Int.natCast_add] at h8
  rw[hz] at h7
  have h8':a*s=w*(b*s)+z:=by exact_mod_cast h8
  have h7':z<b*s:=by exact_mod_cast h7
  have hbs:0<b*s:=by omega
  have hdiv:a/b=w:=by
   have k1:a*s/(b*s)=a/b:=Nat.mul_div_mul_right a b (by omega)
   rw[← k1,h8',Nat.add_comm,Nat.add_mul_div_right _ _ hbs,Nat.div_eq_of_lt h7',ji8]
  have hmod:z=a%b*s:=by
   have k1:a*s%(b*s)=a%b*s:=Nat.mul_mod_mul_right s a b
   rw[← k1,h8',Nat.add_comm,Nat.add_mul_mod_self_right,jjh h7']
  have hzs:z/s=a%b:=by rw[hmod,Nat.mul_div_cancel _ (by omega)]
  have hut:val 1000000000 (u.take (p+2))=z:=by
   rw[jbU 1000000000 u (p+2) (by omega),h6,Int.mul_zero,jjv] at hz
   exact hz
  have hzl:=jax (B:=1000000000) (n:=z) (k:=p+2) (by omega) (by omega)
  have hc1:=jfO (u.take (p+2)) (jbv h3 _) (by rw[jjM];omega)
  rw[hut,jjb] at hc1
  have hc2:=short_c z s (by omega) (by omega) (by omega)
  rw[hzs] at hc2
  have hc3:=jfO q h5 (by omega)
  rw[hw,jjb,← jj6 (l:=q),h4] at hc3
  rw[hdiv]
  refine V.r3 (V.a2 hVl @jjb) hc1 hc2 hc3 ?_
  exact Fin.of rfl
theorem jbg (a b:Nat)(hb0:0<b)(ha:(mg 1000000000 a).length≤90000000)(hb:(mg 1000000000 b).length≤90000000):Cl 187 [.ints .u32 (mg 1000000000 a),.ints .u32 (mg 1000000000 b)] (.tup [.ints .u32 (mg 1000000000 (a/b)),.ints .u32 (mg 1000000000 (a%b))]):=by
 rcases jjk a b with h|h
 ·exact jh7 a b h (by omega) (by omega)
 ·rcases jjk b 1000000000 with h1|h1
  ·exact divide_one a b h hb0 h1 (by omega)
  ·exact jh6 a b h h1 ha
end Go.Proofs.YtbnghipgicmpdaaGreatDoor
end
section
namespace Go.Proofs.YtbnghipgicmpdaaGreatDoor
open Go Go.V Go.Nb Go.RowKit Go.Proofs
set_option maxHeartbeats 4000000
set_option maxRecDepth 1000000
theorem zero_k (n:Nat)(w:World)(hg:GlW w)(v:Value)(hv:Den Env.dummy (pubOf w) (.ints .u32 (mg 1000000000 n)) v):Calls Tryz.prog 145 #[v] w fun e w'=>e = .returned (.bool (decide (n=0)))∧RowKit.Below w.heap.size w w':=by
 refine(jfA (jdt n) w hg (vs:=[v]) ?_).mono ?_
 ·simp only[DenL];exact⟨_,_,rfl,hv,rfl⟩
 ·rintro e w' ⟨v,h',rfl,hv,hb⟩
  simp only[Den] at hv
  rw[hv]
  exact⟨rfl,hb⟩
def cv:Nat→Int
 | 0 => -1
 | k+1=>k
theorem cv_eq (m:Nat):cv m=(m:Int)-1:=by cases m<;>simp[cv]
theorem digits_w (n:Nat)(hn:0<n)(hl:(mg 1000000000 n).length≤100000000)(w:World)(hg:GlW w)(hlt:GlLt w.heap.size)(v:Value)(hv:Den Env.dummy (pubOf w) (.ints .u32 (mg 1000000000 n)) v) :
  Calls Tryz.prog 169 #[v] w fun e w'=>e = .returned (.string ⟨(dec n).toArray⟩)∧RowKit.Below w.heap.size w w':=by
 have hz:=zero_k n w hg v hv
 have hdx:=mg_dg (B:=1000000000) (by omega) n
 have hvx:=jaH (B:=1000000000) (by omega) n
 have hlx:=jef (B:=1000000000) (n:=n) (by omega)
 have hnil:=jcl (B:=1000000000) (n:=n) (by omega)
 generalize mg 1000000000 n=xs at *
 simp only[Den,jaP] at hv
 obtain⟨a,cap,rfl,hcap,_,_,ha⟩:=hv
 obtain⟨j,hj⟩:∃ j,xs.length=j+1:=⟨xs.length-1,by
  have:xs≠[]:=fun e=>by have:=hnil.1 e;omega
  have:=List.length_pos_iff.2 this
  omega⟩
 obtain⟨ad,rfl⟩:∃ ad,a=some ad:=by
  cases a with
  | none=>obtain⟨h1,_⟩:=ha;rw[h1] at hj;simp at hj
  | some ad=>exact⟨ad,rfl⟩
 obtain⟨blk,off,spot⟩:=ad
 simp only at ha
 obtain⟨rfl,hcell⟩:=ha
 have hne:decide (n=0)=false:=decide_eq_false (by omega)
 rw[hne] at hz
 have hc0:∀ i,i<xs.length→w.cell? ⟨blk,off+i,none⟩=some (.int .u32 (xs.getD i 0)):=fun i hi=>by
  have:=hcell i (xs.getD i 0) (by rw[jjF,jjI hi];rfl)
  exact this
 have hblk:blk<w.heap.size:=by
  have:=hc0 0 (by omega)
  rcases jjk blk w.heap.size with h|h
  ·exact h
  ·simp[World.cell?,Array.getElem?_eq_none h] at this
 clear hcell
 rw[hj] at hz ⊢
 go_enter Tryz.func169,Tryz.ntmps169
 go_wp2_with (go_at_call 145;refine hz.mono ?_)
 rintro e w1 ⟨rfl,hb1⟩
 have hs1:=hb1.size
 have hc1:(w1.alloc (.cells #[.pointer none,.slice none 0 0] 265)).cell? ⟨blk,off+j,none⟩=some (.int .u32 (xs.getD j 0)):=by
  have h1:=hb1.alloc (o := .cells #[.pointer none,.slice none 0 0] 265) (by omega)
  rw[h1.cell (by exact hblk)]
  exact hc0 j (by omega)
 have hI0:=Lib.IsBuilderF.of (Lib.fresh_isBuilder 265 5 w1)
 have hgl1:GlW (w1.alloc (.cells #[.pointer none,.slice none 0 0] 265)):=jhg hg (hb1.alloc (by omega) _) hlt
 have hlt1:GlLt w1.heap.size:=⟨fun g vs h=>by have:=hlt.1 g vs h;omega,fun g h=>by have:=hlt.2 g h;omega⟩
 have bx:=jam (by omega) hdx j
 have hx1:xs.getD j 0≠0:=by
  refine hlx _ ?_
  rw[List.getLast?_eq_getElem?,hj,jjF,show j+1-1=j by omega,jjI (by omega)];rfl
 have hvj:val 1000000000 (xs.drop j)=xs.getD j 0:=by rw[jbc,show xs.drop (j+1)=[] from List.drop_eq_nil_of_le (by omega)];simp[val]
 obtain⟨g,hgx⟩:∃ g:Nat,xs.getD j 0=g:=⟨(xs.getD j 0).toNat,by omega⟩
 rw[hgx] at bx hx1 hvj hc1
 have hput:=put_k w1.heap.size w1.heap.size [] g 0 (w1.alloc (.cells #[.pointer none,.slice none 0 0] 265)) hgl1 hlt1 (by simp) hI0 (by omega) (by omega) (by simp)
 have e0:List.replicate ((0:Int).toNat-(dec g).length) (48:UInt8)=[]:=by simp
 rw[e0,List.append_nil,jjS] at hput
 clear hz hI0
 go_wp2_with (go_at_call 208;refine hput.mono ?_)
 rintro e w2 ⟨rfl,hI2,hb2⟩
 have hbw2:RowKit.Below w.heap.size w w2:=(hb1.alloc (by omega) _).trans (hb2.mono hs1)
 have hs2:w1.heap.size+1≤w2.heap.size:=by have:=hb2.size;simpa using this
 have hd0:dec g=dec (val 1000000000 (xs.drop j)).toNat:=by rw[hvj,jjb]
 rw[hd0] at hI2
 clear hput hd0
 go_wp2
 go_loopw [6] (fun i wr => ∃ m:Nat,m≤j∧i = .int .i64 (cv m)∧Lib.IsBuilderF 265 5 w1.heap.size w1.heap.size (Lib.byteCells (dec (val 1000000000 (xs.drop m)).toNat)) wr∧RowKit.Below w1.heap.size w2 wr) (fun i _=>(intOf i+1).toNat)
 case atStart=>exact⟨j,jjc _,by rw[cv_eq],hI2,Below.refl _ _⟩
 case round=>
  obtain⟨m,hm,rfl,hI,hbr⟩:=hrel
  have hsr:=hbr.size
  have hbw:RowKit.Below w.heap.size w wr:=hbw2.trans (hbr.mono hs1)
  rcases m with _|m
  ·rw[jj1,hvx,jjb] at hI
   simp only[cv]
   go_wp2_with (go_at_call 211;refine(Tryz.Builder_String_any_k w1.heap.size w1.heap.size (dec n) _ hI (by omega)).mono ?_)
   intros
   rename_i e W1 h2
   obtain⟨rfl,_,b2,_⟩:=h2
   go_wp2
   go_ret
   exact⟨rfl,hbw.trans (b2.mono hs1)⟩
  ·simp only[cv]
   have bm:=jam (by omega) hdx m
   have hcm:wr.cell? ⟨blk,off+m,none⟩=some (.int .u32 (xs.getD m 0)):=by
    rw[hbw.cell (by exact hblk)];exact hc0 m (by omega)
   obtain⟨y,hy⟩:∃ y:Nat,xs.getD m 0=y:=⟨(xs.getD m 0).toNat,by omega⟩
   have hvm:=jbI (B:=1000000000) (l:=xs) (k:=m) (by omega)
   have hv0:=jao (jbk hdx (m+1))
   have hvp:0<val 1000000000 (xs.drop (m+1)):=by
    have h1:=jbU 1000000000 (xs.drop (m+1)) (j-(m+1)) (by rw[jj0];omega)
    rw[List.drop_drop,show m+1+(j-(m+1))=j by omega,hvj] at h1
    have h2:=jao (jbv (jbk hdx (m+1)) (j-(m+1)))
    have h3:(0:Int)<((1000000000:Nat):Int)^(j-(m+1))*g:=Int.mul_pos (jdJ (by omega) _) (by omega)
    omega
   rw[hy] at bm hcm hvm
   obtain⟨u,hu⟩:∃ u:Nat,val 1000000000 (xs.drop (m+1))=u:=⟨(val 1000000000 (xs.drop (m+1))).toNat,by omega⟩
   rw[hu,jjb] at hI
   have hdp:=jic (a:=u) (by omega) 9 y (by omega)
   have hpd:=jbz 9 y (by omega) (by omega)
   have hnew:(val 1000000000 (xs.drop m)).toNat=u*10^9+y:=by rw[hvm,hu];omega
   rw[hpd.2,← hnew,← jjN] at hdp
   have hdlen:(dec u).length≤1000000000000:=by
    have h1:u<10^(9*(j+1)):=by
     have h2:=jcg (jbk hdx (m+1))
     rw[hu,jj0,hj] at h2
     have h3:(1000000000:Nat)^(j+1-(m+1))≤1000000000^(j+1):=jjs (by omega) (by omega)
     rw[← jjw] at h2
     rw[Nat.pow_mul]
     have h4:u<1000000000^(j+1-(m+1)):=by exact_mod_cast h2
     exact jjj h4 h3
    have:=(jbz (9*(j+1)) u (by omega) h1).1
    omega
   have hput:=put_k w1.heap.size w1.heap.size (dec u) y 9 wr (jhg hg hbw hlt) hlt1 (by omega) hI (by omega) (by omega) hdlen
   rw[show (9:Int).toNat=9 from rfl,← hdp] at hput
   clear hdp hpd hnew hdlen hu hvm hvp hv0
   go_wp2_with (go_at_call 208;refine hput.mono ?_)
   intros
   rename_i e W1 h2
   obtain⟨rfl,hI3,b2⟩:=h2
   go_wp2
   go_roundw
   case rel=>exact⟨m,by omega,by (have h:=cv_eq m;show Value.int .i64 ((m:Int)-1)=Value.int .i64 (cv m);rw[h]),hI3,hbr.trans b2⟩
   case measure=>simp[intOf]
theorem jh8:Cl 169 [.ints .u32 (mg 1000000000 0)] (.str (dec 0)):=by
 have hz:=jdt 0
 refine V.en tbOk Tryz.func169 ?_
 refine V.u1 hz ?_
 exact Fin.of rfl
theorem digits_c (n:Nat)(hl:(mg 1000000000 n).length≤100000000):Cl 169 [.ints .u32 (mg 1000000000 n)] (.str (dec n)):=by
 rcases jje n with h0|h0
 ·subst h0;exact jh8
 refine ja5 Tryz.func169 rfl rfl rfl fun w hp vs ha hd=>?_
 simp only[DenL] at hd
 obtain⟨v,_,rfl,hv,rfl⟩:=hd
 have hle:hp.Le (pubOf w):=fun b o v h=>ha.cells b o v h
 refine(digits_w n h0 hl w ha.blk (glLt ha.blk) v (Den.mono hle hv)).mono fun e w' ⟨he,hw⟩=>⟨⟨_,he,fun hp=>?_⟩,hw⟩
 ·simp only[Den]
  refine⟨trivial,?_⟩
  have h2:=jaM (B:=1000000000) (n:=n) (by omega)
  generalize (mg 1000000000 n).length=l at *
  have h1:n<10^(9*(l+1)):=by
   rw[Nat.pow_mul]
   exact jjj h2 (jjs (by omega) (by omega))
  have:=(jbz (9*(l+1)) n (by omega) h1).1
  omega
end Go.Proofs.YtbnghipgicmpdaaGreatDoor
end
section
namespace Go.Proofs.YtbnghipgicmpdaaGreatDoor
open Go Go.V Go.Nb
def raD (q:Rat):D := .agg [.bool (decide (q.num<0)),.ints .i64 (mg 10000 q.num.natAbs),.bool false,.ints .i64 (mg 10000 q.den)]
theorem jhP (n d:Int)(hd:d≠0):(if d<0 then -n else n)/((Int.gcd (if d<0 then -n else n) (if d<0 then -d else d):Nat):Int)=(Rat.divInt n d).num:=by
 rw[Rat.num_divInt]
 split
 ·rw[Int.neg_gcd,Int.gcd_neg,Int.gcd_comm,jjz (by omega),Int.neg_mul,jjy]
 ·rw[Int.gcd_comm,jjA (by omega),jjy]
theorem jhQ (n d:Int)(hd:d≠0):(if d<0 then -d else d)/((Int.gcd (if d<0 then -n else n) (if d<0 then -d else d):Nat):Int)=((Rat.divInt n d).den:Int):=by
 rw[Rat.den_divInt,if_neg hd]
 split
 ·rw[Int.neg_gcd,Int.gcd_neg,Int.gcd_comm,Int.natCast_ediv];congr 1;omega
 ·rw[Int.gcd_comm,Int.natCast_ediv];congr 1;omega
theorem jbD (n:Int)(g:Nat):(n/(g:Int)).natAbs≤n.natAbs:=by
 rcases Int.le_total 0 n with h|h
 ·have h1:=ji3 h (by omega:(0:Int)≤g)
  have h2:=Int.ediv_le_self (a:=n) (g:Int) h
  omega
 ·rcases jje g with e|e
  ·subst e;simp
  ·have h1:n/(g:Int)≤0:=by
    have:=Int.ediv_le_ediv (by omega:(0:Int)<g) h
    simpa using this
   have h2:n≤n/(g:Int):=Int.le_ediv_of_mul_le (by omega) (by
    have:=Int.mul_le_mul_of_nonpos_left h (by omega:(1:Int)≤g)
    omega)
   omega
theorem jeH (n d:Int)(hn:Sm 80000000 n)(hd:Sm 80000000 d)(hd0:d≠0):Cl 71 [plD n,plD d] (raD (Rat.divInt n d)):=by
 have e1:=jhP n d hd0
 have e2:=jhQ n d hd0
 refine V.en tbOk Tryz.func71 ?_
 (conv=>whnf)
 refine V.st ?_
 refine V.br (fun hq=>?_) (fun hq=>?_)
 ·rw[decide_eq_true_eq] at hq
  simp only[if_pos hq] at e1 e2
  have hN:=hn.neg
  have hD:=hd.neg
  have ht1:=turn_c n (by unfold Sm at hn;omega)
  have ht2:=turn_c d (by unfold Sm at hd;omega)
  (conv=>whnf)
  refine V.st ?_
  refine⟨(V.tk [0,2] (V.e1 1 [2] (V.e1 3 [] (V.e1 4 [] (V.e1 5 [] .done))))),[],V.pok,.go (jac ?_)⟩
  refine V.u2 ht1 ht2 ?_
  have hgp:0<Int.gcd (-n) (-d):=Int.gcd_pos_of_ne_zero_right _ (by omega)
  have hdv:=jfr (-n) (-d) hN hD
  have hgD:Sm 80000000 ((Int.gcd (-n) (-d):Nat):Int):=hD.le (by rw[jjr];exact Nat.le_of_dvd (by omega) (Nat.gcd_dvd_right ((-n)).natAbs ((-d)).natAbs))
  have hp1:=jdK (-n) ((Int.gcd (-n) (-d):Nat):Int) hN hgD (by omega)
  have hp2:=jdK (-d) ((Int.gcd (-n) (-d):Nat):Int) hD hgD (by omega)
  rw[e1] at hp1
  rw[e2] at hp2
  refine V.u3 hdv hp1 hp2 ?_
  exact Fin.of (by unfold raD;rw[jjr,decide_eq_false (p:=((Rat.divInt n d).den:Int)<0) (by omega)])
 ·rw[decide_eq_false_iff_not] at hq
  simp only[if_neg hq] at e1 e2
  have hN:=hn
  have hD:=hd
  have hgp:0<Int.gcd n d:=Int.gcd_pos_of_ne_zero_right _ (by omega)
  have hdv:=jfr n d hN hD
  have hgD:Sm 80000000 ((Int.gcd n d:Nat):Int):=hD.le (by rw[jjr];exact Nat.le_of_dvd (by omega) (Nat.gcd_dvd_right (n).natAbs (d).natAbs))
  have hp1:=jdK n ((Int.gcd n d:Nat):Int) hN hgD (by omega)
  have hp2:=jdK d ((Int.gcd n d:Nat):Int) hD hgD (by omega)
  rw[e1] at hp1
  rw[e2] at hp2
  refine V.u3 hdv hp1 hp2 ?_
  exact Fin.of (by unfold raD;rw[jjr,decide_eq_false (p:=((Rat.divInt n d).den:Int)<0) (by omega)])
theorem jhF (n d:Int)(hn:InR .i64 n)(hd:InR .i64 d)(hd0:d≠0):Cl 122 [.int .i64 n,.int .i64 d] (raD (Rat.divInt n d)):=by
 have h1:=jcY n hn
 have h2:=jcY d hd
 simp only[V.InR,V.lo,V.hi] at hn hd
 have h3:=jeH n d ((Sm.lit (k:=5) (by omega)).mono (by omega)) ((Sm.lit (k:=5) (by omega)).mono (by omega)) hd0
 refine V.en tbOk Tryz.func122 ?_
 refine V.u3 h1 h2 h3 ?_
 exact Fin.of rfl
def okF (q:Rat):Bool:=decide ((dec q.num.natAbs).length≤600) && decide ((dec q.den).length≤600)
def frR (q:Rat):D := .tup [.agg [.str (cond (okF q) (decZ q.num) []),.str (cond (okF q) (dec q.den) [])],.int .i64 (cond (okF q) 0 6)]
theorem outN_c (n:Nat)(hz:Sm 90000000 n):Cl 127 [.agg [.bool false,.ints .i64 (mg 10000 n)]] (.tup [.str (if 600<(dec n).length then [] else dec n),.int .i64 (if 600<(dec n).length then 6 else 0)]):=by
 have h:=out_c n hz
 unfold plD decZ at h
 rw[jjr,decide_eq_false (p:=(n:Int)<0) (by omega),if_neg (c:=(n:Int)<0) (by omega)] at h
 exact h
theorem je4 (q:Rat)(hn:Sm 90000000 q.num)(hd:Sm 90000000 (q.den:Int)):Cl 70 [raD q] (frR q):=by
 have h1:=out_c q.num hn
 have h2:=outN_c q.den hd
 unfold frR okF
 by_cases g1:600<(dec q.num.natAbs).length<;>by_cases g2:600<(dec q.den).length
 all_goals
  simp only[g1,g2,if_true,if_false] at h1 h2
  simp only[← Nat.not_lt,g1,g2,not_true_eq_false,not_false_eq_true,decide_true,decide_false,Bool.and_self,Bool.and_false,Bool.false_and,Bool.and_true,cond_true,cond_false]
  refine V.en tbOk Tryz.func70 ?_
  refine V.u2 h1 h2 ?_
  exact Fin.of rfl
theorem of02_c (n d:Int)(hn:InR .i64 n)(hd:InR .i64 d)(hd0:d≠0):Cl 66 [.int .i64 n,.int .i64 d] (frR (Rat.divInt n d)):=by
 have h1:=jhF n d hn hd hd0
 simp only[V.InR,V.lo,V.hi] at hn hd
 have hnum:Sm 90000000 (Rat.divInt n d).num:=by
  have e1:=jhP n d hd0
  have h:=jbD (if d<0 then -n else n) (Int.gcd (if d<0 then -n else n) (if d<0 then -d else d))
  rw[e1] at h
  exact(Sm.lit (k:=5) (by split at h<;>omega)).mono (by omega)
 have hden:Sm 90000000 ((Rat.divInt n d).den:Int):=by
  have e1:=jhQ n d hd0
  have h:=jbD (if d<0 then -d else d) (Int.gcd (if d<0 then -n else n) (if d<0 then -d else d))
  rw[e1] at h
  exact(Sm.lit (k:=5) (by split at h<;>omega)).mono (by omega)
 have h2:=je4 _ hnum hden
 refine V.en tbOk Tryz.func66 ?_
 (conv=>whnf)
 refine V.st ?_
 refine Cnd.no (decide_eq_false hd0) ?_
 refine V.u2 h1 h2 ?_
 exact Fin.of rfl
theorem gcd_c (a b:Nat)(ha:(mg 1000000000 a).length≤90000000)(hb:(mg 1000000000 b).length≤90000000):Cl 161 [.ints .u32 (mg 1000000000 a),.ints .u32 (mg 1000000000 b)] (.ints .u32 (mg 1000000000 (Nat.gcd a b))):=by
 obtain⟨g,hg⟩:∃ g,g=Nat.gcd a b:=⟨_,rfl⟩
 rw[← hg]
 refine V.en tbOk Tryz.func161 ?_
 (conv=>whnf)
 refine V.st ?_
 refine jad ((a,b):Nat×Nat) (fun s=>Nat.gcd s.1 s.2=g∧(mg 1000000000 s.1).length≤90000000∧(mg 1000000000 s.2).length≤90000000) (fun s=>s.2)
  (fun s=>[(0,.ints .u32 (mg 1000000000 s.1)),(1,.ints .u32 (mg 1000000000 s.2))]) (fun _=>[]) ?_ ?_ ?_
 ·exact V.wk
 ·exact⟨hg.symm,ha,hb⟩
 rintro⟨x,y⟩ ⟨h1,h2,h3⟩
 dsimp only at h1 h2 h3 ⊢
 have hz:=jdt y
 refine V.u1 hz ?_
 refine V.br (fun hq=>?_) (fun hq=>?_)
 ·have hy:¬ y=0:=by simpa using hq
  (conv=>whnf)
  refine V.st ?_
  refine V.br (fun hq2=>?_) (fun hq2=>?_)
  ·rw[ji0,decide_eq_true_eq,decide_eq_true_eq] at hq2
   have hx18:x<1000000000000000000:=by
    have:=jaM (B:=1000000000) (n:=x) (by omega)
    have h5:1000000000^(mg 1000000000 x).length≤1000000000^2:=jjs (by omega) (by omega)
    omega
   have hy18:y<1000000000000000000:=by
    have:=jaM (B:=1000000000) (n:=y) (by omega)
    have h5:1000000000^(mg 1000000000 y).length≤1000000000^2:=jjs (by omega) (by omega)
    omega
   have hs1:=small_c x hx18
   have hs2:=small_c y hy18
   refine V.u2 hs1 hs2 ?_
   refine jad ((x,y):Nat×Nat) (fun s=>Nat.gcd s.1 s.2=g∧s.1<1000000000000000000∧s.2<1000000000000000000) (fun s=>s.2) (fun s=>[(5,.int .u64 s.1),(6,.int .u64 s.2)]) (fun _=>[]) ?_ ?_ ?_
   ·exact V.wk
   ·exact⟨h1,hx18,hy18⟩
   rintro⟨p,q⟩ ⟨i1,i2,i3⟩
   dsimp only at i1 i2 i3 ⊢
   (conv=>whnf)
   refine V.st ?_
   refine V.br (fun hq3=>?_) (fun hq3=>?_)
   ·rw[decide_eq_true_eq] at hq3
    have hqp:0<q:=by omega
    have em:(p:Int)%(q:Int)=((p%q:Nat):Int):=by rw[Int.natCast_emod]
    have hlt:=jjf p hqp
    refine V.r0 em ?_
    refine⟨(V.tk [0,1,2,3] (V.e1 4 [3,2] (V.e1 5 [] .done))),[],V.pok,.go (jac ?_)⟩
    refine V.r0 em ?_
    exact⟨(q,p%q),⟨by dsimp only;rw[Nat.gcd_comm,← Nat.gcd_rec,Nat.gcd_comm];exact i1,i3,by dsimp only;omega⟩,hlt,V.wk⟩
   ·rw[decide_eq_false_iff_not] at hq3
    obtain rfl:q=0:=by omega
    rw[Nat.gcd_zero_right] at i1
    have hf:=jdq p (by omega)
    refine V.u1 hf ?_
    exact Fin.of (by rw[i1])
  ·have hd:=jbg x y (by omega) h2 h3
   have hlt:=jjf x (by omega:y>0)
   have hr:=jah (B:=1000000000) (by omega) (Nat.le_of_lt hlt)
   refine V.u1 hd ?_
   exact⟨(y,x%y),⟨by dsimp only;rw[Nat.gcd_comm,← Nat.gcd_rec,Nat.gcd_comm];exact h1,h3,by dsimp only;omega⟩,hlt,V.wk⟩
 ·have hy:y=0:=by simpa using hq
  subst hy
  rw[Nat.gcd_zero_right] at h1
  (conv=>whnf)
  refine V.st ?_
  exact Fin.of (by rw[h1])
theorem jh2 (z:Int)(hz:(mg 1000000000 z.natAbs).length≤90000000):Cl 119 [itD z] (.str (decZ z)):=by
 have hd:=digits_c z.natAbs (by omega)
 have hl:(dec z.natAbs).length≤1000000000000:=by
  have h2:=jaM (B:=1000000000) (n:=z.natAbs) (by omega)
  generalize (mg 1000000000 z.natAbs).length=l at *
  have h1:z.natAbs<10^(9*(l+1)):=by
   rw[Nat.pow_mul]
   exact jjj h2 (jjs (by omega) (by omega))
  have:=(jbz (9*(l+1)) z.natAbs (by omega) h1).1
  omega
 refine V.en tbOk Tryz.func119 ?_
 (conv=>whnf)
 refine V.st ?_
 refine V.br (fun hq=>?_) (fun hq=>?_)
 ·rw[decide_eq_true_eq] at hq
  refine V.u1 hd ?_
  exact Fin.of (by unfold decZ;rw[if_pos hq];rfl)
 ·rw[decide_eq_false_iff_not] at hq
  refine V.u1 hd ?_
  exact Fin.of (by unfold decZ;rw[if_neg hq])
def rtD (q:Rat):D := .agg [.ints .u32 (mg 1000000000 q.num.natAbs),.bool (decide (q.num<0)),.ints .u32 (mg 1000000000 q.den)]
theorem jd7 (q:Rat)(hn:(mg 1000000000 q.num.natAbs).length≤90000000)(hd:(mg 1000000000 q.den).length≤90000000):Cl 147 [rtD q] (frR q):=by
 have h1:=length_c q.num.natAbs (by omega)
 have h2:=length_c q.den (by omega)
 have h3:=jh2 q.num hn
 have h4:=digits_c q.den (by omega)
 unfold frR okF
 refine V.en tbOk Tryz.func147 ?_
 refine V.u2 h1 h2 ?_
 refine V.br (fun hq=>?_) (fun hq=>?_)
 ·rw[Bool.or_eq_true,decide_eq_true_eq,decide_eq_true_eq] at hq
  have e:(decide ((dec q.num.natAbs).length≤600) && decide ((dec q.den).length≤600))=false:=by
   rw[Bool.and_eq_false_iff,decide_eq_false_iff_not,decide_eq_false_iff_not];omega
  rw[e]
  (conv=>whnf)
  refine V.st ?_
  exact Fin.of rfl
 ·rw[jjl,decide_eq_false_iff_not,decide_eq_false_iff_not] at hq
  have e:(decide ((dec q.num.natAbs).length≤600) && decide ((dec q.den).length≤600))=true:=by
   rw[ji0,decide_eq_true_eq,decide_eq_true_eq];omega
  rw[e]
  (conv=>whnf)
  refine V.st ?_
  refine⟨(V.tk [0,1,3,4] (V.e1 2 [4,3] (V.e1 5 [] (V.tk [6] (V.e1 7 [] (V.tk [8] .done)))))),[],V.pok,.go (jac ?_)⟩
  refine V.u2 h3 h4 ?_
  exact Fin.of rfl
theorem jc2 (n:Int)(d:Nat)(hd:0<d):(Rat.divInt n d).num.natAbs=n.natAbs/Nat.gcd n.natAbs d∧decide ((Rat.divInt n d).num<0)=decide (n<0)∧(Rat.divInt n d).den=d/Nat.gcd n.natAbs d:=by
 have hg:Int.gcd (d:Int) n=Nat.gcd n.natAbs d:=by
  rw[Int.gcd_comm];rfl
 have hgp:0<Nat.gcd n.natAbs d:=Nat.gcd_pos_of_pos_right _ hd
 have hdv:((Nat.gcd n.natAbs d:Nat):Int) ∣ n:=Int.ofNat_dvd_left.2 (Nat.gcd_dvd_left _ _)
 rw[Rat.num_divInt,Rat.den_divInt,if_neg (by omega),jjA (by omega),jjy,hg,jjr]
 generalize Nat.gcd n.natAbs d=g at *
 obtain⟨k,rfl⟩:=hdv
 have e:(g:Int)*k/g=k:=Int.mul_ediv_cancel_left _ (by omega)
 rw[e,Int.natAbs_mul,jjr,Nat.mul_div_cancel_left _ hgp]
 refine⟨rfl,?_,rfl⟩
 apply decide_eq_decide.2
 constructor
 ·intro h;exact Int.mul_neg_of_pos_of_neg (by omega) h
 ·intro h
  rcases Int.lt_or_le k 0 with h2|h2
  ·exact h2
  ·have:=ji6 (a:=(g:Int)) (by omega) h2;omega
theorem reduced_c (n:Int)(d:Nat)(hd0:0<d)(hn:(mg 1000000000 n.natAbs).length≤90000000)(hd:(mg 1000000000 d).length≤90000000):Cl 191 [itD n,.ints .u32 (mg 1000000000 d)] (rtD (Rat.divInt n d)):=by
 obtain⟨p1,p2,p3⟩:=jc2 n d hd0
 have hg:=gcd_c n.natAbs d hn hd
 have hgp:0<Nat.gcd n.natAbs d:=Nat.gcd_pos_of_pos_right _ hd0
 have hgl:=jah (B:=1000000000) (by omega) (Nat.le_of_dvd hd0 (Nat.gcd_dvd_right n.natAbs d))
 have h1:=jbg n.natAbs (Nat.gcd n.natAbs d) hgp hn (by omega)
 have h2:=jbg d (Nat.gcd n.natAbs d) hgp hd (by omega)
 have h3:=ja6 (n.natAbs/Nat.gcd n.natAbs d) (decide (n<0))
 have e:itD (if decide (n<0)=true then -((n.natAbs/Nat.gcd n.natAbs d:Nat):Int) else ((n.natAbs/Nat.gcd n.natAbs d:Nat):Int))=itD (Rat.divInt n d).num:=by
  congr 1
  rw[← p1,← p2]
  by_cases h:(Rat.divInt n d).num<0
  ·rw[decide_eq_true h,if_pos rfl];omega
  ·rw[decide_eq_false h,if_neg (by simp)];omega
 rw[e] at h3
 refine V.en tbOk Tryz.func191 ?_
 refine V.u4 hg h1 h2 h3 ?_
 exact Fin.of (by unfold rtD;rw[p3])
theorem wof_c (n:Int)(h:InR .i64 n):Cl 153 [.int .i64 n] (.str (decZ n)):=by
 have hi:=itoa_c n
 refine V.en tbOk Tryz.func153 ?_
 refine V.u1 hi ?_
 exact Fin.of rfl
theorem jhk (n d:Int)(hd:d≠0):Rat.divInt (if (decide (n<0) != decide (d<0))=true then -(n.natAbs:Int) else (n.natAbs:Int)) (d.natAbs:Nat)=Rat.divInt n d:=by
 rw[Rat.divInt_eq_divInt_iff (by omega) hd]
 by_cases h1:n<0<;>by_cases h2:d<0
 ·simp only[h1,h2,decide_true,bne_self_eq_false,Bool.false_eq_true,if_false]
  rw[show (n.natAbs:Int) = -n by omega,show (d.natAbs:Int) = -d by omega,Int.neg_mul,Int.mul_neg]
 ·have e:(decide (n<0) != decide (d<0))=true:=by simp[h1,h2]
  rw[if_pos e,show (n.natAbs:Int) = -n by omega,show (d.natAbs:Int)=d by omega,Int.neg_neg]
 ·have e:(decide (n<0) != decide (d<0))=true:=by simp[h1,h2]
  rw[if_pos e,show (n.natAbs:Int)=n by omega,show (d.natAbs:Int) = -d by omega,Int.neg_mul,Int.mul_neg]
 ·have e:¬ (decide (n<0) != decide (d<0))=true:=by simp[h1,h2]
  rw[if_neg e,show (n.natAbs:Int)=n by omega,show (d.natAbs:Int)=d by omega]
theorem jce {s:List UInt8}(h:okW s=true):s.length≤601∧(wval s).natAbs<10^600:=by
 unfold okW okD at h
 simp only[ji0,Bool.not_eq_true',jjl,decide_eq_false_iff_not,jjE] at h
 obtain⟨⟨h1,h2⟩,h3⟩:=h
 have h4:=jfU h2
 have h5:∀ k,(Go.Lib.trimPrefix s [45]).length≤k→10^(Go.Lib.trimPrefix s [45]).length≤10^k:=fun k hk=>jjs (by omega) hk
 constructor
 ·unfold Go.Lib.trimPrefix at h1
  split at h1
  ·rw[jj0] at h1;simp at h1;omega
  ·omega
 ·have:(wval s).natAbs=rdv (Go.Lib.trimPrefix s [45]):=by unfold wval;split<;>simp
  rw[this]
  exact jjj h4 (h5 600 (by omega))
theorem len9 {n:Nat}(h:n<10^600):(mg 1000000000 n).length≤67:=jax (by omega) (jjj h (by
 have h1:∀ k,(1000000000:Nat)^k=10^(9*k):=fun k=>by rw[Nat.pow_mul]
 have h2:∀ a b:Nat,a≤b→(10:Nat)^a≤10^b:=fun a b hab=>jjs (by omega) hab
 obtain⟨m,hm⟩:∃ m,m=9*67:=⟨_,rfl⟩
 rw[h1 67,← hm]
 exact h2 600 m (by omega)))
theorem make_c (s t:List UInt8)(hs:okW s=true)(ht:okW t=true)(hz:wval t≠0):Cl 152 [.str s,.str t] (frR (Rat.divInt (wval s) (wval t))):=by
 obtain⟨ls,vs⟩:=jce hs
 obtain⟨lt,vt⟩:=jce ht
 have c1:=jcp s (by omega)
 have c2:=jcp t (by omega)
 rw[hs,if_pos rfl] at c1
 rw[ht,if_pos rfl] at c2
 have n1:=jc8 s hs
 have n2:=jc8 t ht
 generalize wval s=n at *
 generalize wval t=d at *
 have hz1:=jdt d.natAbs
 have hs1:=ja6 n.natAbs (decide (n<0) != decide (d<0))
 have hnl:=len9 vs
 have hdl:=len9 vt
 have e1:(if (decide (n<0) != decide (d<0))=true then -(n.natAbs:Int) else (n.natAbs:Int)).natAbs=n.natAbs:=by split<;>omega
 have hr:=reduced_c (if (decide (n<0) != decide (d<0))=true then -(n.natAbs:Int) else (n.natAbs:Int)) d.natAbs (by omega) (by rw[e1];omega) (by omega)
 obtain⟨p1,p2,p3⟩:=jc2 (if (decide (n<0) != decide (d<0))=true then -(n.natAbs:Int) else (n.natAbs:Int)) d.natAbs (by omega)
 rw[jhk n d hz] at hr p1 p2 p3
 rw[e1] at p1 p3
 have hw:=jd7 (Rat.divInt n d) (by
  rw[p1]
  have:=jah (B:=1000000000) (by omega) (jjt n.natAbs (n.natAbs.gcd d.natAbs))
  omega) (by
  rw[p3]
  have:=jah (B:=1000000000) (by omega) (jjt d.natAbs (n.natAbs.gcd d.natAbs))
  omega)
 refine V.en tbOk Tryz.func152 ?_
 refine V.u5 c1 c2 n1 n2 hz1 ?_
 refine Cnd.no (decide_eq_false (by omega)) ?_
 (conv=>whnf)
 refine V.st ?_
 refine⟨(V.tk [0,1,2,3,4,5,6,8,9] (V.e1 7 [9,8] (V.e1 10 [] (V.e1 11 [] (V.tk [12,13] (V.e1 14 [] (V.tk [15] .done))))))),[],V.pok,.go (jac ?_)⟩
 refine V.u3 hs1 hr hw ?_
 exact Fin.of rfl
theorem of_c (n d:Int)(hn:InR .i64 n)(hd:InR .i64 d)(hd0:d≠0):Cl 102 [.int .i64 n,.int .i64 d] (frR (Rat.divInt n d)):=by
 have h1:=wof_c n hn
 have h2:=wof_c d hd
 simp only[V.InR,V.lo,V.hi] at hn hd
 have o1:=jcw n (by have:=jfv n.natAbs 19 (by omega) (by omega);omega)
 have o2:=jcw d (by have:=jfv d.natAbs 19 (by omega) (by omega);omega)
 have h3:=make_c (decZ n) (decZ d) o1 o2 (by rw[jbp];exact hd0)
 rw[jbp,jbp] at h3
 refine V.en tbOk Tryz.func102 ?_
 refine V.u3 h1 h2 h3 ?_
 exact Fin.of rfl
end Go.Proofs.YtbnghipgicmpdaaGreatDoor
end
section
namespace Go.Nb
theorem fold_ge:∀ (l:List UInt8) (acc:Nat),acc≤l.foldl (fun v c=>v*10+(c.toNat-48)) acc
 | [],_=>jjc _
 | c::r,acc=>by
  have:=fold_ge r (acc*10+(c.toNat-48))
  simp only[List.foldl_cons]
  omega
theorem jcT:∀ (l:List UInt8) (acc:Nat),(∀ c∈l,isDig c=true)→l.foldl (fun v c=>v*10+(c.toNat-48)) acc≤18446744073709551615 →
  Go.Lib.parseUintM 18446744073709551615 acc l = .ok (l.foldl (fun v c=>v*10+(c.toNat-48)) acc)
 | [],acc,_,_=>rfl
 | c::r,acc,hd,hl=>by
  have h1:=fold_ge r (acc*10+(c.toNat-48))
  have h2:=hd c (by simp)
  unfold isDig at h2
  rw[decide_eq_true_eq] at h2
  simp only[List.foldl_cons] at hl ⊢
  unfold Go.Lib.parseUintM
  rw[if_pos h2,if_neg (by omega),if_neg (by omega)]
  exact jcT r _ (fun c hc=>hd c (by simp[hc])) hl
theorem jfI (n:Nat)(h:n≤18446744073709551615):Go.Lib.parseUintB 64 (dec n) = .ok n:=by
 unfold Go.Lib.parseUintB
 have hne:dec n≠[]:=by
  by_cases h10:n<10
  ·rw[jbF h10];simp
  ·rw[jcC (by omega)];simp
 rw[if_neg hne]
 have hv:(dec n).foldl (fun v c=>v*10+(c.toNat-48)) 0=n:=rdv_dec n
 have:=jcT (dec n) 0 (jgN n) (by omega)
 rw[hv] at this
 exact this
theorem jgA (z:Int)(h1 : -9223372036854775808≤z)(h2:z≤9223372036854775807):Go.Lib.parseIntB 64 (decZ z) = .ok z:=by
 have hu:=jfI z.natAbs (by omega)
 unfold decZ
 by_cases hz:z<0
 ·rw[if_pos hz,Go.Lib.parseIntB_minus,hu]
  unfold Go.Lib.signedC
  simp only
  rw[if_neg (by omega)]
  congr 1
  omega
 ·rw[if_neg hz]
  have hne:dec z.natAbs≠[]:=by
   by_cases h10:z.natAbs<10
   ·rw[jbF h10];simp
   ·rw[jcC (by omega)];simp
  have hd:=jgN z.natAbs
  revert hu hd hne
  generalize dec z.natAbs=l
  intro hu hne hd
  cases l with
  | nil=>exact absurd rfl hne
  | cons c r=>
   have hc:=hd c (by simp)
   unfold isDig at hc
   rw[decide_eq_true_eq] at hc
   rw[Go.Lib.parseIntB_plain 64 c r (by omega) (by omega),hu]
   unfold Go.Lib.signlessC
   simp only
   rw[if_neg (by omega)]
   congr 1
   omega
theorem decZ_len (z:Int)(h1 : -9223372036854775808≤z)(h2:z≤9223372036854775807):(decZ z).length≤20:=by
 have:=(jbz 19 z.natAbs (by omega) (by omega)).1
 unfold decZ
 split
 ·simp only[jjV];omega
 ·omega
end Go.Nb
namespace Go.Proofs.YtbnghipgicmpdaaGreatDoor
open Go Go.V Go.Nb Go.RowKit Go.Proofs
set_option maxHeartbeats 4000000
set_option maxRecDepth 1000000
theorem wcheck_k (z:Int)(h1 : -9223372036854775808≤z)(h2:z≤9223372036854775807)(w:World)(hg:GlW w):Calls Tryz.prog 158 #[.string ⟨(decZ z).toArray⟩] w fun e w'=>e = .returned (.int .i64 0)∧RowKit.Below w.heap.size w w':=by
 have hl:=decZ_len z h1 h2
 have hd:(dec z.natAbs).length≤600:=jjd (jbz 19 z.natAbs (by omega) (by omega)).1 (by omega)
 have hc:=jcp (decZ z) (by omega)
 rw[if_pos (jcw z hd)] at hc
 refine(jfA hc w hg (vs:=[.string ⟨(decZ z).toArray⟩]) ?_).mono ?_
 ·simp only[DenL,Den];exact⟨_,_,rfl,⟨rfl,by omega⟩,rfl⟩
 ·rintro e w' ⟨v,h',rfl,hv,hb⟩
  simp only[Den] at hv
  rw[hv.1]
  exact⟨rfl,hb⟩
theorem int_w (z:Int)(h1 : -9223372036854775808≤z)(h2:z≤9223372036854775807)(w:World)(hg:GlW w):Calls Tryz.prog 116 #[.string ⟨(decZ z).toArray⟩] w fun e w'=>e = .returned (.tuple #[.int .i64 z,.int .i64 0])∧RowKit.Below w.heap.size w w':=by
 have hl:=decZ_len z h1 h2
 have hc:=wcheck_k z h1 h2 w hg
 have hp:=jgA z h1 h2
 have hsz:(⟨(decZ z).toArray⟩:ByteArray).size≤9223372036854775806:=by simp[ByteArray.size];omega
 have hpi:=fun w=>Tryz.strconv_ParseInt_10_at64_ok ⟨(decZ z).toArray⟩ hsz z (by simpa using hp) w
 go_enter Tryz.func116,Tryz.ntmps116
 go_wp2_with (go_at_call 158;refine hc.mono ?_)
 rintro e w1 ⟨rfl,hb1⟩
 go_wp2_with (go_at_call 163;refine(hpi w1).mono ?_)
 rintro e w2 ⟨rfl,hw⟩
 have hb2:RowKit.Below w.heap.size w w2:=by
  rcases hw with rfl|⟨t,rfl⟩
  ·exact hb1
  ·exact hb1.trans ((Lib.bytesWorld_below w1 _ _).mono hb1.size)
 go_wp2
 go_ret2
 exact⟨rfl,hb2⟩
theorem int_c (z:Int)(h1 : -9223372036854775808≤z)(h2:z≤9223372036854775807):Called Tryz.prog 116 [.str (decZ z)] (.tup [.int .i64 z,.int .i64 0]):=by
 refine ja5 Tryz.func116 rfl rfl rfl fun w hp vs ha hd=>?_
 simp only[DenL,Den] at hd
 obtain⟨v,_,rfl,⟨rfl,_⟩,rfl⟩:=hd
 refine(int_w z h1 h2 w ha.blk).mono fun e w' ⟨he,hw⟩=>⟨⟨_,he,fun hp=>?_⟩,hw⟩
 simp only[Den,DenL]
 exact⟨_,rfl,_,_,rfl,⟨rfl,by simp only[InR,V.lo,V.hi];omega⟩,_,_,rfl,⟨rfl,by constructor<;>decide⟩,rfl⟩
end Go.Proofs.YtbnghipgicmpdaaGreatDoor
end
section
namespace Go.Proofs.YtbnghipgicmpdaaGreatDoor
open Go Go.V Go.Nb
theorem plus_m (a b : Nat) (ha : (mg 1000000000 a).length ≤ 100000000) (hb : (mg 1000000000 b).length ≤ 100000000) : Cl 206 [.ints .u32 (mg 1000000000 a), .ints .u32 (mg 1000000000 b)] (.ints .u32 (mg 1000000000 (a + b))) := by
  have hdx := mg_dg (B := 1000000000) (by omega) a
  have hdy := mg_dg (B := 1000000000) (by omega) b
  have hvx := jaH (B := 1000000000) (by omega) a
  have hvy := jaH (B := 1000000000) (by omega) b
  have hpx := fun h => jcS (B := 1000000000) (n := a) (by omega) h
  have hpy := fun h => jcS (B := 1000000000) (n := b) (by omega) h
  have hex := jcl (B := 1000000000) (n := a) (by omega)
  have hey := jcl (B := 1000000000) (n := b) (by omega)
  generalize mg 1000000000 a = xs at *
  generalize mg 1000000000 b = ys at *
  refine V.en tbOk Tryz.func206 ?_
  (conv => whnf)
  refine V.st ?_
  refine V.br (fun hl => ?_) (fun hl => ?_)
  · rw [decide_eq_true_eq] at hl
    obtain ⟨N, hN⟩ : ∃ N, N = ys.length + 1 := ⟨_, rfl⟩
    have e1 : (ys.length : Int) + 1 = (N : Int) := by omega
    rw [Nat.add_comm a b]
    (conv => whnf)
    (try simp only [e1, jjb])
    repeat ((first | refine V.s1 ?_); (try simp only [e1, jjb]))
    (obtain ⟨hdx, hdy⟩ := And.intro hdy hdx)
    refine jad ((false, 0, [], 0) : Bool × Nat × List Int × Int) (fun s => s.2.2.1.length = s.2.1 ∧ Dg 1000000000 s.2.2.1 ∧ (0 ≤ s.2.2.2 ∧ s.2.2.2 ≤ 1) ∧ val 1000000000 s.2.2.1 + s.2.2.2 * ((1000000000 : Nat) : Int) ^ s.2.1 = val 1000000000 ((ys).take s.2.1) + val 1000000000 ((xs).take s.2.1) ∧ s.2.1 ≤ (ys).length ∧ (s.1 = false → s.2.2.1 = [])) (fun s => (ys).length - s.2.1)
      (fun s => match s.1 with | false => [(22, .int .i64 s.2.1), (6, .int .u32 s.2.2.2), (5, .osl 19 0 0)] | true => [(22, .int .i64 s.2.1), (6, .int .u32 s.2.2.2), (5, .osl 47 0 s.2.2.1.length)]) (fun s => match s.1 with | false => [(19, .arr .u32 [])] | true => [(47, .arr .u32 s.2.2.1), (19, .gone)]) ?_ ?_ ?_
    · exact V.wk
    · exact ⟨rfl, fun x hx => by simp at hx, by simp, by simp [val], ji2 _, fun _ => rfl⟩
    rintro ⟨_ | _, k, out, c⟩ ⟨h1, h2, h3, h4, h5, h6⟩
    · dsimp only at h1 h2 h3 h4 h5 h6 ⊢
      have h7 := h6 rfl
      clear h6
      subst h7
      have vx := jaj 1000000000 ys k
      have vy := jaj 1000000000 xs k
      have bx := jam (by omega) hdx k
      have by' := jam (by omega) hdy k
      have gy := jcf (xs := xs) (k := k)
      generalize hx0 : (ys).getD k 0 = x at *
      generalize hy0 : (xs).getD k 0 = y at *
      refine V.r0 @jjb ?_
      refine V.br (fun hq => ?_) (fun hq => ?_)
      · rw [decide_eq_true_eq] at hq
        refine V.r0 (V.a2 @jjb hx0) ?_
        refine V.br (fun hy => ?_) (fun hy => ?_)
        · rw [decide_eq_true_eq] at hy
          refine V.r0 (V.a2 @jjb hy0) ?_
          refine V.br (fun hz => ?_) (fun hz => ?_)
          · rw [decide_eq_true_eq] at hz
            have hst := jaE (B := 1000000000) (x := x) (y := y) (d := (x + c + y - 1000000000)) (c' := 1) h1 h4 (by omega)
            rw [← vx, ← vy] at hst
            have hdg : Dg 1000000000 (([] : List Int) ++ [(x + c + y - 1000000000)]) := jai h2 (jay (by omega))
            have hl2 : (([] : List Int) ++ [(x + c + y - 1000000000)]).length = k + 1 := by simp [h1]
            have hl3 : (([] : List Int)).length + (List.take 1 (List.drop 0 [(x + c + y - 1000000000)])).length = (([] : List Int) ++ [(x + c + y - 1000000000)]).length := by simp
            have hkc : ((k : Int) + 1) = ((k + 1 : Nat) : Int) := by omega
            refine V.r0 (V.a3 hl3 hkc @ji8) ?_
            try refine And.intro (fun _ => ⟨trivial, by omega⟩) ?_
            refine V.r0 (V.a3 hl3 hkc @ji8) ?_
            exact ⟨(true, k + 1, ([] : List Int) ++ [(x + c + y - 1000000000)], 1), ⟨hl2, hdg, by dsimp only; omega, hst, by dsimp only; omega, fun h => by cases h⟩, by dsimp only; omega, V.wk⟩
          · rw [decide_eq_false_iff_not] at hz
            have hst := jaE (B := 1000000000) (x := x) (y := y) (d := (x + c + y)) (c' := 0) h1 h4 (by omega)
            rw [← vx, ← vy] at hst
            have hdg : Dg 1000000000 (([] : List Int) ++ [(x + c + y)]) := jai h2 (jay (by omega))
            have hl2 : (([] : List Int) ++ [(x + c + y)]).length = k + 1 := by simp [h1]
            have hl3 : (([] : List Int)).length + (List.take 1 (List.drop 0 [(x + c + y)])).length = (([] : List Int) ++ [(x + c + y)]).length := by simp
            have hkc : ((k : Int) + 1) = ((k + 1 : Nat) : Int) := by omega
            refine V.r0 (V.a3 hl3 hkc @ji8) ?_
            try refine And.intro (fun _ => ⟨trivial, by omega⟩) ?_
            refine V.r0 (V.a3 hl3 hkc @ji8) ?_
            exact ⟨(true, k + 1, ([] : List Int) ++ [(x + c + y)], 0), ⟨hl2, hdg, by dsimp only; omega, hst, by dsimp only; omega, fun h => by cases h⟩, by dsimp only; omega, V.wk⟩
        · rw [decide_eq_false_iff_not] at hy
          have := gy (by omega)
          refine V.r0 @jjb ?_
          refine V.br (fun hz => ?_) (fun hz => ?_)
          · rw [decide_eq_true_eq] at hz
            have hst := jaE (B := 1000000000) (x := x) (y := y) (d := (x + c - 1000000000)) (c' := 1) h1 h4 (by omega)
            rw [← vx, ← vy] at hst
            have hdg : Dg 1000000000 (([] : List Int) ++ [(x + c - 1000000000)]) := jai h2 (jay (by omega))
            have hl2 : (([] : List Int) ++ [(x + c - 1000000000)]).length = k + 1 := by simp [h1]
            have hl3 : (([] : List Int)).length + (List.take 1 (List.drop 0 [(x + c - 1000000000)])).length = (([] : List Int) ++ [(x + c - 1000000000)]).length := by simp
            have hkc : ((k : Int) + 1) = ((k + 1 : Nat) : Int) := by omega
            refine V.r0 (V.a3 hl3 hkc @ji8) ?_
            try refine And.intro (fun _ => ⟨trivial, by omega⟩) ?_
            refine V.r0 (V.a3 hl3 hkc @ji8) ?_
            exact ⟨(true, k + 1, ([] : List Int) ++ [(x + c - 1000000000)], 1), ⟨hl2, hdg, by dsimp only; omega, hst, by dsimp only; omega, fun h => by cases h⟩, by dsimp only; omega, V.wk⟩
          · rw [decide_eq_false_iff_not] at hz
            have hst := jaE (B := 1000000000) (x := x) (y := y) (d := (x + c)) (c' := 0) h1 h4 (by omega)
            rw [← vx, ← vy] at hst
            have hdg : Dg 1000000000 (([] : List Int) ++ [(x + c)]) := jai h2 (jay (by omega))
            have hl2 : (([] : List Int) ++ [(x + c)]).length = k + 1 := by simp [h1]
            have hl3 : (([] : List Int)).length + (List.take 1 (List.drop 0 [(x + c)])).length = (([] : List Int) ++ [(x + c)]).length := by simp
            have hkc : ((k : Int) + 1) = ((k + 1 : Nat) : Int) := by omega
            refine V.r0 (V.a3 hl3 hkc @ji8) ?_
            try refine And.intro (fun _ => ⟨trivial, by omega⟩) ?_
            refine V.r0 (V.a3 hl3 hkc @ji8) ?_
            exact ⟨(true, k + 1, ([] : List Int) ++ [(x + c)], 0), ⟨hl2, hdg, by dsimp only; omega, hst, by dsimp only; omega, fun h => by cases h⟩, by dsimp only; omega, V.wk⟩
      · rw [decide_eq_false_iff_not] at hq
        have h7 : k = 0 := by simpa using h1.symm
        have h8 : (ys).length = 0 := by omega
        have e2 := hey.mp (jjG.mp h8)
        have e3 := hex.mp (jjG.mp (by omega))
        have e4 : c = 0 := by
          rw [jjW (by omega), jjW (by omega), hvy, hvx, e2, e3, h7] at h4
          simpa [val] using h4
        subst e4 h7
        rw [e2, e3]
        (conv => whnf)
        refine V.st ?_
        exact Fin.of rfl
    · clear h6
      dsimp only at h1 h2 h3 h4 h5 ⊢
      have vx := jaj 1000000000 ys k
      have vy := jaj 1000000000 xs k
      have bx := jam (by omega) hdx k
      have by' := jam (by omega) hdy k
      have gy := jcf (xs := xs) (k := k)
      generalize hx0 : (ys).getD k 0 = x at *
      generalize hy0 : (xs).getD k 0 = y at *
      refine V.r0 @jjb ?_
      refine V.br (fun hq => ?_) (fun hq => ?_)
      · rw [decide_eq_true_eq] at hq
        refine V.r0 (V.a2 @jjb hx0) ?_
        refine V.br (fun hy => ?_) (fun hy => ?_)
        · rw [decide_eq_true_eq] at hy
          refine V.r0 (V.a2 @jjb hy0) ?_
          refine V.br (fun hz => ?_) (fun hz => ?_)
          · rw [decide_eq_true_eq] at hz
            have hst := jaE (B := 1000000000) (x := x) (y := y) (d := (x + c + y - 1000000000)) (c' := 1) h1 h4 (by omega)
            rw [← vx, ← vy] at hst
            have hdg : Dg 1000000000 (out ++ [(x + c + y - 1000000000)]) := jai h2 (jay (by omega))
            have hl2 : (out ++ [(x + c + y - 1000000000)]).length = k + 1 := by simp [h1]
            have hl3 : (out).length + (List.take 1 (List.drop 0 [(x + c + y - 1000000000)])).length = (out ++ [(x + c + y - 1000000000)]).length := by simp
            have hkc : ((k : Int) + 1) = ((k + 1 : Nat) : Int) := by omega
            refine V.r0 (V.a3 hl3 hkc @ji8) ?_
            try refine And.intro (fun _ => ⟨trivial, by omega⟩) ?_
            refine V.r0 (V.a3 hl3 hkc @ji8) ?_
            exact ⟨(true, k + 1, out ++ [(x + c + y - 1000000000)], 1), ⟨hl2, hdg, by dsimp only; omega, hst, by dsimp only; omega, fun h => by cases h⟩, by dsimp only; omega, V.wk⟩
          · rw [decide_eq_false_iff_not] at hz
            have hst := jaE (B := 1000000000) (x := x) (y := y) (d := (x + c + y)) (c' := 0) h1 h4 (by omega)
            rw [← vx, ← vy] at hst
            have hdg : Dg 1000000000 (out ++ [(x + c + y)]) := jai h2 (jay (by omega))
            have hl2 : (out ++ [(x + c + y)]).length = k + 1 := by simp [h1]
            have hl3 : (out).length + (List.take 1 (List.drop 0 [(x + c + y)])).length = (out ++ [(x + c + y)]).length := by simp
            have hkc : ((k : Int) + 1) = ((k + 1 : Nat) : Int) := by omega
            refine V.r0 (V.a3 hl3 hkc @ji8) ?_
            try refine And.intro (fun _ => ⟨trivial, by omega⟩) ?_
            refine V.r0 (V.a3 hl3 hkc @ji8) ?_
            exact ⟨(true, k + 1, out ++ [(x + c + y)], 0), ⟨hl2, hdg, by dsimp only; omega, hst, by dsimp only; omega, fun h => by cases h⟩, by dsimp only; omega, V.wk⟩
        · rw [decide_eq_false_iff_not] at hy
          have := gy (by omega)
          refine V.r0 @jjb ?_
          refine V.br (fun hz => ?_) (fun hz => ?_)
          · rw [decide_eq_true_eq] at hz
            have hst := jaE (B := 1000000000) (x := x) (y := y) (d := (x + c - 1000000000)) (c' := 1) h1 h4 (by omega)
            rw [← vx, ← vy] at hst
            have hdg : Dg 1000000000 (out ++ [(x + c - 1000000000)]) := jai h2 (jay (by omega))
            have hl2 : (out ++ [(x + c - 1000000000)]).length = k + 1 := by simp [h1]
            have hl3 : (out).length + (List.take 1 (List.drop 0 [(x + c - 1000000000)])).length = (out ++ [(x + c - 1000000000)]).length := by simp
            have hkc : ((k : Int) + 1) = ((k + 1 : Nat) : Int) := by omega
            refine V.r0 (V.a3 hl3 hkc @ji8) ?_
            try refine And.intro (fun _ => ⟨trivial, by omega⟩) ?_
            refine V.r0 (V.a3 hl3 hkc @ji8) ?_
            exact ⟨(true, k + 1, out ++ [(x + c - 1000000000)], 1), ⟨hl2, hdg, by dsimp only; omega, hst, by dsimp only; omega, fun h => by cases h⟩, by dsimp only; omega, V.wk⟩
          · rw [decide_eq_false_iff_not] at hz
            have hst := jaE (B := 1000000000) (x := x) (y := y) (d := (x + c)) (c' := 0) h1 h4 (by omega)
            rw [← vx, ← vy] at hst
            have hdg : Dg 1000000000 (out ++ [(x + c)]) := jai h2 (jay (by omega))
            have hl2 : (out ++ [(x + c)]).length = k + 1 := by simp [h1]
            have hl3 : (out).length + (List.take 1 (List.drop 0 [(x + c)])).length = (out ++ [(x + c)]).length := by simp
            have hkc : ((k : Int) + 1) = ((k + 1 : Nat) : Int) := by omega
            refine V.r0 (V.a3 hl3 hkc @ji8) ?_
            try refine And.intro (fun _ => ⟨trivial, by omega⟩) ?_
            refine V.r0 (V.a3 hl3 hkc @ji8) ?_
            exact ⟨(true, k + 1, out ++ [(x + c)], 0), ⟨hl2, hdg, by dsimp only; omega, hst, by dsimp only; omega, fun h => by cases h⟩, by dsimp only; omega, V.wk⟩
      · rw [decide_eq_false_iff_not] at hq
        have hk : k = (ys).length := by omega
        rw [jjW (by omega), jjW (by omega), hvy, hvx] at h4
        (conv => whnf)
        refine V.st ?_
        refine V.br (fun hc => ?_) (fun hc => ?_)
        · rw [decide_eq_true_eq] at hc
          have hc1 : c = 1 := by omega
          subst hc1
          have h8 : out ++ [1] = mg 1000000000 (b + a) := by
            have h9 : val 1000000000 (out ++ [1]) = ((b + a : Nat) : Int) := by rw [ja0, h1]; omega
            have h10 := jdQ (B := 1000000000) (l := out ++ [1]) (by omega) (jai h2 (jay (by omega))) (by
              rw [ja0, jjL, List.length_singleton, Nat.add_sub_cancel]
              have := jao h2
              omega)
            rw [h10, h9]; rfl
          (conv => whnf)
          refine V.st ?_
          exact Fin.of (by rw [← h8]; exact congrArg _ (jjW (by simp)))
        · rw [decide_eq_false_iff_not] at hc
          have hc1 : c = 0 := by omega
          subst hc1
          have h8 : out = mg 1000000000 (b + a) := by
            have h9 : val 1000000000 out = ((b + a : Nat) : Int) := by omega
            rcases jje b with h0 | h0
            · have h10 : (ys).length = 0 := by rw [hey.mpr h0]; rfl
              have e3 := hex.mp (jjG.mp (by omega))
              rw [h0, e3, jjG.mp (by omega : out.length = 0)]; rfl
            · have h10 := jdQ (B := 1000000000) (l := out) (by omega) h2 (by
                have h11 := hpy h0
                rw [h1, h9, hk]
                have h12 : ((1000000000 ^ ((ys).length - 1) : Nat) : Int) ≤ (b : Int) := by exact_mod_cast h11
                rw [jjw] at h12
                omega)
              rw [h10, h9]; rfl
          (conv => whnf)
          refine V.st ?_
          exact Fin.of (by rw [← h8, jjW (by simp)])
  · rw [decide_eq_false_iff_not] at hl
    obtain ⟨N, hN⟩ : ∃ N, N = xs.length + 1 := ⟨_, rfl⟩
    have e1 : (xs.length : Int) + 1 = (N : Int) := by omega
    (conv => whnf)
    (try simp only [e1, jjb])
    repeat ((first | refine V.s1 ?_); (try simp only [e1, jjb]))
    refine jad ((false, 0, [], 0) : Bool × Nat × List Int × Int) (fun s => s.2.2.1.length = s.2.1 ∧ Dg 1000000000 s.2.2.1 ∧ (0 ≤ s.2.2.2 ∧ s.2.2.2 ≤ 1) ∧ val 1000000000 s.2.2.1 + s.2.2.2 * ((1000000000 : Nat) : Int) ^ s.2.1 = val 1000000000 ((xs).take s.2.1) + val 1000000000 ((ys).take s.2.1) ∧ s.2.1 ≤ (xs).length ∧ (s.1 = false → s.2.2.1 = [])) (fun s => (xs).length - s.2.1)
      (fun s => match s.1 with | false => [(22, .int .i64 s.2.1), (6, .int .u32 s.2.2.2), (5, .osl 19 0 0)] | true => [(22, .int .i64 s.2.1), (6, .int .u32 s.2.2.2), (5, .osl 47 0 s.2.2.1.length)]) (fun s => match s.1 with | false => [(19, .arr .u32 [])] | true => [(47, .arr .u32 s.2.2.1), (19, .gone)]) ?_ ?_ ?_
    · exact V.wk
    · exact ⟨rfl, fun x hx => by simp at hx, by simp, by simp [val], ji2 _, fun _ => rfl⟩
    rintro ⟨_ | _, k, out, c⟩ ⟨h1, h2, h3, h4, h5, h6⟩
    · dsimp only at h1 h2 h3 h4 h5 h6 ⊢
      have h7 := h6 rfl
      clear h6
      subst h7
      have vx := jaj 1000000000 xs k
      have vy := jaj 1000000000 ys k
      have bx := jam (by omega) hdx k
      have by' := jam (by omega) hdy k
      have gy := jcf (xs := ys) (k := k)
      generalize hx0 : (xs).getD k 0 = x at *
      generalize hy0 : (ys).getD k 0 = y at *
      refine V.r0 @jjb ?_
      refine V.br (fun hq => ?_) (fun hq => ?_)
      · rw [decide_eq_true_eq] at hq
        refine V.r0 (V.a2 @jjb hx0) ?_
        refine V.br (fun hy => ?_) (fun hy => ?_)
        · rw [decide_eq_true_eq] at hy
          refine V.r0 (V.a2 @jjb hy0) ?_
          refine V.br (fun hz => ?_) (fun hz => ?_)
          · rw [decide_eq_true_eq] at hz
            have hst := jaE (B := 1000000000) (x := x) (y := y) (d := (x + c + y - 1000000000)) (c' := 1) h1 h4 (by omega)
            rw [← vx, ← vy] at hst
            have hdg : Dg 1000000000 (([] : List Int) ++ [(x + c + y - 1000000000)]) := jai h2 (jay (by omega))
            have hl2 : (([] : List Int) ++ [(x + c + y - 1000000000)]).length = k + 1 := by simp [h1]
            have hl3 : (([] : List Int)).length + (List.take 1 (List.drop 0 [(x + c + y - 1000000000)])).length = (([] : List Int) ++ [(x + c + y - 1000000000)]).length := by simp
            have hkc : ((k : Int) + 1) = ((k + 1 : Nat) : Int) := by omega
            refine V.r0 (V.a3 hl3 hkc @ji8) ?_
            try refine And.intro (fun _ => ⟨trivial, by omega⟩) ?_
            refine V.r0 (V.a3 hl3 hkc @ji8) ?_
            exact ⟨(true, k + 1, ([] : List Int) ++ [(x + c + y - 1000000000)], 1), ⟨hl2, hdg, by dsimp only; omega, hst, by dsimp only; omega, fun h => by cases h⟩, by dsimp only; omega, V.wk⟩
          · rw [decide_eq_false_iff_not] at hz
            have hst := jaE (B := 1000000000) (x := x) (y := y) (d := (x + c + y)) (c' := 0) h1 h4 (by omega)
            rw [← vx, ← vy] at hst
            have hdg : Dg 1000000000 (([] : List Int) ++ [(x + c + y)]) := jai h2 (jay (by omega))
            have hl2 : (([] : List Int) ++ [(x + c + y)]).length = k + 1 := by simp [h1]
            have hl3 : (([] : List Int)).length + (List.take 1 (List.drop 0 [(x + c + y)])).length = (([] : List Int) ++ [(x + c + y)]).length := by simp
            have hkc : ((k : Int) + 1) = ((k + 1 : Nat) : Int) := by omega
            refine V.r0 (V.a3 hl3 hkc @ji8) ?_
            try refine And.intro (fun _ => ⟨trivial, by omega⟩) ?_
            refine V.r0 (V.a3 hl3 hkc @ji8) ?_
            exact ⟨(true, k + 1, ([] : List Int) ++ [(x + c + y)], 0), ⟨hl2, hdg, by dsimp only; omega, hst, by dsimp only; omega, fun h => by cases h⟩, by dsimp only; omega, V.wk⟩
        · rw [decide_eq_false_iff_not] at hy
          have := gy (by omega)
          refine V.r0 @jjb ?_
          refine V.br (fun hz => ?_) (fun hz => ?_)
          · rw [decide_eq_true_eq] at hz
            have hst := jaE (B := 1000000000) (x := x) (y := y) (d := (x + c - 1000000000)) (c' := 1) h1 h4 (by omega)
            rw [← vx, ← vy] at hst
            have hdg : Dg 1000000000 (([] : List Int) ++ [(x + c - 1000000000)]) := jai h2 (jay (by omega))
            have hl2 : (([] : List Int) ++ [(x + c - 1000000000)]).length = k + 1 := by simp [h1]
            have hl3 : (([] : List Int)).length + (List.take 1 (List.drop 0 [(x + c - 1000000000)])).length = (([] : List Int) ++ [(x + c - 1000000000)]).length := by simp
            have hkc : ((k : Int) + 1) = ((k + 1 : Nat) : Int) := by omega
            refine V.r0 (V.a3 hl3 hkc @ji8) ?_
            try refine And.intro (fun _ => ⟨trivial, by omega⟩) ?_
            refine V.r0 (V.a3 hl3 hkc @ji8) ?_
            exact ⟨(true, k + 1, ([] : List Int) ++ [(x + c - 1000000000)], 1), ⟨hl2, hdg, by dsimp only; omega, hst, by dsimp only; omega, fun h => by cases h⟩, by dsimp only; omega, V.wk⟩
          · rw [decide_eq_false_iff_not] at hz
            have hst := jaE (B := 1000000000) (x := x) (y := y) (d := (x + c)) (c' := 0) h1 h4 (by omega)
            rw [← vx, ← vy] at hst
            have hdg : Dg 1000000000 (([] : List Int) ++ [(x + c)]) := jai h2 (jay (by omega))
            have hl2 : (([] : List Int) ++ [(x + c)]).length = k + 1 := by simp [h1]
            have hl3 : (([] : List Int)).length + (List.take 1 (List.drop 0 [(x + c)])).length = (([] : List Int) ++ [(x + c)]).length := by simp
            have hkc : ((k : Int) + 1) = ((k + 1 : Nat) : Int) := by omega
            refine V.r0 (V.a3 hl3 hkc @ji8) ?_
            try refine And.intro (fun _ => ⟨trivial, by omega⟩) ?_
            refine V.r0 (V.a3 hl3 hkc @ji8) ?_
            exact ⟨(true, k + 1, ([] : List Int) ++ [(x + c)], 0), ⟨hl2, hdg, by dsimp only; omega, hst, by dsimp only; omega, fun h => by cases h⟩, by dsimp only; omega, V.wk⟩
      · rw [decide_eq_false_iff_not] at hq
        have h7 : k = 0 := by simpa using h1.symm
        have h8 : (xs).length = 0 := by omega
        have e2 := hex.mp (jjG.mp h8)
        have e3 := hey.mp (jjG.mp (by omega))
        have e4 : c = 0 := by
          rw [jjW (by omega), jjW (by omega), hvx, hvy, e2, e3, h7] at h4
          simpa [val] using h4
        subst e4 h7
        rw [e2, e3]
        (conv => whnf)
        refine V.st ?_
        exact Fin.of rfl
    · clear h6
      dsimp only at h1 h2 h3 h4 h5 ⊢
      have vx := jaj 1000000000 xs k
      have vy := jaj 1000000000 ys k
      have bx := jam (by omega) hdx k
      have by' := jam (by omega) hdy k
      have gy := jcf (xs := ys) (k := k)
      generalize hx0 : (xs).getD k 0 = x at *
      generalize hy0 : (ys).getD k 0 = y at *
      refine V.r0 @jjb ?_
      refine V.br (fun hq => ?_) (fun hq => ?_)
      · rw [decide_eq_true_eq] at hq
        refine V.r0 (V.a2 @jjb hx0) ?_
        refine V.br (fun hy => ?_) (fun hy => ?_)
        · rw [decide_eq_true_eq] at hy
          refine V.r0 (V.a2 @jjb hy0) ?_
          refine V.br (fun hz => ?_) (fun hz => ?_)
          · rw [decide_eq_true_eq] at hz
            have hst := jaE (B := 1000000000) (x := x) (y := y) (d := (x + c + y - 1000000000)) (c' := 1) h1 h4 (by omega)
            rw [← vx, ← vy] at hst
            have hdg : Dg 1000000000 (out ++ [(x + c + y - 1000000000)]) := jai h2 (jay (by omega))
            have hl2 : (out ++ [(x + c + y - 1000000000)]).length = k + 1 := by simp [h1]
            have hl3 : (out).length + (List.take 1 (List.drop 0 [(x + c + y - 1000000000)])).length = (out ++ [(x + c + y - 1000000000)]).length := by simp
            have hkc : ((k : Int) + 1) = ((k + 1 : Nat) : Int) := by omega
            refine V.r0 (V.a3 hl3 hkc @ji8) ?_
            try refine And.intro (fun _ => ⟨trivial, by omega⟩) ?_
            refine V.r0 (V.a3 hl3 hkc @ji8) ?_
            exact ⟨(true, k + 1, out ++ [(x + c + y - 1000000000)], 1), ⟨hl2, hdg, by dsimp only; omega, hst, by dsimp only; omega, fun h => by cases h⟩, by dsimp only; omega, V.wk⟩
          · rw [decide_eq_false_iff_not] at hz
            have hst := jaE (B := 1000000000) (x := x) (y := y) (d := (x + c + y)) (c' := 0) h1 h4 (by omega)
            rw [← vx, ← vy] at hst
            have hdg : Dg 1000000000 (out ++ [(x + c + y)]) := jai h2 (jay (by omega))
            have hl2 : (out ++ [(x + c + y)]).length = k + 1 := by simp [h1]
            have hl3 : (out).length + (List.take 1 (List.drop 0 [(x + c + y)])).length = (out ++ [(x + c + y)]).length := by simp
            have hkc : ((k : Int) + 1) = ((k + 1 : Nat) : Int) := by omega
            refine V.r0 (V.a3 hl3 hkc @ji8) ?_
            try refine And.intro (fun _ => ⟨trivial, by omega⟩) ?_
            refine V.r0 (V.a3 hl3 hkc @ji8) ?_
            exact ⟨(true, k + 1, out ++ [(x + c + y)], 0), ⟨hl2, hdg, by dsimp only; omega, hst, by dsimp only; omega, fun h => by cases h⟩, by dsimp only; omega, V.wk⟩
        · rw [decide_eq_false_iff_not] at hy
          have := gy (by omega)
          refine V.r0 @jjb ?_
          refine V.br (fun hz => ?_) (fun hz => ?_)
          · rw [decide_eq_true_eq] at hz
            have hst := jaE (B := 1000000000) (x := x) (y := y) (d := (x + c - 1000000000)) (c' := 1) h1 h4 (by omega)
            rw [← vx, ← vy] at hst
            have hdg : Dg 1000000000 (out ++ [(x + c - 1000000000)]) := jai h2 (jay (by omega))
            have hl2 : (out ++ [(x + c - 1000000000)]).length = k + 1 := by simp [h1]
            have hl3 : (out).length + (List.take 1 (List.drop 0 [(x + c - 1000000000)])).length = (out ++ [(x + c - 1000000000)]).length := by simp
            have hkc : ((k : Int) + 1) = ((k + 1 : Nat) : Int) := by omega
            refine V.r0 (V.a3 hl3 hkc @ji8) ?_
            try refine And.intro (fun _ => ⟨trivial, by omega⟩) ?_
            refine V.r0 (V.a3 hl3 hkc @ji8) ?_
            exact ⟨(true, k + 1, out ++ [(x + c - 1000000000)], 1), ⟨hl2, hdg, by dsimp only; omega, hst, by dsimp only; omega, fun h => by cases h⟩, by dsimp only; omega, V.wk⟩
          · rw [decide_eq_false_iff_not] at hz
            have hst := jaE (B := 1000000000) (x := x) (y := y) (d := (x + c)) (c' := 0) h1 h4 (by omega)
            rw [← vx, ← vy] at hst
            have hdg : Dg 1000000000 (out ++ [(x + c)]) := jai h2 (jay (by omega))
            have hl2 : (out ++ [(x + c)]).length = k + 1 := by simp [h1]
            have hl3 : (out).length + (List.take 1 (List.drop 0 [(x + c)])).length = (out ++ [(x + c)]).length := by simp
            have hkc : ((k : Int) + 1) = ((k + 1 : Nat) : Int) := by omega
            refine V.r0 (V.a3 hl3 hkc @ji8) ?_
            try refine And.intro (fun _ => ⟨trivial, by omega⟩) ?_
            refine V.r0 (V.a3 hl3 hkc @ji8) ?_
            exact ⟨(true, k + 1, out ++ [(x + c)], 0), ⟨hl2, hdg, by dsimp only; omega, hst, by dsimp only; omega, fun h => by cases h⟩, by dsimp only; omega, V.wk⟩
      · rw [decide_eq_false_iff_not] at hq
        have hk : k = (xs).length := by omega
        rw [jjW (by omega), jjW (by omega), hvx, hvy] at h4
        (conv => whnf)
        refine V.st ?_
        refine V.br (fun hc => ?_) (fun hc => ?_)
        · rw [decide_eq_true_eq] at hc
          have hc1 : c = 1 := by omega
          subst hc1
          have h8 : out ++ [1] = mg 1000000000 (a + b) := by
            have h9 : val 1000000000 (out ++ [1]) = ((a + b : Nat) : Int) := by rw [ja0, h1]; omega
            have h10 := jdQ (B := 1000000000) (l := out ++ [1]) (by omega) (jai h2 (jay (by omega))) (by
              rw [ja0, jjL, List.length_singleton, Nat.add_sub_cancel]
              have := jao h2
              omega)
            rw [h10, h9]; rfl
          (conv => whnf)
          refine V.st ?_
          exact Fin.of (by rw [← h8]; exact congrArg _ (jjW (by simp)))
        · rw [decide_eq_false_iff_not] at hc
          have hc1 : c = 0 := by omega
          subst hc1
          have h8 : out = mg 1000000000 (a + b) := by
            have h9 : val 1000000000 out = ((a + b : Nat) : Int) := by omega
            rcases jje a with h0 | h0
            · have h10 : (xs).length = 0 := by rw [hex.mpr h0]; rfl
              have e3 := hey.mp (jjG.mp (by omega))
              rw [h0, e3, jjG.mp (by omega : out.length = 0)]; rfl
            · have h10 := jdQ (B := 1000000000) (l := out) (by omega) h2 (by
                have h11 := hpx h0
                rw [h1, h9, hk]
                have h12 : ((1000000000 ^ ((xs).length - 1) : Nat) : Int) ≤ (a : Int) := by exact_mod_cast h11
                rw [jjw] at h12
                omega)
              rw [h10, h9]; rfl
          (conv => whnf)
          refine V.st ?_
          exact Fin.of (by rw [← h8, jjW (by simp)])
theorem jgB {out:List Int}{n k:Nat}{d:Int}(h:out.length=k)(hk:k<n):(out++List.replicate (n-k) 0).set k d=(out++[d])++List.replicate (n-(k+1)) 0:=by
 subst h
 have e:n-out.length=(n-(out.length+1))+1:=by omega
 rw[e,List.replicate_succ,List.set_append_right _ _ (jjc _),Nat.sub_self,List.set_cons_zero]
 simp
theorem jiY:type_of% @jjb∧type_of% @ji8:=⟨@jjb,@ji8⟩
theorem minus_m (a b:Nat)(hba:b≤a)(ha:(mg 1000000000 a).length≤100000000):Cl 207 [.ints .u32 (mg 1000000000 a),.ints .u32 (mg 1000000000 b)] (.ints .u32 (mg 1000000000 (a-b))):=by
 have hdx:=mg_dg (B:=1000000000) (by omega) a
 have hdy:=mg_dg (B:=1000000000) (by omega) b
 have hvx:=jaH (B:=1000000000) (by omega) a
 have hvy:=jaH (B:=1000000000) (by omega) b
 have hlen:=jah (B:=1000000000) (by omega) hba
 generalize mg 1000000000 a=xs at *
 generalize mg 1000000000 b=ys at *
 refine V.en tbOk Tryz.func207 ?_
 refine V.r0 @jjb ?_
 refine jad ((0,[],0):Nat×List Int×Int) (fun s=>s.2.1.length=s.1∧Dg 1000000000 s.2.1∧(0≤s.2.2∧s.2.2≤1)∧val 1000000000 s.2.1-s.2.2*((1000000000:Nat):Int)^s.1=val 1000000000 (xs.take s.1)-val 1000000000 (ys.take s.1)∧s.1≤xs.length) (fun s=>xs.length-s.1)
  (fun s=>[(15,.int .i64 s.1),(6,.int .u32 s.2.2),(5,.osl 12 0 xs.length)]) (fun s=>[(12,.arr .u32 (s.2.1++List.replicate (xs.length-s.1) 0))]) ?_ ?_ ?_
 ·exact V.wk
 ·exact⟨rfl,fun x hx=>by simp at hx,by simp,by simp[val],ji2 _⟩
 rintro⟨k,out,c⟩ ⟨h1,h2,h3,h4,h5⟩
 dsimp only at h1 h2 h3 h4 h5 ⊢
 have vx:=jaj 1000000000 xs k
 have vy:=jaj 1000000000 ys k
 have bx:=jam (by omega) hdx k
 have by':=jam (by omega) hdy k
 have gy:=jcf (xs:=ys) (k:=k)
 generalize hx0:xs.getD k 0=x at *
 generalize hy0:ys.getD k 0=y at *
 refine V.r0 @jjb ?_
 refine V.br (fun hq=>?_) (fun hq=>?_)
 ·rw[decide_eq_true_eq] at hq
  refine V.r0 (V.a2 @jjb hx0) ?_
  refine V.br (fun hy=>?_) (fun hy=>?_)
  ·rw[decide_eq_true_eq] at hy
   refine V.r0 (V.a2 @jjb hy0) ?_
   refine V.br (fun hz=>?_) (fun hz=>?_)
   ·rw[decide_eq_true_eq] at hz
    have hst:=jb1 (B:=1000000000) (x:=x) (y:=y) (d:=(x+1000000000-(c+y))) (b':=1) h1 h4 (by omega)
    rw[← vx,← vy] at hst
    have hdg:Dg 1000000000 (out++[(x+1000000000-(c+y))]):=jai h2 (jay (by omega))
    have hps:=jgB (d:=(x+1000000000-(c+y))) (n:=xs.length) h1 (by omega)
    have hkc:((k:Int)+1)=((k+1:Nat):Int):=by omega
    refine V.r0 (V.a3 jiY hps hkc) ?_
    refine V.r0 (V.a3 jiY hps hkc) ?_
    exact⟨(k+1,out++[(x+1000000000-(c+y))],1),⟨by dsimp only;simp[h1],hdg,by dsimp only;omega,hst,by dsimp only;omega⟩,by dsimp only;omega,V.wk⟩
   ·rw[decide_eq_false_iff_not] at hz
    have hst:=jb1 (B:=1000000000) (x:=x) (y:=y) (d:=(x-(c+y))) (b':=0) h1 h4 (by omega)
    rw[← vx,← vy] at hst
    have hdg:Dg 1000000000 (out++[(x-(c+y))]):=jai h2 (jay (by omega))
    have hps:=jgB (d:=(x-(c+y))) (n:=xs.length) h1 (by omega)
    have hkc:((k:Int)+1)=((k+1:Nat):Int):=by omega
    refine V.r0 (V.a3 jiY hps hkc) ?_
    refine V.r0 (V.a3 jiY hps hkc) ?_
    exact⟨(k+1,out++[(x-(c+y))],0),⟨by dsimp only;simp[h1],hdg,by dsimp only;omega,hst,by dsimp only;omega⟩,by dsimp only;omega,V.wk⟩
  ·rw[decide_eq_false_iff_not] at hy
   have:=gy (by omega)
   refine V.r0 @jjb ?_
   refine V.br (fun hz=>?_) (fun hz=>?_)
   ·rw[decide_eq_true_eq] at hz
    have hst:=jb1 (B:=1000000000) (x:=x) (y:=y) (d:=(x+1000000000-c)) (b':=1) h1 h4 (by omega)
    rw[← vx,← vy] at hst
    have hdg:Dg 1000000000 (out++[(x+1000000000-c)]):=jai h2 (jay (by omega))
    have hps:=jgB (d:=(x+1000000000-c)) (n:=xs.length) h1 (by omega)
    have hkc:((k:Int)+1)=((k+1:Nat):Int):=by omega
    refine V.r0 (V.a3 jiY hps hkc) ?_
    refine V.r0 (V.a3 jiY hps hkc) ?_
    exact⟨(k+1,out++[(x+1000000000-c)],1),⟨by dsimp only;simp[h1],hdg,by dsimp only;omega,hst,by dsimp only;omega⟩,by dsimp only;omega,V.wk⟩
   ·rw[decide_eq_false_iff_not] at hz
    have hst:=jb1 (B:=1000000000) (x:=x) (y:=y) (d:=(x-c)) (b':=0) h1 h4 (by omega)
    rw[← vx,← vy] at hst
    have hdg:Dg 1000000000 (out++[(x-c)]):=jai h2 (jay (by omega))
    have hps:=jgB (d:=(x-c)) (n:=xs.length) h1 (by omega)
    have hkc:((k:Int)+1)=((k+1:Nat):Int):=by omega
    refine V.r0 (V.a3 jiY hps hkc) ?_
    refine V.r0 (V.a3 jiY hps hkc) ?_
    exact⟨(k+1,out++[(x-c)],0),⟨by dsimp only;simp[h1],hdg,by dsimp only;omega,hst,by dsimp only;omega⟩,by dsimp only;omega,V.wk⟩
 ·rw[decide_eq_false_iff_not] at hq
  have hk:k=xs.length:=by omega
  rw[jjW (by omega),jjW (by omega),hvx,hvy] at h4
  have h0:=jao h2
  have h6:=jcg h2
  have hc:c=0:=by
   rw[h1] at h6
   rcases (by omega:c=0∨c=1) with e|e
   ·exact e
   ·subst e;omega
  subst hc
  have htr:=jfO out h2 (by omega)
  rw[(by omega:(val 1000000000 out).toNat=a-b)] at htr
  have hrep:out++List.replicate (xs.length-k) 0=out:=by rw[hk,Nat.sub_self];simp
  rw[hrep]
  rw[← jj6 (l:=out),h1,hk] at htr
  refine V.u1 htr ?_
  exact Fin.of rfl
theorem je5 (x y:Rat):(x.num*y.den + -(y.num*x.den)).sign=(if x<y then -1 else if x=y then 0 else 1:Int):=by
 have h1:x<y↔x.num*y.den<y.num*x.den:=Rat.lt_iff x y
 have h2:x=y↔x.num*y.den=y.num*x.den:=by
  conv=>lhs;rw[← jjC x,← jjC y]
  exact Rat.divInt_eq_divInt_iff (by have:=x.den_pos;omega) (by have:=y.den_pos;omega)
 by_cases a1:x<y
 ·rw[if_pos a1];exact jjz (by have:=h1.1 a1;omega)
 ·rw[if_neg a1]
  by_cases a2:x=y
  ·rw[if_pos a2,show x.num*y.den + -(y.num*x.den)=0 by have:=h2.1 a2;omega];rfl
  ·rw[if_neg a2]
   refine jjA ?_
   have b1:¬ (x.num*y.den<y.num*x.den):=fun h=>a1 (h1.2 h)
   have b2:¬ (x.num*y.den=y.num*x.den):=fun h=>a2 (h2.2 h)
   omega
def ordQ (x y:Rat):Int:=if x<y then -1 else if x=y then 0 else 1
end Go.Proofs.YtbnghipgicmpdaaGreatDoor
end
