/- What functions of the program answer at given values, part 9. Conditions: those that each theorem names. -/
import Derived.Test.YtbhpaandigaanaaGreatDoorLocateBackH8
import Derived.Test.YtbhpaandigaanaaGreatDoorLocateBackH7
import Derived.Test.YtbhpaandigaanaaGreatDoorLocateBackSi
import Derived.WalkKit
import Derived.BigCall
import Derived.Test.YtbhpaandigaanaaGreatDoorLocateBackH6
set_option linter.unusedSimpArgs false
set_option linter.unusedVariables false
set_option maxHeartbeats 8000000
set_option maxRecDepth 100000
section
namespace Go.Proofs.YtbhpaandigaanaaGreatDoor
open Go Go.V Go.Nb
def okD (d:List UInt8)(neg:Bool):Bool := !(decide (d.length=0) || decide (600<d.length)) && d.all isDig && !(decide (d.getD 0 0=48) && (neg || decide (1<d.length)))
def okW (s:List UInt8):Bool:=okD (Go.Lib.trimPrefix s [45]) (Go.Lib.hasPrefix s [45])
theorem dig_lo (c:UInt8):(isDig c=true) ↔ ¬ (c.toNat:Int)<48 ∧ ¬ (57<(c.toNat:Int)):=by
 simp only[isDig,decide_eq_true_eq];omega
theorem Fin.any' (r:D):Fin .any r:=⟨fun _ _ _=>by simp[Den]⟩
theorem wread_g (s:List UInt8)(hs:s.length≤281474976710656):Cl 112 [.str s] (.tup [.agg [.any,.any],.bool (okW s)]):=by
 have hcp:=jeh s [45]
 unfold okW
 have hdl:(Go.Lib.trimPrefix s [45]).length≤s.length:=by unfold Go.Lib.trimPrefix;split<;>simp
 generalize Go.Lib.trimPrefix s [45]=d at *
 generalize Go.Lib.hasPrefix s [45]=neg at *
 refine V.en tbOk Tryz.func112 ?_
 (conv=>whnf)
 refine V.st ?_
 repeat ((try ((with_reducible refine .ext ?_);(conv=>whnf)));(with_reducible refine jaa (r:=?_) ?_ ?_);rotate_left;(focus (first|exact(hcp)));(conv=>whnf);refine V.st ?_)
 refine V.br (fun hq=>?_) (fun hq=>?_)
 ·simp only[Bool.or_eq_true,decide_eq_true_eq] at hq
  have hf:okD d neg=false:=by
   unfold okD
   rcases hq with h|h
   ·rw[decide_eq_true (show d.length=0 by omega)];rfl
   ·rw[decide_eq_true (show 600<d.length by omega),Bool.or_true];rfl
  rw[hf]
  (conv=>whnf)
  refine V.st ?_
  exact Fin.tup ⟨Fin.agg ⟨Fin.any' _,Fin.any' _,trivial⟩,Fin.of rfl,trivial⟩
 ·simp only[jhk,decide_eq_false_iff_not] at hq
  (conv=>whnf)
  refine V.st ?_
  refine jae (0:Nat) (fun k=>k≤d.length ∧ ∀ i,i<k→isDig (d.getD i 0)=true) (fun k=>d.length-k) (fun k=>[(23,.int .i64 k)]) (fun _=>[]) ?_ ?_ ?_
  ·exact V.wk
  ·exact⟨jg2 _,fun i hi=>by omega⟩
  intro k hk
  have hkc:((k:Int)+1)=((k+1:Nat):Int):=by omega
  (conv=>whnf)
  refine V.st ?_
  refine V.br (fun hq2=>?_) (fun hq2=>?_)
  ·rw[decide_eq_true_eq] at hq2
   have hdl:=dig_lo (d.getD k 0)
   generalize hc:d.getD k 0=c at *
   refine V.r0 (V.a3 @jha hc hkc) ?_
   refine V.br (fun hq3=>?_) (fun hq3=>?_)
   ·rw[Bool.or_eq_true,decide_eq_true_eq,decide_eq_true_eq] at hq3
    have hf:okD d neg=false:=by
     have h1:d.all isDig=false:=by
      rw[List.all_eq_false]
      refine⟨c,?_,fun h=>by have:=hdl.1 h;omega⟩
      rw[← hc,jhF,jhI (by omega)]
      exact List.getElem_mem _
     unfold okD
     rw[h1,Bool.and_false,Bool.false_and]
    rw[hf]
    (conv=>whnf)
    refine V.st ?_
    exact Fin.tup ⟨Fin.agg ⟨Fin.any' _,Fin.any' _,trivial⟩,Fin.of rfl,trivial⟩
   ·rw[jhk,decide_eq_false_iff_not,decide_eq_false_iff_not] at hq3
    refine V.r0 hkc ?_
    refine⟨k+1,⟨by omega,fun i hi=>?_⟩,by omega,V.wk⟩
    rcases jhi i k with h|h
    ·exact hk.2 i h
    ·obtain rfl:i=k:=by omega
     rw[hc];exact hdl.2 (by omega)
  ·rw[decide_eq_false_iff_not] at hq2
   obtain rfl:k=d.length:=by omega
   have hall:∀ c∈d,isDig c=true:=fun c hc=>by
    obtain⟨i,hi,e⟩:=List.getElem_of_mem hc
    have:=hk.2 i hi
    rw[jhF,jhI hi] at this
    rw[← e];exact this
   have hok:okD d neg = !(decide (d.getD 0 0=48) && (neg || decide (1<d.length))):=by
    unfold okD
    rw[jhE.2 hall,decide_eq_false (show ¬ d.length=0 by omega),decide_eq_false (show ¬ 600<d.length by omega)]
    rfl
   have hu:decide ((((d.getD 0 0).toNat:Nat):Int)=48)=decide (d.getD 0 0=48):=decide_eq_decide.2 ⟨fun h=>UInt8.toNat_inj.1 (by have e:(48:UInt8).toNat=48:=rfl;rw[e];omega),fun h=>by rw[h];rfl⟩
   have hl:decide ((d.length:Int)>1)=decide (1<d.length):=decide_eq_decide.2 (by omega)
   have hg:=wgather_c d hall (by omega)
   rw[hok]
   have e0:(0:Int).toNat=0:=rfl
   refine V.r0 (V.a3 e0 hu hl) ?_
   refine And.intro (fun h1 h2=>by rw[h1,h2];rfl) ?_
   refine V.r0 (V.a3 e0 hu hl) ?_
   refine V.br (fun hq4=>?_) (fun hq4=>?_)
   ·rw[hq4]
    (conv=>whnf)
    refine V.st ?_
    exact Fin.tup ⟨Fin.agg ⟨Fin.any' _,Fin.any' _,trivial⟩,Fin.of rfl,trivial⟩
   ·rw[hq4]
    (conv=>whnf)
    refine V.st ?_
    repeat ((try ((with_reducible refine .ext ?_);(conv=>whnf)));(with_reducible refine jaa (r:=?_) ?_ ?_);rotate_left;(focus (first|exact(hg)));(conv=>whnf);refine V.st ?_)
    exact Fin.tup ⟨Fin.agg ⟨Fin.any' _,Fin.any' _,trivial⟩,Fin.of rfl,trivial⟩
theorem jcm (s:List UInt8)(hs:s.length≤281474976710656):Cl 82 [.str s] (.int .i64 (if okW s then 0 else 10)):=by
 have h1:=wread_g s hs
 generalize okW s=b at *
 refine V.en tbOk Tryz.func82 ?_
 (conv=>whnf)
 refine V.st ?_
 repeat ((try ((with_reducible refine .ext ?_);(conv=>whnf)));(with_reducible refine jaa (r:=?_) ?_ ?_);rotate_left;(focus (first|exact(h1)));(conv=>whnf);refine V.st ?_)
 refine V.br (fun hq=>?_) (fun hq=>?_)
 ·obtain rfl:b=false:=by simpa using hq
  (conv=>whnf)
  refine V.st ?_
  exact Fin.of rfl
 ·obtain rfl:b=true:=by simpa using hq
  (conv=>whnf)
  refine V.st ?_
  exact Fin.of rfl
def itD (z:Int):D := .agg [.ints .u32 (mg 1000000000 z.natAbs),.bool (decide (z<0))]
def wval (s:List UInt8):Int:=if Go.Lib.hasPrefix s [45] then -(rdv (Go.Lib.trimPrefix s [45]):Nat) else (rdv (Go.Lib.trimPrefix s [45]):Nat)
theorem okD_nz {d:List UInt8}(h:okD d true=true):0<rdv d:=by
 unfold okD at h
 simp only[jg0,Bool.not_eq_true',jhk,decide_eq_false_iff_not,Bool.true_or,Bool.and_true,jhE] at h
 obtain⟨⟨⟨h1,_⟩,h2⟩,h3⟩:=h
 cases d with
 | nil=>simp at h1
 | cons c r=>
  have h4:=h2 c (by simp)
  simp only[isDig,decide_eq_true_eq] at h4
  rw[List.getD_cons_zero] at h3
  have h5:c.toNat≠48:=fun e=>h3 (UInt8.toNat_inj.1 e)
  have h6:=ja2 [c] r
  rw[jc7] at h6
  rw[show c::r=[c]++r from rfl,h6]
  have:0<(c.toNat-48)*10^r.length:=Nat.mul_pos (by omega) (Nat.pow_pos (by omega))
  omega
theorem jco (s:List UInt8)(h:okW s=true):Cl 83 [.str s] (itD (wval s)):=by
 have hcp:=jeh s [45]
 unfold wval itD
 unfold okW at h
 have hl:(Go.Lib.trimPrefix s [45]).length≤600 ∧ ∀ c∈Go.Lib.trimPrefix s [45],isDig c=true:=by
  unfold okD at h
  simp only[jg0,Bool.not_eq_true',jhk,decide_eq_false_iff_not,jhE] at h
  exact⟨by omega,h.1.2⟩
 have hg:=gather_c _ hl.2 (by omega)
 generalize Go.Lib.trimPrefix s [45]=d at *
 have e:(if Go.Lib.hasPrefix s [45]=true then -((rdv d:Nat):Int) else ((rdv d:Nat):Int)).natAbs=rdv d∧decide ((if Go.Lib.hasPrefix s [45]=true then -((rdv d:Nat):Int) else ((rdv d:Nat):Int))<0)=Go.Lib.hasPrefix s [45]:=by
  cases hn:Go.Lib.hasPrefix s [45] with
  | true=>
   rw[hn] at h
   have:=okD_nz h
   exact⟨by simp,by simp;omega⟩
  | false=>exact⟨by simp,by simp⟩
 rw[e.1,e.2]
 generalize Go.Lib.hasPrefix s [45]=neg at *
 refine V.en tbOk Tryz.func83 ?_
 (conv=>whnf)
 refine V.st ?_
 repeat ((try ((with_reducible refine .ext ?_);(conv=>whnf)));(with_reducible refine jaa (r:=?_) ?_ ?_);rotate_left;(focus (first|exact(hcp)|exact(hg)));(conv=>whnf);refine V.st ?_)
 exact Fin.of rfl
theorem jc0 (z:Int):Go.Lib.hasPrefix (decZ z) [45]=decide (z<0)∧Go.Lib.trimPrefix (decZ z) [45]=dec z.natAbs:=by
 unfold decZ Go.Lib.trimPrefix Go.Lib.hasPrefix
 by_cases h:z<0
 ·simp[h,List.isPrefixOf]
 ·simp only[if_neg h,decide_eq_false h]
  have h1:=dec_dig z.natAbs
  have h2:=jaV z.natAbs
  cases hd:dec z.natAbs with
  | nil=>rw[hd] at h2;simp at h2
  | cons c r=>
   have h3:=h1 c (by rw[hd];simp)
   have h4:((45:UInt8) == c)=false:=by
    rw[beq_eq_false_iff_ne];intro e;subst e;exact absurd h3 (by decide)
   simp[List.isPrefixOf,h4]
theorem jdA (z:Int)(h:(dec z.natAbs).length≤600):okW (decZ z)=true:=by
 unfold okW okD
 rw[(jc0 z).1,(jc0 z).2]
 have h2:=jaV z.natAbs
 have h3:(dec z.natAbs).all isDig=true:=jhE.2 (dec_dig _)
 rw[h3,decide_eq_false (show ¬ (dec z.natAbs).length=0 by omega),decide_eq_false (show ¬ 600<(dec z.natAbs).length by omega)]
 by_cases h0:z.natAbs=0
 ·have:z=0:=by omega
  subst this
  rfl
 ·have:=dec_head z.natAbs (by omega)
  rw[decide_eq_false this];rfl
theorem jbK (z:Int):wval (decZ z)=z:=by
 unfold wval
 rw[(jc0 z).1,(jc0 z).2,rdv_dec]
 by_cases h:z<0
 ·simp[h];omega
 ·simp[h];omega
theorem jcG (n:Nat):Cl 71 [.ints .u32 (mg 1000000000 n)] (.bool (decide (n=0))):=by
 have hnil:=jbR (B:=1000000000) (n:=n) (by omega)
 rw[← jhG] at hnil
 have e:decide (((mg 1000000000 n).length:Int)=0)=decide (n=0):=decide_eq_decide.2 (by rw[← hnil];omega)
 refine V.en tbOk Tryz.func71 ?_
 (conv=>whnf)
 refine V.st ?_
 exact Fin.of (by rw[e])
theorem jaX (n:Nat)(neg:Bool):Cl 85 [.ints .u32 (mg 1000000000 n),.bool neg] (itD (if neg then -(n:Int) else n)):=by
 have h1:=jcG n
 have e:(if neg=true then -(n:Int) else (n:Int)).natAbs=n:=by cases neg<;>simp
 have e2:decide ((if neg=true then -(n:Int) else (n:Int))<0)=(neg && !decide (n=0)):=by
  cases neg with
  | false=>simp
  | true=>
   by_cases h:n=0
   ·simp[h]
   ·rw[decide_eq_false h,if_pos rfl,decide_eq_true (by omega)];rfl
 unfold itD
 rw[e,e2]
 generalize decide (n=0)=z at *
 refine V.en tbOk Tryz.func85 ?_
 (conv=>whnf)
 refine V.st ?_
 repeat ((try ((with_reducible refine .ext ?_);(conv=>whnf)));(with_reducible refine jaa (r:=?_) ?_ ?_);rotate_left;(focus (first|exact(h1)));(conv=>whnf);refine V.st ?_)
 exact Fin.of rfl
theorem small_c (n:Nat)(h:n<1000000000000000000):Cl 116 [.ints .u32 (mg 1000000000 n)] (.int .u64 n):=by
 have hlen:=jau (B:=1000000000) (n:=n) (k:=2) (by omega) (by omega)
 have hdx:=mg_dg (B:=1000000000) (by omega) n
 have hvx:=jax (B:=1000000000) (by omega) n
 generalize mg 1000000000 n=xs at *
 refine V.en tbOk Tryz.func116 ?_
 (conv=>whnf)
 refine V.st ?_
 refine jae (xs.length:Nat) (fun k=>k≤xs.length) (fun k=>k) (fun k=>[(4,.int .i64 ((k:Int)-1)),(3,.int .u64 (val 1000000000 (xs.drop k)))]) (fun _=>[]) ?_ ?_ ?_
 ·rw[List.drop_length]
  exact V.wk
 ·exact jhb _
 intro k hk
 (conv=>whnf)
 refine V.st ?_
 refine V.br (fun hq=>?_) (fun hq=>?_)
 ·rw[decide_eq_true_eq] at hq
  obtain⟨j,rfl⟩:∃ j,k=j+1:=⟨k-1,by omega⟩
  have hd:=jbA (B:=1000000000) (l:=xs) (k:=j) (by omega)
  have bx:=jak (by omega) hdx j
  have h0:=jal (jbf hdx (j+1))
  have h1:=jbL (jbf hdx (j+1))
  rw[jhV] at h1
  have h2:(1000000000:Nat)^(xs.length-(j+1))≤1000000000^1:=jht (by omega) (by omega)
  have h3:((1000000000^(xs.length-(j+1)):Nat):Int)≤((1000000000^1:Nat):Int):=by exact_mod_cast h2
  rw[jhx] at h3
  have e2:(((j+1:Nat):Int)-1)=(j:Int):=by omega
  generalize hx0:xs.getD j 0=x at *
  have e3:val 1000000000 (xs.drop (j+1))*1000000000+x=val 1000000000 (xs.drop j):=by omega
  refine V.r0 (V.a4 e2 @jha hx0 e3) ?_
  exact⟨j,by omega,by omega,V.wk⟩
 ·rw[decide_eq_false_iff_not] at hq
  obtain rfl:k=0:=by omega
  rw[jhW,hvx]
  (conv=>whnf)
  refine V.st ?_
  exact Fin.of rfl
theorem jd4 (n:Nat)(hn:n<18446744073709551616):Cl 117 [.int .u64 n] (.ints .u32 (mg 1000000000 n)):=by
 have hlen:=jau (B:=1000000000) (n:=n) (k:=3) (by omega) (by omega)
 refine V.en tbOk Tryz.func117 ?_
 (conv=>whnf)
 refine V.st ?_
 refine Lp.ghostSlot 13 3 .u32 (by decide) ?_
 (conv=>whnf)
 refine jae ((n,[]):Nat×List Int) (fun s=>val 1000000000 s.2+((1000000000:Nat):Int)^s.2.length*s.1=n∧Dg 1000000000 s.2∧s.1≤n∧s.2.length+(mg 1000000000 s.1).length=(mg 1000000000 n).length∧(s.1=0→s.2=mg 1000000000 n)) (fun s=>s.1) (fun s=>[(0,.int .u64 s.1),(3,.osl 13 0 s.2.length)]) (fun s=>[(13,.arr .u32 s.2)]) ?_ ?_ ?_
 ·exact V.wk
 ·exact⟨by simp[val],fun x hx=>by simp at hx,jhb _,by simp,fun h=>by dsimp only at h;rw[h];rfl⟩
 rintro⟨q,out⟩ ⟨h1,h2,h3,h4,h5⟩
 dsimp only at h1 h2 h3 h4 h5 ⊢
 (conv=>whnf)
 refine V.st ?_
 refine V.br (fun hq=>?_) (fun hq=>?_)
 ·rw[decide_eq_true_eq] at hq
  have hq0:0<q:=by omega
  have hmg:=jbQ (B:=1000000000) (by omega) hq0
  have hst:=jdE (B:=1000000000) (by omega) h1
  have hlt:q/1000000000<q:=Nat.div_lt_self hq0 (by omega)
  have hdg:Dg 1000000000 (out++[((q%1000000000:Nat):Int)]):=jag h2 (jap ⟨by omega,by have:=Nat.mod_lt q (by omega:1000000000>0);omega⟩)
  have e1:(q:Int)%1000000000=((q%1000000000:Nat):Int):=by omega
  have e2:(q:Int)/1000000000=((q/1000000000:Nat):Int):=by omega
  have hl2:(out++[((q%1000000000:Nat):Int)]).length=out.length+1:=by simp
  have hl3:out.length+(List.take 1 (List.drop 0 [((q%1000000000:Nat):Int)])).length=(out++[((q%1000000000:Nat):Int)]).length:=by simp
  rw[hmg,jhS] at h4
  have hmr:=Nat.mod_lt q (by omega:1000000000>0)
  (conv=>whnf)
  (try simp only[e1,e2,hl3])
  repeat ((first|refine V.s1 ?_);(try simp only[e1,e2,hl3]))
  try refine And.intro (fun _=>⟨trivial,by omega⟩) ?_
  (conv=>whnf)
  (try simp only[e1,e2,hl3])
  repeat ((first|refine V.s1 ?_);(try simp only[e1,e2,hl3]))
  refine⟨(q/1000000000,out++[((q%1000000000:Nat):Int)]),⟨hst,hdg,by dsimp only;omega,by dsimp only;omega,fun h0=>?_⟩,hlt,V.wk⟩
  dsimp only at h0 ⊢
  rw[h0,Int.natCast_zero,Int.mul_zero,jhw] at hst
  have:=mg_of (B:=1000000000) (by omega) hdg (fun x hx=>by
   rw[List.getLast?_append] at hx
   simp at hx
   omega)
  rw[hst,jha] at this
  exact this
 ·rw[decide_eq_false_iff_not] at hq
  obtain rfl:q=0:=by omega
  (conv=>whnf)
  refine V.st ?_
  exact Fin.of (by rw[jhZ,h5 rfl])
theorem isNaNi_c (n:Int):Cl 143 [.int .i64 n] (.bool false):=by
 refine V.en tbOk Tryz.func143 ?_
 (conv=>whnf)
 refine V.st ?_
 exact Fin.of (by simp)
theorem isNaNu_c (n:Int):Cl 144 [.int .u32 n] (.bool false):=by
 refine V.en tbOk Tryz.func144 ?_
 (conv=>whnf)
 refine V.st ?_
 exact Fin.of (by simp)
theorem cmpi_c (m n:Int):Cl 118 [.int .i64 m,.int .i64 n] (.int .i64 (m-n).sign):=by
 have h1:=isNaNi_c m
 have h2:=isNaNi_c n
 refine V.en tbOk Tryz.func118 ?_
 (conv=>whnf)
 refine V.st ?_
 repeat ((try ((with_reducible refine .ext ?_);(conv=>whnf)));(with_reducible refine jaa (r:=?_) ?_ ?_);rotate_left;(focus (first|exact(h1)|exact(h2)));(conv=>whnf);refine V.st ?_)
 refine V.br (fun hq=>?_) (fun hq=>?_)
 ·rw[decide_eq_true_eq] at hq
  (conv=>whnf)
  refine V.st ?_
  exact Fin.of (by rw[jhB (by omega)])
 ·rw[decide_eq_false_iff_not] at hq
  (conv=>whnf)
  refine V.st ?_
  refine V.br (fun hq2=>?_) (fun hq2=>?_)
  ·rw[decide_eq_true_eq] at hq2
   (conv=>whnf)
   refine V.st ?_
   exact Fin.of (by rw[jhC (by omega)])
  ·rw[decide_eq_false_iff_not] at hq2
   (conv=>whnf)
   refine V.st ?_
   exact Fin.of (by rw[show m-n=0 by omega];rfl)
theorem cmpu_c (m n:Int):Cl 119 [.int .u32 m,.int .u32 n] (.int .i64 (m-n).sign):=by
 have h1:=isNaNu_c m
 have h2:=isNaNu_c n
 refine V.en tbOk Tryz.func119 ?_
 (conv=>whnf)
 refine V.st ?_
 repeat ((try ((with_reducible refine .ext ?_);(conv=>whnf)));(with_reducible refine jaa (r:=?_) ?_ ?_);rotate_left;(focus (first|exact(h1)|exact(h2)));(conv=>whnf);refine V.st ?_)
 refine V.br (fun hq=>?_) (fun hq=>?_)
 ·rw[decide_eq_true_eq] at hq
  (conv=>whnf)
  refine V.st ?_
  exact Fin.of (by rw[jhB (by omega)])
 ·rw[decide_eq_false_iff_not] at hq
  (conv=>whnf)
  refine V.st ?_
  refine V.br (fun hq2=>?_) (fun hq2=>?_)
  ·rw[decide_eq_true_eq] at hq2
   (conv=>whnf)
   refine V.st ?_
   exact Fin.of (by rw[jhC (by omega)])
  ·rw[decide_eq_false_iff_not] at hq2
   (conv=>whnf)
   refine V.st ?_
   exact Fin.of (by rw[show m-n=0 by omega];rfl)
theorem jbW (a b:Nat)(ha:(mg 1000000000 a).length≤100000000)(hb:(mg 1000000000 b).length≤100000000):Cl 89 [.ints .u32 (mg 1000000000 a),.ints .u32 (mg 1000000000 b)] (.int .i64 ((a:Int)-b).sign):=by
 have hdx:=mg_dg (B:=1000000000) (by omega) a
 have hdy:=mg_dg (B:=1000000000) (by omega) b
 have hsg:=jeE (B:=1000000000) (by omega) a b
 generalize mg 1000000000 a=xs at *
 generalize mg 1000000000 b=ys at *
 have hsn:((a:Int)-b).sign=(ordV xs ys).sign:=by
  rcases Nat.lt_trichotomy a b with h|h|h
  ·rw[jhB (by omega),jhB (by omega)]
  ·rw[show (a:Int)-b=0 by omega,show ordV xs ys=0 by omega]
  ·rw[jhC (by omega),jhC (by omega)]
 rw[hsn]
 have hc1:=cmpi_c (xs.length:Int) (ys.length:Int)
 refine V.en tbOk Tryz.func89 ?_
 (conv=>whnf)
 refine V.st ?_
 refine V.br (fun hq=>?_) (fun hq=>?_)
 ·rw[decide_eq_true_eq] at hq
  (conv=>whnf)
  refine V.st ?_
  repeat ((try ((with_reducible refine .ext ?_);(conv=>whnf)));(with_reducible refine jaa (r:=?_) ?_ ?_);rotate_left;(focus (first|exact(hc1)));(conv=>whnf);refine V.st ?_)
  exact Fin.of (by unfold ordV;rw[if_neg (by omega)])
 ·rw[decide_eq_false_iff_not] at hq
  have hq':xs.length=ys.length:=by omega
  have hov:ordV xs ys=ordR xs ys xs.length:=by unfold ordV;rw[if_pos hq']
  rw[hov]
  (conv=>whnf)
  refine V.st ?_
  refine jae (xs.length) (fun k=>k≤xs.length∧ordR xs ys k=ordR xs ys xs.length) (fun k=>k) (fun k=>[(5,.int .i64 ((k:Int)-1))]) (fun k=>[]) ?_ ?_ ?_
  ·exact V.wk
  ·exact⟨jhb _,rfl⟩
  intro k hk
  have bx:=jak (by omega) hdx (k-1)
  have by':=jak (by omega) hdy (k-1)
  (conv=>whnf)
  refine V.st ?_
  refine V.br (fun hz=>?_) (fun hz=>?_)
  ·rw[decide_eq_true_eq] at hz
   obtain⟨j,rfl⟩:∃ j,k=j+1:=⟨k-1,by omega⟩
   have e2:(((j+1:Nat):Int)-1)=(j:Int):=by omega
   have hr:=hk.2
   rw[ordR] at hr
   rw[Nat.add_sub_cancel] at bx by'
   refine V.r0 (V.a2 e2 @jha) ?_
   refine⟨Pq20z,[],V.pok,.go (jab ?_)⟩
   have hc2:=cmpu_c (xs.getD j 0) (ys.getD j 0)
   refine V.r0 (V.a2 e2 @jha) ?_
   refine V.br (fun hn=>?_) (fun hn=>?_)
   ·rw[decide_eq_true_eq] at hn
    refine V.r0 (V.a2 e2 @jha) ?_
    refine⟨(V.tk [0,1,2,3,4,5,6,7] (V.e1 8 [] (V.tk [9] .done))),[],V.pok,.go (jab ?_)⟩
    refine V.r1 (V.a2 e2 @jha) hc2 ?_
    exact Fin.of (by rw[← hr,if_neg hn])
   ·rw[decide_eq_false_iff_not] at hn
    rw[if_pos (by omega)] at hr
    refine V.r0 e2 ?_
    exact⟨j,⟨by omega,hr⟩,by omega,V.wk⟩
  ·rw[decide_eq_false_iff_not] at hz
   obtain rfl:k=0:=by omega
   (conv=>whnf)
   refine V.st ?_
   exact Fin.of (by rw[← hk.2];rfl)
theorem jc4 (a b:Nat)(ha:(mg 1000000000 a).length≤100000000)(hb:(mg 1000000000 b).length≤100000000):Cl 100 [.ints .u32 (mg 1000000000 a),.ints .u32 (mg 1000000000 b)] (.ints .u32 (mg 1000000000 (a*b))):=by
 have hdx:=mg_dg (B:=1000000000) (by omega) a
 have hdy:=mg_dg (B:=1000000000) (by omega) b
 have hvx:=jax (B:=1000000000) (by omega) a
 have hvy:=jax (B:=1000000000) (by omega) b
 generalize mg 1000000000 a=xs at *
 generalize mg 1000000000 b=ys at *
 have hmn:((xs.length:Int)+(ys.length:Int)).toNat=xs.length+ys.length:=by omega
 refine V.en tbOk Tryz.func100 ?_
 refine V.r0 hmn ?_
 refine jae ((0,List.replicate (xs.length+ys.length) 0):Nat×List Int) (fun s=>s.1≤xs.length∧s.2.length=xs.length+ys.length∧Dg 1000000000 s.2∧(∀ k,s.1+ys.length≤k→s.2.getD k 0=0)∧val 1000000000 s.2=val 1000000000 (xs.take s.1)*val 1000000000 ys) (fun s=>xs.length-s.1)
  (fun s=>[(19,.int .i64 s.1),(5,.osl 16 0 (xs.length+ys.length))]) (fun s=>[(16,.arr .u32 s.2)]) ?_ ?_ ?_
 ·exact V.wk
 ·exact⟨jg2 _,by simp,jbG (by omega) _,fun k _=>by simp[jhF,List.getElem?_replicate];split<;>simp,by simp[val,jdI]⟩
 rintro⟨i,out⟩ ⟨h1,h2,h3,h4,h5⟩
 dsimp only at h1 h2 h3 h4 h5 ⊢
 have vx:=jah 1000000000 xs i
 have bx:=jak (by omega) hdx i
 generalize hx0:xs.getD i 0=x at *
 (conv=>whnf)
 refine V.st ?_
 refine V.br (fun hq=>?_) (fun hq=>?_)
 ·rw[decide_eq_true_eq] at hq
  refine V.r0 (V.a2 @jha hx0) ?_
  refine jae ((0,out,0):Nat×List Int×Int) (fun s=>s.1≤ys.length∧s.2.1.length=xs.length+ys.length∧Dg 1000000000 s.2.1∧(∀ k,i+ys.length≤k→s.2.1.getD k 0=0)∧(0≤s.2.2∧s.2.2<1000000000)∧val 1000000000 s.2.1+((1000000000:Nat):Int)^(i+s.1)*s.2.2=val 1000000000 (xs.take i)*val 1000000000 ys+((1000000000:Nat):Int)^i*x*val 1000000000 (ys.take s.1)) (fun s=>ys.length-s.1)
   (fun s=>[(26,.int .i64 s.1),(8,.int .u64 s.2.2),(5,.osl 16 0 (xs.length+ys.length))]) (fun s=>[(16,.arr .u32 s.2.1)]) ?_ ?_ ?_
  ·exact V.wk
  ·exact⟨jg2 _,h2,h3,h4,by simp,by simp[val,h5]⟩
  rintro⟨j,o,c⟩ ⟨g1,g2,g3,g4,g5,g6⟩
  dsimp only at g1 g2 g3 g4 g5 g6 ⊢
  have vy:=jah 1000000000 ys j
  have by':=jak (by omega) hdy j
  have bo:=jak (by omega) g3 (i+j)
  generalize hy0:ys.getD j 0=y at *
  generalize ho0:o.getD (i+j) 0=q at *
  have eij:((i:Int)+(j:Int)).toNat=i+j:=by omega
  have hxy:0≤x*y∧x*y≤999999999*999999999:=⟨jg4 (by omega) (by omega),Int.mul_le_mul (by omega) (by omega) (by omega) (by omega)⟩
  have hkj:((j:Int)+1)=((j+1:Nat):Int):=by omega
  have hki:((i:Int)+1)=((i+1:Nat):Int):=by omega
  have ein:((i:Int)+(ys.length:Int)).toNat=i+ys.length:=by omega
  (conv=>whnf)
  refine V.st ?_
  refine V.br (fun hw=>?_) (fun hw=>?_)
  ·rw[decide_eq_true_eq] at hw
   have hm:0≤(c+(q+x*y))%1000000000∧(c+(q+x*y))%1000000000<1000000000:=⟨Int.emod_nonneg _ (by omega),jhv _ (by omega)⟩
   have hc9:0≤(c+(q+x*y))/1000000000∧(c+(q+x*y))/1000000000<1000000000:=by omega
   have hst:=jfw (B:=1000000000) (x:=x) (y:=y) (q:=q) (c:=c) (d:=(c+(q+x*y))%1000000000) (c':=(c+(q+x*y))/1000000000) (by omega) ho0 g6 (by have:=jg3 (c+(q+x*y)) 1000000000;omega)
   rw[← vy] at hst
   refine V.r0 (V.a7 eij @jg8 @jha hx0 hy0 ho0 hkj) ?_
   exact⟨(j+1,o.set (i+j) ((c+(q+x*y))%1000000000),(c+(q+x*y))/1000000000),⟨by dsimp only;omega,by dsimp only;rw[jhY];exact g2,jcZ g3 hm,fun k hk=>by dsimp only;rw[jb6 (by omega)];exact g4 k hk,⟨hc9.1,hc9.2⟩,hst⟩,by dsimp only;omega,V.wk⟩
  ·rw[decide_eq_false_iff_not] at hw
   have hj:j=ys.length:=by omega
   subst hj
   rw[jhZ] at g6
   have hst:=prod_end (B:=1000000000) (by omega) (g4 _ (jhb _)) g6 hx0
   refine V.r0 (V.a3 ein @jg8 hki) ?_
   exact⟨(i+1,o.set (i+ys.length) c),⟨by dsimp only;omega,by dsimp only;rw[jhY];exact g2,jcZ g3 ⟨g5.1,g5.2⟩,fun k hk=>by dsimp only at hk ⊢; rw[jb6 (by omega)];exact g4 k (by omega),hst⟩,by dsimp only;omega,V.wk⟩
 ·rw[decide_eq_false_iff_not] at hq
  rw[jhT (by omega),hvx,hvy,← jho] at h5
  have hc:=jeu out h3 (by omega)
  rw[h5,jha,← jhZ (l:=out),h2] at hc
  (conv=>whnf)
  refine V.st ?_
  repeat ((try ((with_reducible refine .ext ?_);(conv=>whnf)));(with_reducible refine jaa (r:=?_) ?_ ?_);rotate_left;(focus (first|exact(hc)));(conv=>whnf);refine V.st ?_)
  exact Fin.of rfl
theorem short_c (a d:Nat)(ha:(mg 1000000000 a).length≤100000000)(hd0:0<d)(hd1:d≤1000000000):Cl 132 [.ints .u32 (mg 1000000000 a),.int .u32 d] (.tup [.ints .u32 (mg 1000000000 (a/d)),.int .u32 (a%d:Nat)]):=by
 have hdx:=mg_dg (B:=1000000000) (by omega) a
 have hvx:=jax (B:=1000000000) (by omega) a
 generalize mg 1000000000 a=xs at *
 have hmn:((xs.length:Int)).toNat=xs.length:=by omega
 refine V.en tbOk Tryz.func132 ?_
 refine V.r0 hmn ?_
 refine jae ((xs.length,List.replicate xs.length 0,0):Nat×List Int×Int) (fun s=>s.1≤xs.length∧s.2.1.length=xs.length∧Dg 1000000000 s.2.1∧(0≤s.2.2∧s.2.2<d)∧val 1000000000 (xs.drop s.1)=val 1000000000 (s.2.1.drop s.1)*d+s.2.2) (fun s=>s.1)
  (fun s=>[(8,.int .i64 ((s.1:Int)-1)),(7,.int .u64 s.2.2),(6,.osl 11 0 xs.length)]) (fun s=>[(11,.arr .u32 s.2.1)]) ?_ ?_ ?_
 ·exact V.wk
 ·exact⟨jhb _,by simp,jbG (by omega) _,⟨by simp,by dsimp only;omega⟩,by simp[val]⟩
 rintro⟨k,out,r⟩ ⟨h1,h2,h3,h4,h5⟩
 dsimp only at h1 h2 h3 h4 h5 ⊢
 (conv=>whnf)
 refine V.st ?_
 refine V.br (fun hq=>?_) (fun hq=>?_)
 ·rw[decide_eq_true_eq] at hq
  obtain⟨j,rfl⟩:∃ j,k=j+1:=⟨k-1,by omega⟩
  have hj:j<xs.length:=by omega
  have bx:=jak (by omega) hdx j
  generalize hx0:xs.getD j 0=x at *
  have e2:(((j+1:Nat):Int)-1)=(j:Int):=by omega
  have hb:0≤(r*1000000000+x)/(d:Int)∧(r*1000000000+x)/(d:Int)<1000000000∧0≤(r*1000000000+x)%(d:Int)∧(r*1000000000+x)%(d:Int)<d:=jdR (B:=1000000000) (by omega:(0:Int)<d) h4 bx
  have hst:=jdQ (B:=1000000000) hj (by omega) hx0 h5 (t:=r*1000000000+x) rfl
  have hr0:0≤r*1000000000+x:=by omega
  refine V.r0 (V.a4 e2 @jg8 @jha hx0) ?_
  exact⟨(j,out.set j ((r*1000000000+x)/d),(r*1000000000+x)%d),⟨by dsimp only;omega,by dsimp only;rw[jhY];exact h2,jcZ h3 ⟨hb.1,hb.2.1⟩,⟨hb.2.2.1,hb.2.2.2⟩,hst⟩,by dsimp only;omega,V.wk⟩
 ·rw[decide_eq_false_iff_not] at hq
  obtain rfl:k=0:=by omega
  rw[jhW,jhW,hvx] at h5
  have hvq:=jal h3
  obtain⟨w,hw⟩:∃ w:Nat,val 1000000000 out=w:=⟨(val 1000000000 out).toNat,by omega⟩
  obtain⟨r',rfl⟩:∃ r':Nat,r=r':=⟨r.toNat,by omega⟩
  rw[hw,← jho] at h5
  have h6:a=w*d+r':=by omega
  have e8:a/d=w:=by rw[h6,Nat.add_comm,Nat.add_mul_div_right _ _ hd0,Nat.div_eq_of_lt (by omega),jg8]
  have e9:a%d=r':=by rw[h6,Nat.add_comm,Nat.add_mul_mod_self_right,Nat.mod_eq_of_lt (by omega)]
  have hc:=jeu out h3 (by omega)
  rw[hw,jha,← jhZ (l:=out),h2] at hc
  (conv=>whnf)
  refine V.st ?_
  repeat ((try ((with_reducible refine .ext ?_);(conv=>whnf)));(with_reducible refine jaa (r:=?_) ?_ ?_);rotate_left;(focus (first|exact(hc)));(conv=>whnf);refine V.st ?_)
  exact Fin.of (by rw[e8,e9])
theorem length_c (n:Nat)(hn:(mg 1000000000 n).length≤100000000):Cl 102 [.ints .u32 (mg 1000000000 n)] (.int .i64 (dec n).length):=by
 have hz:=jcG n
 have hdx:=mg_dg (B:=1000000000) (by omega) n
 have hvx:=jax (B:=1000000000) (by omega) n
 have hlx:=jda (B:=1000000000) (n:=n) (by omega)
 have hnil:=jbR (B:=1000000000) (n:=n) (by omega)
 generalize mg 1000000000 n=xs at *
 refine V.en tbOk Tryz.func102 ?_
 (conv=>whnf)
 refine V.st ?_
 repeat ((try ((with_reducible refine .ext ?_);(conv=>whnf)));(with_reducible refine jaa (r:=?_) ?_ ?_);rotate_left;(focus (first|exact(hz)));(conv=>whnf);refine V.st ?_)
 refine V.br (fun hq=>?_) (fun hq=>?_)
 ·rw[decide_eq_true_eq] at hq
  subst hq
  (conv=>whnf)
  refine V.st ?_
  exact Fin.of rfl
 ·rw[decide_eq_false_iff_not] at hq
  obtain⟨j,hj⟩:∃ j,xs.length=j+1:=⟨xs.length-1,by
   have:xs≠[]:=fun e=>hq (hnil.1 e)
   have:=List.length_pos_iff.2 this
   omega⟩
  have bx:=jak (by omega) hdx j
  have hd:=jbA (B:=1000000000) (l:=xs) (k:=j) (by omega)
  have hnil2:xs.drop (j+1)=[]:=List.drop_eq_nil_of_le (by omega)
  rw[hnil2] at hd
  have hsp:=jbs 1000000000 xs j (by omega)
  have hlo:=jbL (ja8 hdx j)
  have hlo0:=jal (ja8 hdx j)
  rw[jhL,Nat.min_eq_left (by omega)] at hlo
  have hx1:xs.getD j 0≠0:=by
   refine hlx _ ?_
   rw[List.getLast?_eq_getElem?,hj,jhF,show j+1-1=j by omega,jhI (by omega)];rfl
  generalize hx0:xs.getD j 0=x at *
  obtain⟨d,rfl⟩:∃ d:Nat,x=d:=⟨x.toNat,by omega⟩
  rw[hd,hvx] at hsp
  obtain⟨w,hw⟩:∃ w:Nat,val 1000000000 (xs.take j)=w:=⟨(val 1000000000 (xs.take j)).toNat,by omega⟩
  have hnw:n=d*10^(9*j)+w:=by
   have e:((10^(9*j):Nat):Int)=((1000000000:Nat):Int)^j:=by rw[Nat.pow_mul,jhx]
   simp only[val,Int.mul_zero,jhw] at hsp
   rw[hw,← e,← jho,jhf] at hsp
   omega
  have hwl:w<10^(9*j):=by
   rw[Nat.pow_mul]
   rw[hw,← jhx] at hlo
   exact_mod_cast hlo
  have hdp:=jgz (a:=d) (by omega) (9*j) w hwl
  rw[← hnw] at hdp
  have hlen:(dec n).length=(dec d).length+9*j:=by rw[hdp,jhK,jc8]
  have hi:=itoa_c (d:Int)
  have hdz:decZ (d:Int)=dec d:=by unfold decZ;rw[if_neg (by omega),jhA]
  rw[hdz] at hi
  have e1:((xs.length:Int)-1)=(j:Int):=by omega
  have hdl:=jeg d 9 (by omega) (by omega)
  (conv=>whnf)
  (try simp only[e1,jha,hx0])
  repeat ((first|refine V.s1 ?_|((try ((with_reducible refine .ext ?_);(conv=>whnf);(try simp only[e1,jha,hx0])));(with_reducible refine jaa (r:=?_) ?_ ?_);rotate_left;(focus (first|exact(hi)));(conv=>whnf)));(try simp only[e1,jha,hx0]))
  exact Fin.of (by rw[hlen];congr 1;omega)
end Go.Proofs.YtbhpaandigaanaaGreatDoor
end
section
namespace Go.Nb
structure Kn (B top v2 vr u2 ur head U V P:Int):Prop where
 hB:2≤B
 hP:1≤P
 ht:1≤top
 hv:V=(top*B+v2)*P+vr
 hu:U=(head*B+u2)*P+ur
 v20:0≤v2
 v2B:v2<B
 u20:0≤u2
 u2B:u2<B
 vr0:0≤vr
 vrP:vr<P
 ur0:0≤ur
 urP:ur<P
 hh:0≤head
 htB:top<B
 lt:U<B*V
section
variable {B top v2 vr u2 ur head U V P : Int}
theorem Kn.vpos (K:Kn B top v2 vr u2 ur head U V P):0<V:=by
 have h1:0≤top*B:=jg4 (by have:=K.ht;omega) (by have:=K.hB;omega)
 have h2:1*2≤top*B:=Int.mul_le_mul K.ht K.hB (by omega) (by have:=K.ht;omega)
 have h3:1*1≤(top*B+v2)*P:=Int.mul_le_mul (by have:=K.v20;omega) K.hP (by omega) (by have:=K.v20;omega)
 have:=K.hv
 have:=K.vr0
 omega
theorem Kn.ulo (K:Kn B top v2 vr u2 ur head U V P):head*B*P≤U∧U<(head+1)*B*P:=by
 have e:(head*B+u2)*P=head*B*P+u2*P:=jhy _ _ _
 have e2:(head+1)*B*P=head*B*P+B*P:=by rw[jhy,jhz,jhy]
 have h1:0≤u2*P:=jg4 K.u20 (by have:=K.hP;omega)
 have h2:(u2+1)*P≤B*P:=jhg (by have:=K.u2B;omega) (by have:=K.hP;omega)
 rw[jhy,jhz] at h2
 have:=K.hu
 have:=K.ur0
 have:=K.urP
 omega
theorem Kn.vlo (K:Kn B top v2 vr u2 ur head U V P):top*B*P≤V∧V<(top+1)*B*P:=by
 have e:(top*B+v2)*P=top*B*P+v2*P:=jhy _ _ _
 have e2:(top+1)*B*P=top*B*P+B*P:=by rw[jhy,jhz,jhy]
 have h1:0≤v2*P:=jg4 K.v20 (by have:=K.hP;omega)
 have h2:(v2+1)*P≤B*P:=jhg (by have:=K.v2B;omega) (by have:=K.hP;omega)
 rw[jhy,jhz] at h2
 have:=K.hv
 have:=K.vr0
 have:=K.vrP
 omega
theorem Kn.bp (K:Kn B top v2 vr u2 ur head U V P):0<B*P:=Int.mul_pos (by have:=K.hB;omega) (by have:=K.hP;omega)
theorem Kn.qlt (K:Kn B top v2 vr u2 ur head U V P){Q:Int}(h:Q*V≤U):Q<B:=
 Int.lt_of_mul_lt_mul_right (Int.lt_of_le_of_lt h K.lt) (Int.le_of_lt K.vpos)
theorem Kn.init (K:Kn B top v2 vr u2 ur head U V P){Q:Int}(hQ:0≤Q)(h:Q*V≤U):Q≤head/top:=by
 have ht:=K.ht
 refine(Int.le_ediv_iff_mul_le (by omega)).2 ?_
 rcases Int.lt_or_le head (Q*top) with hc|hc
 ·exfalso
  have h1:(head+1)*(B*P)≤Q*top*(B*P):=jhg (by omega) (Int.le_of_lt K.bp)
  have h2:Q*(top*B*P)≤Q*V:=jhl K.vlo.1 hQ
  have h3:=K.ulo.2
  have e1:(head+1)*(B*P)=(head+1)*B*P:=(jhn _ _ _).symm
  have e2:Q*top*(B*P)=Q*(top*B*P):=by simp only[jhn]
  omega
 ·exact hc
theorem Kn.step (K:Kn B top v2 vr u2 ur head U V P){Q q r:Int}(hQ:0≤Q)(h:Q*V≤U)(hq:Q≤q)(hr:head=q*top+r)(hc:B≤q∨r*B+u2<q*v2):Q≤q-1:=by
 rcases hc with hc|hc
 ·have:=K.qlt h
  omega
 ·have hq0:0≤q:=by omega
  have h1:head*B+u2+1≤q*(top*B+v2):=by
   rw[hr,jhy,jhs,jhn]
   omega
  have h2:(head*B+u2+1)*P≤q*(top*B+v2)*P:=jhg h1 (by have:=K.hP;omega)
  rw[jhy,jhz] at h2
  have h3:q*((top*B+v2)*P)≤q*V:=jhl (by have:=K.hv;have:=K.vr0;omega) hq0
  rw[← jhn] at h3
  have h4:Q*V<q*V:=by
   have:=K.hu
   have:=K.urP
   omega
  have:=Int.lt_of_mul_lt_mul_right h4 (Int.le_of_lt K.vpos)
  omega
theorem Kn.out1 (K:Kn B top v2 vr u2 ur head U V P){q r:Int}(hq0:0≤q)(hr:head=q*top+r)(h1:q<B)(h2:q*v2≤r*B+u2):(q-1)*V≤U:=by
 have h3:q*(top*B+v2)≤head*B+u2:=by
  rw[hr,jhy,jhs,jhn]
  omega
 have h4:q*(top*B+v2)*P≤(head*B+u2)*P:=jhg h3 (by have:=K.hP;omega)
 have e1:q*V=q*(top*B+v2)*P+q*vr:=by rw[K.hv,jhs,jhn]
 have h5:q*vr≤B*P:=by
  have h6:q*vr≤B*vr:=jhg (by omega) K.vr0
  have h7:B*vr≤B*P:=jhl (by have:=K.vrP;omega) (by have:=K.hB;omega)
  omega
 have h8:1*(B*P)≤top*(B*P):=jhg K.ht (Int.le_of_lt K.bp)
 have e2:top*(B*P)=top*B*P:=(jhn _ _ _).symm
 have h9:=K.vlo.1
 have:=K.hu
 have:=K.ur0
 rw[Int.sub_mul,jhz]
 omega
theorem Kn.out2 (K:Kn B top v2 vr u2 ur head U V P){q r:Int}(hq0:0≤q)(hr:head=q*top+r)(h1:B≤r):q<B∧(q-1)*V≤U:=by
 have hlo:=K.ulo
 have vlo:=K.vlo
 have hbp:=K.bp
 -- the head is at most top * B + B - 1
 have h2:head<(top+1)*B:=by
  rcases Int.lt_or_le head ((top+1)*B) with h|h
  ·exact h
  ·exfalso
   have h3:(top+1)*B*(B*P)≤head*(B*P):=jhg h (Int.le_of_lt hbp)
   have h4:B*V<B*((top+1)*B*P):=Int.mul_lt_mul_of_pos_left vlo.2 (by have:=K.hB;omega)
   have e1:(top+1)*B*(B*P)=B*((top+1)*B*P):=by ac_rfl
   have e2:head*(B*P)=head*B*P:=(jhn _ _ _).symm
   have:=K.lt
   omega
 rw[jhy,jhz] at h2
 have hqB:q<B:=by
  rcases Int.lt_or_le q B with h|h
  ·exact h
  ·exfalso
   have h3:B*top≤q*top:=jhg h (by have:=K.ht;omega)
   rw[jhm B top] at h3
   omega
 refine⟨hqB,?_⟩
 have h5:q*top≤head-B:=by omega
 have h6:q*top*(B*P)≤(head-B)*(B*P):=jhg h5 (Int.le_of_lt hbp)
 have h7:q*V≤q*((top+1)*B*P):=jhl (Int.le_of_lt vlo.2) hq0
 have h8:q*(B*P)≤B*(B*P):=jhg (Int.le_of_lt hqB) (Int.le_of_lt hbp)
 have e1:q*((top+1)*B*P)=q*top*(B*P)+q*(B*P):=by
  rw[jhy,jhz,jhy,jhs]
  simp only[jhn]
 rw[Int.sub_mul] at h6
 have e2:head*(B*P)=head*B*P:=(jhn _ _ _).symm
 have:=K.vpos
 rw[Int.sub_mul,jhz]
 omega
end
end Go.Nb
end
section
namespace Go.Proofs.YtbhpaandigaanaaGreatDoor
open Go Go.V Go.Nb
theorem red_a {P W V q c b mid wlo un:Int}(hP:0<P)(hV0:0<V)(hVP:V≤P)(hW:W=wlo+un*P)(hmid:mid-(c+b)*P=wlo-q*V)(hm0:0≤mid)(hq:W/V≤q)(h:c+b≤un):q=W/V∧mid=W%V:=by
 have h1:=jg3 W V
 have h2:=jhv W hV0
 have h3:W-q*V=mid+(un-(c+b))*P:=by rw[Int.sub_mul];omega
 have h4:0≤(q-W/V)*V:=jg4 (by omega) (by omega)
 rw[Int.sub_mul,jhm (W/V)] at h4
 have h5:un-(c+b)=0:=by
  rcases Int.lt_or_le 0 (un-(c+b)) with h6|h6
  ·have h7:1*P≤(un-(c+b))*P:=jhg (by omega) (by omega)
   omega
  ·omega
 rw[h5,Int.zero_mul,jhw] at h3
 have h8:q≤W/V:=(Int.le_ediv_iff_mul_le hV0).2 (by omega)
 have h9:q=W/V:=by omega
 refine⟨h9,?_⟩
 rw[h9,jhm] at h3
 omega
theorem red_b {P W V q c b mid mid2 over wlo un:Int}(hP:0<P)(hV0:0<V)(hVP:V≤P)(hW:W=wlo+un*P)(hmid:mid-(c+b)*P=wlo-q*V)(hm1:mid<P)(hq1:(q-1)*V≤W)(h:un<c+b)
  (h2:mid2+over*P=mid+V) (h20:0≤mid2) (h21:mid2<P):q-1=W/V∧mid2=W%V:=by
 have h1:=jg3 W V
 have h3:=jhv W hV0
 have h30:=Int.emod_nonneg W (by omega:V≠0)
 have h4:W-q*V=mid+(un-(c+b))*P:=by rw[Int.sub_mul];omega
 have h5:1*P≤(c+b-un)*P:=jhg (by omega) (by omega)
 have h6:(un-(c+b))*P = -((c+b-un)*P):=by rw[← Int.neg_mul];congr 1;omega
 have h7:q-1≤W/V:=(Int.le_ediv_iff_mul_le hV0).2 hq1
 have h8:W/V<q:=(Int.ediv_lt_iff_lt_mul hV0).2 (by omega)
 have h9:q-1=W/V:=by omega
 refine⟨h9,?_⟩
 have e1:W%V=mid2+(over+un-(c+b))*P:=by
  have e2:W%V=W-(q-1)*V:=by rw[h9,jhm];omega
  rw[e2,Int.sub_mul,jhz]
  have e3:(over+un-(c+b))*P=over*P+(un-(c+b))*P:=by rw[← jhy];congr 1;omega
  rw[e3];omega
 have e4:over+un-(c+b)=0:=by
  rcases Int.lt_trichotomy (over+un-(c+b)) 0 with g|g|g
  ·have:(over+un-(c+b))*P≤(-1)*P:=jhg (by omega) (by omega)
   omega
  ·exact g
  ·have:1*P≤(over+un-(c+b))*P:=jhg (by omega) (by omega)
   omega
 rw[e4,Int.zero_mul,jhw] at e1
 exact e1.symm
theorem red_step {B:Nat}{mid ul vl:List Int}{c b u d r c' b' q:Int}{i:Nat}(hi:mid.length=i)(h:val B mid-(c+b)*(B:Int)^i=val B ul-q*val B vl)(hs:r-B*(c'+b')=u-q*d-(c+b)) :
  val B (mid++[r])-(c'+b')*(B:Int)^(i+1)=(val B ul+(B:Int)^i*u)-q*(val B vl+(B:Int)^i*d):=by
 rw[jaN,hi,Int.pow_succ,jhs]
 generalize (B:Int)^i=P at *
 have e1:P*(r-B*(c'+b'))=P*r-(c'+b')*(P*B):=by rw[Int.mul_sub];congr 1;ac_rfl
 have e2:P*(u-q*d-(c+b))=P*u-q*(P*d)-(c+b)*P:=by rw[Int.mul_sub,Int.mul_sub];congr 1;congr 1;ac_rfl;ac_rfl
 rw[hs,e2] at e1
 omega
theorem jfc {u A mid:List Int}{k:Nat}{r:Int}(hk:A.length+mid.length=k)(h:k<u.length):(A++mid++u.drop k).set k r=A++(mid++[r])++u.drop (k+1):=by
 have e:(A++mid).length=k:=by rw[jhK];exact hk
 rw[List.set_append_right _ _ (by omega),e,jhq,List.drop_eq_getElem_cons h,List.set_cons_zero]
 simp
theorem mid_get {u A mid:List Int}{k:Nat}(hk:A.length+mid.length=k):(A++mid++u.drop k).getD k 0=u.getD k 0:=by
 have e:(A++mid).length=k:=by rw[jhK];exact hk
 rw[jhF,List.getElem?_append_right (by omega),e,jhq,List.getElem?_drop,jhF]
 rfl
theorem mid_drop {u A mid:List Int}{k:Nat}(hk:A.length+mid.length=k):(A++mid++u.drop k).drop k=u.drop k:=by
 have e:(A++mid).length=k:=by rw[jhK];exact hk
 rw[List.drop_append,e,jhq,List.drop_of_length_le (by omega)]
 simp
theorem getD_drop {u:List Int}{j i:Nat} : (u.drop j).getD i 0=u.getD (j+i) 0:=by
 rw[jhF,List.getElem?_drop,jhF]
theorem kn_of {B p j:Nat}{u v:List Int}{W V:Int}(hB:2≤B)(hu:Dg B u)(hv:Dg B v)(hlv:v.length=p+2)(hV:val B v=V)(hW:val B (u.drop j)=W)(hz:val B (u.drop (j+(p+2)+1))=0)(htop:1≤v.getD (p+1) 0)(hlt:W<B*V) :
  Kn B (v.getD (p+1) 0) (v.getD p 0) (val B (v.take p)) (u.getD (j+p) 0) (val B ((u.drop j).take p)) (u.getD (j+(p+2)) 0*B+u.getD (j+(p+1)) 0) W V ((B:Int)^p):=by
 have e1:V=(v.getD (p+1) 0*B+v.getD p 0)*(B:Int)^p+val B (v.take p):=by
  rw[← hV]
  conv=>lhs;rw[← jhZ (l:=v),hlv,jah,jah]
  rw[Int.pow_succ]
  generalize (B:Int)^p=P
  rw[jhy]
  have e:v.getD (p+1) 0*B*P=P*B*v.getD (p+1) 0:=by ac_rfl
  have e':v.getD p 0*P=P*v.getD p 0:=jhm _ _
  omega
 have e2:W=((u.getD (j+(p+2)) 0*B+u.getD (j+(p+1)) 0)*B+u.getD (j+p) 0)*(B:Int)^p+val B ((u.drop j).take p):=by
  have h1:val B (u.drop j)=val B ((u.drop j).take p)+(B:Int)^p*val B (u.drop (j+p)):=by
   rcases Nat.le_total p (u.drop j).length with h|h
   ·rw[jbs B (u.drop j) p h,List.drop_drop]
   ·have hz2:u.drop (j+p)=[]:=List.drop_eq_nil_of_le (by rw[jhV] at h;omega)
    rw[jhT h,hz2];simp[val]
  rw[← hW,h1,jaU B u (j+p),jaU B u (j+p+1),jaU B u (j+p+1+1)]
  rw[show j+p+1+1+1=j+(p+2)+1 by omega,hz,show j+p+1+1=j+(p+2) by omega,show j+p+1=j+(p+1) by omega]
  rw[Int.mul_zero,jhw]
  generalize (B:Int)^p=P
  rw[Int.add_comm,jhm P]
  congr 2
  rw[jhm (B:Int),jhm (B:Int),Int.add_comm,Int.add_comm (u.getD (j+(p+1)) 0)]
 have b1:=jak (by omega) hv (p+1)
 have b2:=jak (by omega) hv p
 have b3:=jak (by omega) hu (j+p)
 have b4:=jak (by omega) hu (j+(p+1))
 have b5:=jak (by omega) hu (j+(p+2))
 have l1:=jbY hB hv p
 have l2:=jbY hB (jbf hu j) p
 have l3:=jal (ja8 hv p)
 have l4:=jal (ja8 (jbf hu j) p)
 have l5:=jdy hB p
 have l6:0≤u.getD (j+(p+2)) 0*(B:Int):=jg4 b5.1 (by omega)
 exact { hB:=by omega,hP:=by omega,ht:=htop,hv:=e1,hu:=e2,v20:=b2.1,v2B:=b2.2,u20:=b3.1,u2B:=b3.2,vr0:=l3,vrP:=l1,ur0:=l4,urP:=l2,hh:=by omega,htB:=b1.2,lt:=hlt }
theorem div_inv {B p j:Nat}{u q mid:List Int}{Qd W VV M:Int}(hB:2≤B)(hj:j<q.length)(hju:j+(p+2)<u.length)(hmid:mid.length=p+2)(hdu:Dg B u)(hdm:Dg B mid)(h6:val B (u.drop (j+(p+2)+1))=0)
  (hW:val B (u.drop j)=W) (hV0:0<VV) (hm:val B mid=W%VV) (hQ:Qd=W/VV) (h8:M=val B (q.drop (j+1))*(B:Int)^(j+1)*VV+val B u) :
  (u.take j++(mid++[0])++u.drop (j+(p+2)+1)).length=u.length∧Dg B (u.take j++(mid++[0])++u.drop (j+(p+2)+1))∧val B ((u.take j++(mid++[0])++u.drop (j+(p+2)+1)).drop (j+(p+2)))=0 ∧
  val B ((u.take j++(mid++[0])++u.drop (j+(p+2)+1)).drop j)<VV∧M=val B ((q.set j Qd).drop j)*(B:Int)^j*VV+val B (u.take j++(mid++[0])++u.drop (j+(p+2)+1)):=by
 have hA:(u.take j).length=j:=by rw[jhL];omega
 have hl:(u.take j++(mid++[0])++u.drop (j+(p+2)+1)).length=u.length:=by
  simp only[jhK,jhL,jhV,List.length_singleton,hmid];omega
 have hd:Dg B (u.take j++(mid++[0])++u.drop (j+(p+2)+1)):=jag (jag (ja8 hdu _) (jag hdm (jap (by omega)))) (jbf hdu _)
 have hz:∀ P:Int,val B (mid++[0]++u.drop (j+(p+2)+1))=val B mid:=fun _=>by
  rw[jbo,h6,Int.mul_zero,jhw,jaN,Int.mul_zero,jhw]
 have e1:(u.take j++(mid++[0])++u.drop (j+(p+2)+1)).drop j=mid++[0]++u.drop (j+(p+2)+1):=by
  rw[jhM,List.drop_append,hA,jhq,List.drop_of_length_le (by omega)];rfl
 have e2:(u.take j++(mid++[0])++u.drop (j+(p+2)+1)).drop (j+(p+2))=[0]++u.drop (j+(p+2)+1):=by
  rw[← List.drop_drop,e1,jhM,List.drop_append,hmid,jhq,List.drop_of_length_le (by omega)];rfl
 have hr:=jhv W hV0
 refine⟨hl,hd,?_,?_,?_⟩
 ·rw[e2,jbo,h6];simp[val]
 ·rw[e1,hz 0,hm];exact hr
 ·have v1:=jbs B u j (by omega)
  rw[hW] at v1
  have v2:val B (u.take j++(mid++[0])++u.drop (j+(p+2)+1))=val B (u.take j)+(B:Int)^j*(W%VV):=by
   rw[jhM,jbo,hA,hz 0,hm]
  have v3:=jbA (B:=B) (l:=q.set j Qd) (k:=j) (by rw[jhY];exact hj)
  rw[jd3 hj,jd9 (l:=q) (i:=j) (k:=j+1) (by omega)] at v3
  rw[h8,v2,v3,v1,hQ,Int.pow_succ]
  have v4:=jg3 W VV
  generalize W/VV=Q at *
  generalize W%VV=R at *
  generalize (B:Int)^j=P
  generalize val B (q.drop (j+1))=q1
  rw[← v4,jhs,jhy,jhy]
  have w1:q1*(P*(B:Int))*VV=(B:Int)*q1*P*VV:=by ac_rfl
  have w2:P*(VV*Q)=Q*P*VV:=by ac_rfl
  rw[w1,w2]
  omega
theorem jgu (a b:Nat)(h:a<b)(ha:(mg 1000000000 a).length≤100000000)(hb:(mg 1000000000 b).length≤100000000):Cl 99 [.ints .u32 (mg 1000000000 a),.ints .u32 (mg 1000000000 b)] (.tup [.ints .u32 (mg 1000000000 (a/b)),.ints .u32 (mg 1000000000 (a%b))]):=by
 have hc:=jbW a b ha hb
 rw[jhB (by omega)] at hc
 rw[Nat.div_eq_of_lt h,Nat.mod_eq_of_lt h,jb3]
 refine V.en tbOk Tryz.func99 ?_
 (conv=>whnf)
 refine V.st ?_
 repeat ((try ((with_reducible refine .ext ?_);(conv=>whnf)));(with_reducible refine jaa (r:=?_) ?_ ?_);rotate_left;(focus (first|exact(hc)));(conv=>whnf);refine V.st ?_)
 exact Fin.tup ⟨Fin.nil _,Fin.of rfl,trivial⟩
theorem divide_one (a b:Nat)(h:b≤a)(hb:0<b)(hb1:b<1000000000)(ha:(mg 1000000000 a).length≤100000000):Cl 99 [.ints .u32 (mg 1000000000 a),.ints .u32 (mg 1000000000 b)] (.tup [.ints .u32 (mg 1000000000 (a/b)),.ints .u32 (mg 1000000000 (a%b))]):=by
 have hc:=jbW a b ha (by have:=jaf (B:=1000000000) (by omega) h;omega)
 have hmb:mg 1000000000 b=[(b:Int)]:=by
  rw[jbQ (by omega) hb,Nat.mod_eq_of_lt hb1,Nat.div_eq_of_lt hb1];rfl
 have hs0:0≤((a:Int)-b).sign:=Int.sign_nonneg_iff.2 (by omega)
 generalize ((a:Int)-b).sign=sg at *
 have hsh:=short_c a b ha hb (by omega)
 have hlt:a%b<b:=Nat.mod_lt _ hb
 have hfs:=jd4 (a%b) (by omega)
 rw[hmb] at hc ⊢
 refine V.en tbOk Tryz.func99 ?_
 (conv=>whnf)
 refine V.st ?_
 repeat ((try ((with_reducible refine .ext ?_);(conv=>whnf)));(with_reducible refine jaa (r:=?_) ?_ ?_);rotate_left;(focus (first|exact(hc)));(conv=>whnf);refine V.st ?_)
 refine Cnd.no (by rw[decide_eq_false_iff_not];omega) ?_
 (conv=>whnf)
 refine V.st ?_
 refine Cnd.yes (by simp) ?_
 (conv=>whnf)
 refine V.st ?_
 repeat ((try ((with_reducible refine .ext ?_);(conv=>whnf)));(with_reducible refine jaa (r:=?_) ?_ ?_);rotate_left;(focus (first|exact(hsh)|exact(hfs)));(conv=>whnf);refine V.st ?_)
 exact Fin.of rfl
theorem jgJ:type_of% @jha∧type_of% @jg8:=⟨@jha,@jg8⟩
theorem jgt (a b:Nat)(h:b≤a)(hb1:1000000000≤b)(ha:(mg 1000000000 a).length≤90000000):Cl 99 [.ints .u32 (mg 1000000000 a),.ints .u32 (mg 1000000000 b)] (.tup [.ints .u32 (mg 1000000000 (a/b)),.ints .u32 (mg 1000000000 (a%b))]):=by
 have hlen:=jaf (B:=1000000000) (by omega) h
 have hc:=jbW a b (by omega) (by omega)
 have hs0:0≤((a:Int)-b).sign:=Int.sign_nonneg_iff.2 (by omega)
 generalize ((a:Int)-b).sign=sg at *
 obtain⟨p,hp⟩:∃ p,(mg 1000000000 b).length=p+2:=by
  have:=jaf (B:=1000000000) (by omega) hb1
  have e:mg 1000000000 1000000000=[0,1]:=by rfl
  rw[e] at this
  exact⟨(mg 1000000000 b).length-2,by simp at this;omega⟩
 -- the scale
 have hdb:=mg_dg (B:=1000000000) (by omega) b
 have hvb:=jax (B:=1000000000) (by omega) b
 have hlb:=jda (B:=1000000000) (n:=b) (by omega)
 have hlt1:=jaA (B:=1000000000) (n:=a) (by omega)
 have ht0:=jak (by omega) hdb (p+1)
 have ht1:(mg 1000000000 b).getD (p+1) 0≠0:=by
  refine hlb _ ?_
  rw[List.getLast?_eq_getElem?,hp,jhF,show p+2-1=p+1 by omega,jhI (by omega)];rfl
 generalize hts:(mg 1000000000 b).getD (p+1) 0=t at *
 obtain⟨t,rfl⟩:∃ t':Nat,t=t':=⟨t.toNat,by omega⟩
 obtain⟨s,hs⟩:∃ s:Nat,1000000000/((t:Int)+1)=s:=⟨(1000000000/((t:Int)+1)).toNat,by have:=Int.ediv_nonneg (a:=1000000000) (b:=(t:Int)+1) (by omega) (by omega);omega⟩
 have hs1:1≤s∧s<1000000000∧s*(t+1)≤1000000000:=by
  have e1:s=1000000000/(t+1):=by
   have:((1000000000/(t+1):Nat):Int)=1000000000/((t:Int)+1):=by rw[Int.natCast_ediv];rfl
   omega
  refine⟨?_,?_,?_⟩
  ·rw[e1];exact(Nat.le_div_iff_mul_le (by omega)).2 (by omega)
  ·rw[e1];exact Nat.div_lt_of_lt_mul (by omega)
  ·rw[e1];exact Nat.div_mul_le_self _ _
 have hms:mg 1000000000 s=[(s:Int)]:=by
  rw[jbQ (by omega) (by omega),Nat.mod_eq_of_lt (by omega),Nat.div_eq_of_lt (by omega)];rfl
 have htm1:=jc4 b s (by omega) (by rw[hms];simp)
 have htm2:=jc4 a s (by omega) (by rw[hms];simp)
 rw[hms] at htm1 htm2
 -- the divisor, scaled
 have hbt:b<(t+1)*1000000000^(p+1)∧t*1000000000^(p+1)≤b:=by
  have h1:=jdu (B:=1000000000) (by omega) hdb (p+1)
  rw[jaU,hts,List.drop_eq_nil_of_le (by omega),hvb] at h1
  simp only[val,Int.mul_zero,jhw] at h1
  have e:((1000000000:Nat):Int)^(p+1)=((1000000000^(p+1):Nat):Int):=by rw[jhx]
  rw[e] at h1
  have e1:((t:Int)+1)=((t+1:Nat):Int):=by omega
  rw[e1,← jho,← jho] at h1
  omega
 have hPp:0<1000000000^(p+1):=Nat.pow_pos (by omega)
 have hVlt:b*s<1000000000^(p+2):=by
  have h1:b*s<(t+1)*1000000000^(p+1)*s:=Nat.mul_lt_mul_of_pos_right hbt.1 (by omega)
  have h2:s*(t+1)*1000000000^(p+1)≤1000000000*1000000000^(p+1):=jhd _ hs1.2.2
  have e1:(t+1)*1000000000^(p+1)*s=s*(t+1)*1000000000^(p+1):=by ac_rfl
  rw[Nat.pow_succ 1000000000 (p+1),jhf (1000000000^(p+1))]
  omega
 have hVge:s*1000000000^(p+1)≤b*s:=by
  have h1:1*1000000000^(p+1)≤t*1000000000^(p+1):=jhd _ (by omega)
  rw[jhf b]
  exact Nat.mul_le_mul_left _ (by omega)
 have hVl:(mg 1000000000 (b*s)).length=p+2:=by
  have h1:=jau (B:=1000000000) (n:=b*s) (k:=p+2) (by omega) hVlt
  rcases jhi (mg 1000000000 (b*s)).length (p+2) with h2|h2
  ·have h3:=jaA (B:=1000000000) (n:=b*s) (by omega)
   have h4:1000000000^(mg 1000000000 (b*s)).length≤1000000000^(p+1):=jht (by omega) (by omega)
   have h5:1*1000000000^(p+1)≤s*1000000000^(p+1):=jhd _ hs1.1
   omega
  ·omega
 have hdV:=mg_dg (B:=1000000000) (by omega) (b*s)
 have hvV:=jax (B:=1000000000) (by omega) (b*s)
 have hlV:=jda (B:=1000000000) (n:=b*s) (by omega)
 have htV:(mg 1000000000 (b*s)).getD (p+1) 0≠0:=by
  refine hlV _ ?_
  rw[List.getLast?_eq_getElem?,hVl,jhF,show p+2-1=p+1 by omega,jhI (by omega)];rfl
 have hM:(mg 1000000000 (a*s)).length≤(mg 1000000000 a).length+1:=by
  have:=jcp (B:=1000000000) (by omega) a s
  rw[hms] at this
  simpa using this
 have hdM:=mg_dg (B:=1000000000) (by omega) (a*s)
 have hvM:=jax (B:=1000000000) (by omega) (a*s)
 have hMlt:a*s<s*1000000000^(mg 1000000000 a).length:=by
  rw[jhf];exact Nat.mul_lt_mul_of_pos_left hlt1 (by omega)
 generalize hmb:mg 1000000000 b=bs at *
 generalize hma:mg 1000000000 a=xs at *
 generalize hmV:mg 1000000000 (b*s)=vs at *
 generalize hmM:mg 1000000000 (a*s)=ms at *
 have e1:((bs.length:Int)-1).toNat=p+1:=by omega
 obtain⟨N,hN⟩:∃ N,N=xs.length+1:=⟨_,rfl⟩
 obtain⟨L,hL⟩:∃ L,L=xs.length-vs.length:=⟨_,rfl⟩
 obtain⟨L1,hL1⟩:∃ L1,L1=L+1:=⟨_,rfl⟩
 have e2:(xs.length:Int)+1=(N:Int):=by omega
 have e3:(xs.length:Int)-((p+2:Nat):Int)=(L:Int):=by omega
 have e4:(L:Int)+1=(L1:Int):=by omega
 refine V.en tbOk Tryz.func99 ?_
 (conv=>whnf)
 refine V.st ?_
 repeat ((try ((with_reducible refine .ext ?_);(conv=>whnf)));(with_reducible refine jaa (r:=?_) ?_ ?_);rotate_left;(focus (first|exact(hc)));(conv=>whnf);refine V.st ?_)
 refine Cnd.no (by rw[decide_eq_false_iff_not];omega) ?_
 (conv=>whnf)
 refine V.st ?_
 refine Cnd.no (by rw[decide_eq_false_iff_not];omega) ?_
 (conv=>whnf)
 (try simp only[e1,e2,e3,e4,hts,hs,hVl,jha])
 repeat ((first|refine V.s1 ?_|((try ((with_reducible refine .ext ?_);(conv=>whnf);(try simp only[e1,e2,e3,e4,hts,hs,hVl,jha])));(with_reducible refine jaa (r:=?_) ?_ ?_);rotate_left;(focus (first|exact(htm1)|exact(htm2)));(conv=>whnf)));(try simp only[e1,e2,e3,e4,hts,hs,hVl,jha]))
 have hu0:setAt (List.replicate N 0) 0 (List.take N ms)=ms++List.replicate (N-ms.length) 0:=by
  unfold setAt
  rw[List.take_zero,jhR,jhT (l:=ms) (by omega),jg8,List.drop_replicate]
 have hu0v:val 1000000000 (ms++List.replicate (N-ms.length) 0)=(a*s:Nat):=by
  rw[jbo,jdI,Int.mul_zero,jhw,hvM]
 simp only[hu0]
 refine jae ((L1,ms++List.replicate (N-ms.length) 0,List.replicate L1 0):Nat×List Int×List Int) (fun x=>x.1≤L1∧x.2.1.length=N∧Dg 1000000000 x.2.1∧x.2.2.length=L1∧Dg 1000000000 x.2.2∧val 1000000000 (x.2.1.drop (x.1+(p+2)))=0∧val 1000000000 (x.2.1.drop x.1)<(b*s:Nat)∧((a*s:Nat):Int)=val 1000000000 (x.2.2.drop x.1)*((1000000000:Nat):Int)^x.1*(b*s:Nat)+val 1000000000 x.2.1) (fun x=>x.1)
  (fun x=>[(12,.int .i64 ((x.1:Int)-1)),(4,.osl 62 0 L1),(10,.osl 48 0 N)]) (fun x=>[(62,.arr .u32 x.2.2),(48,.arr .u32 x.2.1)]) ?_ ?_ ?_
 ·rw[show ((L1:Int)-1)=(L:Int) by omega]
  exact V.wk
 ·refine⟨jhb _,by simp;omega,jag hdM (jbG (by omega) _),by simp,jbG (by omega) _,?_,?_,?_⟩
  ·dsimp only
   rw[List.drop_of_length_le (by simp;omega)];rfl
  ·dsimp only
   have h1:=jdu (B:=1000000000) (by omega) (jag hdM (jbG (by omega) (N-ms.length))) L1
   rw[hu0v] at h1
   generalize val 1000000000 ((ms++List.replicate (N-ms.length) 0).drop L1)=z at *
   have h2:((1000000000:Nat):Int)^L1=((1000000000^L1:Nat):Int):=by rw[jhx]
   have h3:0<1000000000^L1:=Nat.pow_pos (by omega)
   have h4:a*s<(s*1000000000^(p+1))*1000000000^L1:=by
    rw[Nat.mul_assoc,← Nat.pow_add,show p+1+L1=xs.length by omega];exact hMlt
   have h5:(s*1000000000^(p+1))*1000000000^L1≤(b*s)*1000000000^L1:=jhd _ hVge
   rw[h2] at h1
   refine Int.lt_of_mul_lt_mul_right (a:=((1000000000^L1:Nat):Int)) ?_ (by omega)
   rw[← jho]
   omega
  ·dsimp only
   rw[List.drop_of_length_le (by simp),hu0v];simp[val]
 rintro⟨k,u,q⟩ ⟨h1,h2,h3,h4,h5,h6,h7,h8⟩
 dsimp only at h1 h2 h3 h4 h5 h6 h7 h8 ⊢
 (conv=>whnf)
 refine V.st ?_
 refine V.br (fun hq=>?_) (fun hq=>?_)
 ·rw[decide_eq_true_eq] at hq
  obtain⟨j,rfl⟩:∃ j,k=j+1:=⟨k-1,by omega⟩
  have f1:(((j+1:Nat):Int)-1)=(j:Int):=by omega
  have f2:(j:Int)+((p+2:Nat):Int)=((j+(p+2):Nat):Int):=by omega
  have f4:((j+(p+2):Nat):Int)+1=((j+(p+3):Nat):Int):=by omega
  have f5:j+(p+3)-j=p+3:=by omega
  have f6:((p+2:Nat):Int)-1=((p+1:Nat):Int):=by omega
  have f7:((p+2:Nat):Int)-2=((p:Nat):Int):=by omega
  -- what is looked at
  obtain⟨W,hW⟩:∃ W,val 1000000000 (u.drop j)=W:=⟨_,rfl⟩
  obtain⟨VV,hVV⟩:∃ VV:Int,((b*s:Nat):Int)=VV:=⟨_,rfl⟩
  rw[hVV] at h7 h8 hvV
  have bv1:=jak (by omega) hdV (p+1)
  have bu:=jak (by omega) h3 j
  have hWlt:W<1000000000*VV:=by
   rw[jaU] at hW;omega
  have hkn:=kn_of (B:=1000000000) (p:=p) (j:=j) (u:=u) (v:=vs) (W:=W) (V:=VV) (by omega) h3 hdV hVl hvV hW (by rw[show j+(p+2)+1=j+1+(p+2) by omega];exact h6) (by omega) hWlt
  have hVpos:=hkn.vpos
  have hW0:0≤W:=by rw[← hW];exact jal (jbf h3 j)
  have b1:=jak (by omega) h3 (j+(p+2))
  have b2:=jak (by omega) h3 (j+(p+1))
  have b3:=jak (by omega) h3 (j+p)
  have b4:=jak (by omega) hdV p
  generalize hg1:u.getD (j+(p+2)) 0=un at *
  generalize hg2:u.getD (j+(p+1)) 0=u1 at *
  generalize hg3:u.getD (j+p) 0=u0 at *
  generalize hg4:vs.getD (p+1) 0=vt at *
  generalize hg5:vs.getD p 0=v2 at *
  refine V.r0 (V.a7 jgJ f1 f2 f4 f5 f6 f7) ?_
  refine .inl ?_
  (conv=>whnf)
  refine⟨0,_,_,⟨Tryz.func133,rfl,rfl,jg1 rfl⟩,?_⟩
  (conv=>whnf)
  (conv=>whnf)
  (try simp only[jgJ,f1,f2,f4,f5,f6,f7,hVl,hg4])
  repeat ((first|refine V.s1 ?_);(try simp only[jgJ,f1,f2,f4,f5,f6,f7,hVl,hg4]))
  refine⟨(V.tk [0,1,2,3,4,5,6,7,8,9,10,11,12,13] .done),[],V.pok,.go (jab ?_)⟩
  (conv=>whnf)
  (try simp only[jgJ,f1,f2,f4,f5,f6,f7,hVl,hg1,hg2])
  repeat ((first|refine V.s1 ?_);(try simp only[jgJ,f1,f2,f4,f5,f6,f7,hVl,hg1,hg2]))
  refine⟨(V.tk [0,1,2,3,4,5,6,7] .done),[],V.pok,.go (jab ?_)⟩
  (conv=>whnf)
  (try simp only[jgJ,f1,f2,f4,f5,f6,f7,hVl,hg1,hg2])
  repeat ((first|refine V.s1 ?_);(try simp only[jgJ,f1,f2,f4,f5,f6,f7,hVl,hg1,hg2]))
  have hkn':Kn 1000000000 vt v2 (val 1000000000 (vs.take p)) u0 (val 1000000000 ((u.drop j).take p)) (un*1000000000+u1) W VV (((1000000000:Nat):Int)^p):=hkn
  have hQ0:0≤W/VV:=Int.ediv_nonneg hW0 (by omega)
  have hQm:W/VV*VV≤W:=Int.ediv_mul_le _ (by omega)
  have hQi:=hkn'.init hQ0 hQm
  have hhd:0≤un*1000000000+u1∧un*1000000000+u1<1000000000000000000:=by omega
  generalize hHD:un*1000000000+u1=HD at *
  refine lp_exit (β:=Int×Int) 0 (fun y=>0≤y.1∧y.1<1000000000∧(y.1-1)*VV≤W∧W/VV≤y.1) (fun y=>[(8,.int .u64 y.1),(9,.int .u64 y.2)]) (fun _=>[]) ?_ ?_
  ·refine jae ((HD/vt,HD%vt):Int×Int) (fun y=>HD=y.1*vt+y.2∧(0≤y.2∧y.2<1000000000)∧W/VV≤y.1) (fun y=>y.1.toNat) (fun y=>[(8,.int .u64 y.1),(9,.int .u64 y.2)]) (fun _=>[]) ?_ ?_ ?_
   ·exact V.wk
   ·have hvtp:(0:Int)<vt:=by omega
    refine⟨by dsimp only;have:=jg3 HD vt;rw[jhm];omega,⟨Int.emod_nonneg _ (by omega),?_⟩,hQi⟩
    have:=jhv HD hvtp
    dsimp only;omega
   rintro⟨qq,r⟩ ⟨i1,i2,i3⟩
   dsimp only at i1 i2 i3 ⊢
   have hqv:qq<1000000000→0≤qq*v2∧qq*v2≤999999999*999999999:=fun h=>⟨jg4 (by omega) (by omega),Int.mul_le_mul (by omega) (by omega) (by omega) (by omega)⟩
   refine V.r0 (V.a8 jgJ f1 f2 f4 f5 f6 f7 hVl) ?_
   refine⟨Pq1z,[],V.pok,.go (jab ?_)⟩
   (conv=>whnf)
   (try simp only[jgJ,f1,f2,f4,f5,f6,f7,hVl,hg5,hg3])
   repeat ((first|refine V.s1 ?_);(try simp only[jgJ,f1,f2,f4,f5,f6,f7,hVl,hg5,hg3]))
   refine Or.inl (And.intro (fun h _ _=>?_) ?_)
   ·have h9:=hqv (by simpa using h)
    exact⟨by simp only[V.lo];omega,by simp only[V.hi];omega⟩
   (conv=>whnf)
   (try simp only[jgJ,f1,f2,f4,f5,f6,f7,hVl,hg5,hg3])
   repeat ((first|refine V.s1 ?_);(try simp only[jgJ,f1,f2,f4,f5,f6,f7,hVl,hg5,hg3]))
   refine V.br (fun hq5=>?_) (fun hq5=>?_)
   ·rw[Bool.or_eq_true,decide_eq_true_eq,decide_eq_true_eq] at hq5
    have hst:=hkn'.step hQ0 hQm i3 i1 (by omega)
    have hqpos:1≤qq:=by omega
    have hrec:HD=(qq-1)*vt+(r+vt):=by rw[Int.sub_mul,jhz];omega
    refine V.r0 (V.a8 jgJ f1 f2 f4 f5 f6 f7 hVl) ?_
    refine V.br (fun hq6=>?_) (fun hq6=>?_)
    ·rw[decide_eq_true_eq] at hq6
     have ho:=hkn'.out2 (q:=qq-1) (r:=r+vt) (by omega) hrec hq6
     refine V.r0 (V.a8 jgJ f1 f2 f4 f5 f6 f7 hVl) ?_
     exact⟨(qq-1,r+vt),⟨by dsimp only;omega,ho.1,ho.2,hst⟩,V.wk⟩
    ·rw[decide_eq_false_iff_not] at hq6
     refine V.r0 (V.a8 jgJ f1 f2 f4 f5 f6 f7 hVl) ?_
     exact⟨(qq-1,r+vt),⟨hrec,by dsimp only;omega,hst⟩,by dsimp only;omega,V.wk⟩
   ·rw[jhk,decide_eq_false_iff_not,decide_eq_false_iff_not] at hq5
    have ho:=hkn'.out1 (q:=qq) (r:=r) (by omega) i1 (by omega) (by omega)
    refine V.r0 (V.a8 jgJ f1 f2 f4 f5 f6 f7 hVl) ?_
    exact⟨(qq,r),⟨by dsimp only;omega,by dsimp only;omega,ho,i3⟩,V.wk⟩
  ·rintro⟨qq,r⟩ ⟨i1,i2,i3,i4⟩
   dsimp only at i1 i2 i3 i4 ⊢
   refine V.r0 (V.a8 jgJ f1 f2 f4 f5 f6 f7 hVl) ?_
   have hAl:(u.take j).length=j:=by rw[jhL];omega
   have hnl:u.take j++[]++u.drop (j+0)=u:=by rw[List.append_nil,jg9,List.take_append_drop]
   refine jae ((0,[],0,0):Nat×List Int×Int×Int) (fun y=>y.1≤p+2∧y.2.1.length=y.1∧Dg 1000000000 y.2.1∧(0≤y.2.2.1∧y.2.2.1<1000000000)∧(0≤y.2.2.2∧y.2.2.2≤1)∧val 1000000000 y.2.1-(y.2.2.1+y.2.2.2)*((1000000000:Nat):Int)^y.1=val 1000000000 ((u.drop j).take y.1)-qq*val 1000000000 (vs.take y.1)) (fun y=>p+2-y.1)
    (fun y=>[(77,.int .i64 y.1),(10,.int .u64 y.2.2.1),(11,.int .i64 y.2.2.2)]) (fun y=>[(48,.arr .u32 (u.take j++y.2.1++u.drop (j+y.1)))]) ?_ ?_ ?_
   ·rw[hnl]
    exact V.wk
   ·exact⟨jg2 _,rfl,fun x hx=>by simp at hx,by simp,by simp,by simp[val]⟩
   rintro⟨i,mid,c,bw⟩ ⟨g1,g2,g3,g4,g5,g6⟩
   dsimp only at g1 g2 g3 g4 g5 g6 ⊢
   have hvu:=jah 1000000000 (u.drop j) i
   have hvv:=jah 1000000000 vs i
   rw[getD_drop] at hvu
   have bd:=jak (by omega) hdV i
   have bui:=jak (by omega) h3 (j+i)
   have hcl:(u.take j++mid++u.drop (j+i)).length=N:=by
    rw[jhK,jhK,hAl,g2,jhV];omega
   have hcg:=mid_get (u:=u) (A:=u.take j) (mid:=mid) (k:=j+i) (by omega)
   refine V.r0 (V.a8 jgJ f1 f2 f4 f5 f6 f7 hVl) ?_
   refine V.br (fun hw=>?_) (fun hw=>?_)
   ·rw[decide_eq_true_eq] at hw
    have hms2:=fun r=>jfc (u:=u) (A:=u.take j) (mid:=mid) (k:=j+i) (r:=r) (by omega) (by omega)
    generalize hd0:vs.getD i 0=d at *
    generalize hui:u.getD (j+i) 0=ui at *
    have hqd:0≤qq*d∧qq*d≤999999999*999999999:=⟨jg4 (by omega) (by omega),Int.mul_le_mul (by omega) (by omega) (by omega) (by omega)⟩
    have hki:((i:Int)+1)=((i+1:Nat):Int):=by omega
    have hai:j+i+1=j+(i+1):=by omega
    generalize hqd0:qq*d=qd at *
    (conv=>whnf)
    (try simp only[jgJ,f1,f2,f4,f5,f6,f7,hVl,hd0,hcg,hki,hqd0])
    repeat ((first|refine V.s1 ?_);(try simp only[jgJ,f1,f2,f4,f5,f6,f7,hVl,hd0,hcg,hki,hqd0]))
    refine V.br (fun hneg=>?_) (fun hneg=>?_)
    ·rw[decide_eq_true_eq] at hneg
     have hst:=red_step (B:=1000000000) (q:=qq) (d:=d) (u:=ui) (r:=ui-bw-(c+qd)%1000000000+1000000000) (c':=(c+qd)/1000000000) (b':=1) g2 g6 (by rw[hqd0];have:=jg3 (c+qd) 1000000000;omega)
     rw[← hvu,← hvv] at hst
     (conv=>whnf)
     (try simp only[jgJ,f1,f2,f4,f5,f6,f7,hVl,hd0,hcg,hki,hms2,hai])
     repeat ((first|refine V.s1 ?_);(try simp only[jgJ,f1,f2,f4,f5,f6,f7,hVl,hd0,hcg,hki,hms2,hai]))
     exact⟨(i+1,mid++[ui-bw-(c+qd)%1000000000+1000000000],(c+qd)/1000000000,1),⟨by dsimp only;omega,by simp[g2],jag g3 (jap (by omega)),by dsimp only;omega,by simp,hst⟩,by dsimp only;omega,V.wk⟩
    ·rw[decide_eq_false_iff_not] at hneg
     have hst:=red_step (B:=1000000000) (q:=qq) (d:=d) (u:=ui) (r:=ui-bw-(c+qd)%1000000000) (c':=(c+qd)/1000000000) (b':=0) g2 g6 (by rw[hqd0];have:=jg3 (c+qd) 1000000000;omega)
     rw[← hvu,← hvv] at hst
     (conv=>whnf)
     (try simp only[jgJ,f1,f2,f4,f5,f6,f7,hVl,hd0,hcg,hki,hms2,hai])
     repeat ((first|refine V.s1 ?_);(try simp only[jgJ,f1,f2,f4,f5,f6,f7,hVl,hd0,hcg,hki,hms2,hai]))
     exact⟨(i+1,mid++[ui-bw-(c+qd)%1000000000],(c+qd)/1000000000,0),⟨by dsimp only;omega,by simp[g2],jag g3 (jap (by omega)),by dsimp only;omega,by simp,hst⟩,by dsimp only;omega,V.wk⟩
   ·rw[decide_eq_false_iff_not] at hw
    obtain rfl:i=p+2:=by omega
    rw[hg1] at hcg
    (conv=>whnf)
    (try simp only[jgJ,f1,f2,f4,f5,f6,f7,hVl,hcg])
    repeat ((first|refine V.s1 ?_);(try simp only[jgJ,f1,f2,f4,f5,f6,f7,hVl,hcg]))
    have h6':val 1000000000 (u.drop (j+(p+2)+1))=0:=by rw[show j+(p+2)+1=j+1+(p+2) by omega];exact h6
    have hWs:W=val 1000000000 ((u.drop j).take (p+2))+un*((1000000000:Nat):Int)^(p+2):=by
     have k1:=jbs 1000000000 (u.drop j) (p+2) (by rw[jhV];omega)
     rw[hW,List.drop_drop,jaU 1000000000 u (j+(p+2)),h6',hg1,Int.mul_zero,jhw,jhm] at k1
     exact k1
    have hvsV:val 1000000000 (vs.take (p+2))=VV:=by rw[← hVl,jhZ,hvV]
    rw[hvsV] at g6
    have hPn:(0:Int)<((1000000000:Nat):Int)^(p+2):=jdy (by omega) _
    have hVP:VV≤((1000000000:Nat):Int)^(p+2):=by
     have k1:((b*s:Nat):Int)<((1000000000^(p+2):Nat):Int):=by exact_mod_cast hVlt
     rw[jhx] at k1
     omega
    have hm0:=jal g3
    have hm1:=jbL g3
    rw[g2] at hm1
    have hsetz:=jfc (u:=u) (A:=u.take j) (mid:=mid) (k:=j+(p+2)) (r:=0) (by omega) (by omega)
    refine V.br (fun hc2=>?_) (fun hc2=>?_)
    ·rw[decide_eq_true_eq] at hc2
     have hq1:1≤qq:=by
      rcases Int.lt_or_le qq 1 with k0|k0
      ·obtain rfl:qq=0:=by omega
       exfalso
       rw[Int.zero_mul,Int.sub_zero] at g6
       have k3:0≤val 1000000000 ((u.drop j).take (p+2)):=jal (ja8 (jbf h3 j) _)
       rcases Int.lt_or_le 0 (c+bw) with k4|k4
       ·have k5:1*((1000000000:Nat):Int)^(p+2)≤(c+bw)*((1000000000:Nat):Int)^(p+2):=jhg (by omega) (by omega)
        omega
       ·omega
      ·exact k0
     have hml:(u.take j++mid++u.drop (j+(p+2))).length=N:=by
      rw[jhK,jhK,hAl,g2,jhV];omega
     obtain⟨w,hw1⟩:∃ w,w=u.take j++mid++u.drop (j+(p+2)):=⟨_,rfl⟩
     have hwd:w.drop (j+(p+2))=u.drop (j+(p+2)):=by rw[hw1];exact mid_drop (by omega)
     have hwg:∀ i,i<p+2→w.getD (j+i) 0=mid.getD i 0:=fun i hi=>by
      rw[hw1,jhM,jhF,List.getElem?_append_right (by omega),hAl,Nat.add_sub_cancel_left,jhN (by omega),jhF]
     have hnl2:u.take j++[]++w.drop (j+0)=w:=by
      have:u.take j=w.take j:=by rw[hw1,jhM,List.take_append_of_le_length (by omega),List.take_take,Nat.min_self]
      rw[this,List.append_nil,jg9,List.take_append_drop]
     rw[← hw1] at hml
     simp only[← hw1]
     refine V.r0 (V.a8 jgJ f1 f2 f4 f5 f6 f7 hVl) ?_
     refine jae ((0,[],0):Nat×List Int×Int) (fun y=>y.1≤p+2∧y.2.1.length=y.1∧Dg 1000000000 y.2.1∧(0≤y.2.2∧y.2.2≤1)∧val 1000000000 y.2.1+y.2.2*((1000000000:Nat):Int)^y.1=val 1000000000 (mid.take y.1)+val 1000000000 (vs.take y.1)) (fun y=>p+2-y.1)
      (fun y=>[(125,.int .i64 y.1),(15,.int .u32 y.2.2)]) (fun y=>[(48,.arr .u32 (u.take j++y.2.1++w.drop (j+y.1)))]) ?_ ?_ ?_
     ·rw[hnl2]
      exact V.wk
     ·exact⟨jg2 _,rfl,fun x hx=>by simp at hx,by simp,by simp[val]⟩
     rintro⟨i,m2,ov⟩ ⟨k1,k2,k3,k4,k5⟩
     dsimp only at k1 k2 k3 k4 k5 ⊢
     have hvm:=jah 1000000000 mid i
     have hvv2:=jah 1000000000 vs i
     have bd:=jak (by omega) hdV i
     have bmi:=jak (by omega) g3 i
     have hcg2:=mid_get (u:=w) (A:=u.take j) (mid:=m2) (k:=j+i) (by omega)
     have hcl2:(u.take j++m2++w.drop (j+i)).length=N:=by
      rw[jhK,jhK,hAl,k2,jhV];omega
     refine V.r0 (V.a8 jgJ f1 f2 f4 f5 f6 f7 hVl) ?_
     refine V.br (fun hw2=>?_) (fun hw2=>?_)
     ·rw[decide_eq_true_eq] at hw2
      have hms3:=fun r=>jfc (u:=w) (A:=u.take j) (mid:=m2) (k:=j+i) (r:=r) (by omega) (by omega)
      rw[hwg i (by omega)] at hcg2
      generalize hd0:vs.getD i 0=d at *
      generalize hmi:mid.getD i 0=mi at *
      have hki:((i:Int)+1)=((i+1:Nat):Int):=by omega
      have hai:j+i+1=j+(i+1):=by omega
      (conv=>whnf)
      (try simp only[jgJ,f1,f2,f4,f5,f6,f7,hVl,hd0,hcg2,hki])
      repeat ((first|refine V.s1 ?_);(try simp only[jgJ,f1,f2,f4,f5,f6,f7,hVl,hd0,hcg2,hki]))
      refine V.br (fun hge=>?_) (fun hge=>?_)
      ·rw[decide_eq_true_eq] at hge
       have hst:=jas (B:=1000000000) (x:=mi) (y:=d) (d:=mi+d+ov-1000000000) (c':=1) k2 k5 (by omega)
       rw[← hvm,← hvv2] at hst
       (conv=>whnf)
       (try simp only[jgJ,f1,f2,f4,f5,f6,f7,hVl,hki,hms3,hai])
       repeat ((first|refine V.s1 ?_);(try simp only[jgJ,f1,f2,f4,f5,f6,f7,hVl,hki,hms3,hai]))
       exact⟨(i+1,m2++[mi+d+ov-1000000000],1),⟨by dsimp only;omega,by simp[k2],jag k3 (jap (by omega)),by simp,hst⟩,by dsimp only;omega,V.wk⟩
      ·rw[decide_eq_false_iff_not] at hge
       have hst:=jas (B:=1000000000) (x:=mi) (y:=d) (d:=mi+d+ov) (c':=0) k2 k5 (by omega)
       rw[← hvm,← hvv2] at hst
       (conv=>whnf)
       (try simp only[jgJ,f1,f2,f4,f5,f6,f7,hVl,hki,hms3,hai])
       repeat ((first|refine V.s1 ?_);(try simp only[jgJ,f1,f2,f4,f5,f6,f7,hVl,hki,hms3,hai]))
       exact⟨(i+1,m2++[mi+d+ov],0),⟨by dsimp only;omega,by simp[k2],jag k3 (jap (by omega)),by simp,hst⟩,by dsimp only;omega,V.wk⟩
     ·rw[decide_eq_false_iff_not] at hw2
      obtain rfl:i=p+2:=by omega
      rw[hvsV,← g2,jhZ,g2] at k5
      have hn0:=jal k3
      have hn1:=jbL k3
      rw[k2] at hn1
      have hrb:=red_b hPn hVpos hVP hWs g6 hm1 i3 (by omega) k5 hn0 hn1
      have hinv:=div_inv (B:=1000000000) (p:=p) (j:=j) (u:=u) (q:=q) (mid:=m2) (Qd:=qq-1) (M:=((a*s:Nat):Int)) (by omega) (by omega) (by omega) k2 h3 k3 h6' hW hVpos hrb.2 hrb.1 h8
      have hsetz2:=jfc (u:=u) (A:=u.take j) (mid:=m2) (k:=j+(p+2)) (r:=0) (by omega) (by omega)
      (conv=>whnf)
      (try simp only[jgJ,f1,f2,f4,f5,f6,f7,hVl,hwd,hsetz2])
      repeat ((first|refine V.s1 ?_);(try simp only[jgJ,f1,f2,f4,f5,f6,f7,hVl,hwd,hsetz2]))
      exact⟨(j,u.take j++(m2++[0])++u.drop (j+(p+2)+1),q.set j (qq-1)),⟨by dsimp only;omega,by dsimp only;rw[hinv.1];exact h2,hinv.2.1,by dsimp only;rw[jhY];exact h4,jcZ h5 (by omega),hinv.2.2.1,by dsimp only;rw[hVV];exact hinv.2.2.2.1,by dsimp only;rw[hVV];exact hinv.2.2.2.2⟩,by dsimp only;omega,V.wk⟩
    ·rw[decide_eq_false_iff_not] at hc2
     have hra:=red_a hPn hVpos hVP hWs g6 hm0 i4 (by omega)
     have hinv:=div_inv (B:=1000000000) (p:=p) (j:=j) (u:=u) (q:=q) (mid:=mid) (Qd:=qq) (M:=((a*s:Nat):Int)) (by omega) (by omega) (by omega) g2 h3 g3 h6' hW hVpos hra.2 hra.1 h8
     (conv=>whnf)
     (try simp only[jgJ,f1,f2,f4,f5,f6,f7,hVl,hsetz])
     repeat ((first|refine V.s1 ?_);(try simp only[jgJ,f1,f2,f4,f5,f6,f7,hVl,hsetz]))
     exact⟨(j,u.take j++(mid++[0])++u.drop (j+(p+2)+1),q.set j qq),⟨by dsimp only;omega,by dsimp only;rw[hinv.1];exact h2,hinv.2.1,by dsimp only;rw[jhY];exact h4,jcZ h5 ⟨i1,i2⟩,hinv.2.2.1,by dsimp only;rw[hVV];exact hinv.2.2.2.1,by dsimp only;rw[hVV];exact hinv.2.2.2.2⟩,by dsimp only;omega,V.wk⟩
 ·rw[decide_eq_false_iff_not] at hq
  obtain rfl:k=0:=by omega
  rw[jhW,Int.pow_zero,Int.mul_one] at h8
  rw[jhW] at h7
  rw[jg8] at h6
  have hvq:=jal h5
  have hvu:=jal h3
  obtain⟨w,hw⟩:∃ w:Nat,val 1000000000 q=w:=⟨(val 1000000000 q).toNat,by omega⟩
  obtain⟨z,hz⟩:∃ z:Nat,val 1000000000 u=z:=⟨(val 1000000000 u).toNat,by omega⟩
  rw[hw,hz,← jho,← Int.natCast_add] at h8
  rw[hz] at h7
  have h8':a*s=w*(b*s)+z:=by exact_mod_cast h8
  have h7':z<b*s:=by exact_mod_cast h7
  have hbs:0<b*s:=by omega
  have hdiv:a/b=w:=by
   have k1:a*s/(b*s)=a/b:=Nat.mul_div_mul_right a b (by omega)
   rw[← k1,h8',Nat.add_comm,Nat.add_mul_div_right _ _ hbs,Nat.div_eq_of_lt h7',jg8]
  have hmod:z=a%b*s:=by
   have k1:a*s%(b*s)=a%b*s:=Nat.mul_mod_mul_right s a b
   rw[← k1,h8',Nat.add_comm,Nat.add_mul_mod_self_right,Nat.mod_eq_of_lt h7']
  have hzs:z/s=a%b:=by rw[hmod,Nat.mul_div_cancel _ (by omega)]
  have hut:val 1000000000 (u.take (p+2))=z:=by
   rw[jbs 1000000000 u (p+2) (by omega),h6,Int.mul_zero,jhw] at hz
   exact hz
  have hzl:=jau (B:=1000000000) (n:=z) (k:=p+2) (by omega) (by omega)
  have hc1:=jeu (u.take (p+2)) (ja8 h3 _) (by rw[jhL];omega)
  rw[hut,jha] at hc1
  have hc2:=short_c z s (by omega) (by omega) (by omega)
  rw[hzs] at hc2
  have hc3:=jeu q h5 (by omega)
  rw[hw,jha,← jhZ (l:=q),h4] at hc3
  rw[hdiv]
  refine V.r3 (V.a2 hVl @jha) hc1 hc2 hc3 ?_
  exact Fin.of rfl
theorem jaZ (a b:Nat)(hb0:0<b)(ha:(mg 1000000000 a).length≤90000000)(hb:(mg 1000000000 b).length≤90000000):Cl 99 [.ints .u32 (mg 1000000000 a),.ints .u32 (mg 1000000000 b)] (.tup [.ints .u32 (mg 1000000000 (a/b)),.ints .u32 (mg 1000000000 (a%b))]):=by
 rcases jhi a b with h|h
 ·exact jgu a b h (by omega) (by omega)
 ·rcases jhi b 1000000000 with h1|h1
  ·exact divide_one a b h hb0 h1 (by omega)
  ·exact jgt a b h h1 ha
end Go.Proofs.YtbhpaandigaanaaGreatDoor
end
section
namespace Go.Proofs.YtbhpaandigaanaaGreatDoor
open Go Go.RowKit Go.Proofs
set_option maxHeartbeats 4000000
set_option maxRecDepth 1000000
theorem bTp:Tryz.prog.underlying 206=some (.pointer 208):=by kernel_rfl
theorem bUp:Tryz.prog.underlying 236=some .unsafePointer:=by kernel_rfl
theorem bSl:Tryz.prog.underlying 29=some (.slice 5):=by kernel_rfl
theorem bStr:Tryz.prog.underlying 9=some .string:=by kernel_rfl
theorem bSize:(Tryz.prog.info? 208).map (·.size)=some 2:=by kernel_rfl
theorem bLies:liesAt Tryz.prog Tryz.prog.depth 208 (2/Tryz.prog.cellsOf 208) 0 208 1=true:=by kernel_rfl
theorem bByte:(Tryz.prog.info? 5).map (fun i=>(i.zero,i.size,i.bytes))=some (some (.int .u8 0),1,1):=by kernel_rfl
theorem jeq (b:Nat)(w:World)(h0:w.cell? ⟨b,0,none⟩=some (.pointer (some ⟨b,0,none⟩))) :
  Calls Tryz.prog 153 #[.pointer (some ⟨b,0,none⟩)] w fun e w'=>e = .returned (.tuple #[])∧w'=w:=by
 obtain⟨j,hj,_⟩:=Option.map_eq_some_iff.1 bSize
 go_enter Tryz.func153,Tryz.ntmps153
 go_wp2
 rw[Lib.run_neq_ptr_same w _ bTp hj]
 go_wp2
 go_end0
 exact⟨rfl,rfl⟩
theorem jej (b:Nat)(w:World)(h0:w.cell? ⟨b,0,none⟩=some (.pointer none))(hsh:w.shape? b=some (208,2))(hfz:w.frozen? ⟨b,0,none⟩=false) :
  Calls Tryz.prog 153 #[.pointer (some ⟨b,0,none⟩)] w fun e w'=>e = .returned (.tuple #[])∧w'=w.setCell ⟨b,0,none⟩ (.pointer (some ⟨b,0,none⟩)):=by
 obtain⟨j,hj,hjs⟩:=Option.map_eq_some_iff.1 bSize
 go_enter Tryz.func153,Tryz.ntmps153
 go_wp2
 rw[Lib.run_to_unsafe w ⟨b,0,none⟩ bTp bUp hj (by rw[hjs];decide) hsh (Nat.zero_lt_succ 1)]
 simp only[Result.andThen]
 rw[Oper.upon_value]
 go_wp2
 rw[run_callFunc_extern Tryz.func164 (by kernel_rfl) (by kernel_rfl) (by kernel_rfl) (e:=Extern.AbiNoEscape.same) (by kernel_rfl)]
 rw[Lib.run_noEscape]
 simp only[Result.andThen]
 rw[Oper.upon_value]
 go_wp2
 rw[Lib.run_from_unsafe w ⟨b,0,none⟩ bUp bTp hj hsh bLies]
 simp only[Result.andThen]
 rw[Oper.upon_value]
 go_wp2
 go_end0
 exact⟨rfl,rfl⟩
theorem jei (B b:Nat)(bs:List Value)(w:World)(h:Lib.IsBuilderF 208 5 B b bs w) :
  Calls Tryz.prog 153 #[.pointer (some ⟨b,0,none⟩)] w fun e w'=>e = .returned (.tuple #[])∧(Lib.BuilderAtF 208 5 B b (.pointer (some ⟨b,0,none⟩)) bs w'∧Below B w w'∧Lib.OthersKept 5 (some b) w w'):=by
 rcases h with h|h
 ·refine(jej b w h.cell0 h.shape h.frozen0).mono ?_
  rintro e w' ⟨rfl,rfl⟩
  exact⟨rfl,h.used _,(Below.refl B w).setCell (p:=⟨b,0,none⟩) h.1 _,(Lib.OthersKept.refl _ _ w).setCell ⟨b,0,none⟩ rfl _⟩
 ·refine(jeq b w h.cell0).mono ?_
  rintro e w' ⟨rfl,rfl⟩
  exact⟨rfl,h,Below.refl B _,Lib.OthersKept.refl _ _ _⟩
theorem jfS (B b:Nat)(bs:List Value)(c:Int)(w:World)(h:Lib.IsBuilderF 208 5 B b bs w)(hlen:bs.length+1≤140737488355328)(hBw:B≤w.heap.size) :
  Calls Tryz.prog 136 #[.pointer (some ⟨b,0,none⟩),.int .u8 c] w fun e w'=>e = .returned .nilIface∧(Lib.BuilderAtF 208 5 B b (.pointer (some ⟨b,0,none⟩)) (bs++[.int .u8 c]) w'∧Below B w w'∧Lib.OthersKept 5 (some b) w w'):=by
 obtain⟨i0,hi,hz0,hz1,hz2⟩:=info_parts bByte
 go_enter Tryz.func136,Tryz.ntmps136
 go_wp2_with (go_at_call 153;refine(jei B b bs _ h).mono ?_)
 rintro e w1 ⟨rfl,h1,hb1,hk1⟩
 obtain⟨hB,v,hbk,hown,hne⟩:=h1
 have c0:w1.cell? ⟨b,0,none⟩=some (.pointer (some ⟨b,0,none⟩)):=by rw[Lib.cell_of_heap hbk];rfl
 have c1:w1.cell? ⟨b,1,none⟩=some v:=by rw[Lib.cell_of_heap hbk];rfl
 go_wp2_with (at_builtin;refine wpList_append_ownF _ rfl _ _ 29 rfl B 5 i0 (.int .u8 0) 1 1 bSl hi hz0 hz1 hz2 rfl (by decide) _ _ _ rfl (hown.alloc _) ⟨w1.heap.size,0,none⟩ 1 1 [.int .u8 c] rfl rfl ?c1 ?c2 ?c3 ?c4 ?c5 ?_)
 case c1=>
  intro j u hj
  match j,hj with
  | 0,hj=>simp at hj;subst hj;simp[Addr.add]
 case c2=>intro u hu;simp at hu;subst hu;rfl
 case c3=>unfold maxLen;omega
 case c4=>omega
 case c5=>have:=hb1.size;simp;omega
 intro v' w2 hown' hgrow _
 have hlt:b<w1.heap.size:=by
  rcases jhi b w1.heap.size with h'|h'
  ·exact h'
  ·simp[Array.getElem?_eq_none h'] at hbk
 have hb2:w2.heap[b]? = some (.cells #[.pointer (some ⟨b,0,none⟩),v] 208 (0,0)):=by
  rw[hgrow.block b (by simp;omega) (fun e=>hne e.symm),Lib.alloc_old w1 _ b hlt]
  exact hbk
 have d0:w2.cell? ⟨b,0,none⟩=some (.pointer (some ⟨b,0,none⟩)):=by rw[Lib.cell_of_heap hb2];rfl
 have d1:w2.cell? ⟨b,1,none⟩=some v:=by rw[Lib.cell_of_heap hb2];rfl
 have f1:w2.frozen? ⟨b,1,none⟩=false:=Lib.frozen_of_heap hb2 1
 obtain⟨g,cap,rfl⟩:∃ g cap,v' = .slice (some ⟨g,0,none⟩) (bs.length+1) cap:=by
  rcases hown'.2 with⟨_,h0⟩|⟨g,cap,cur,fz,hv,_⟩
  ·omega
  ·exact⟨g,cap,hv⟩
 go_wp2
 go_ret
 refine⟨rfl,?_,?_,((hk1.alloc _).grown hgrow (Lib.ownsRowF_kind (hown.alloc _))).setCell ⟨b,1,none⟩ rfl _⟩
 ·exact Lib.BuilderAtF.put (T:=208) (e:=5) hB hb2 (bs':=bs++[.int .u8 c]) (by simpa using hown') (by decide)
 ·exact((hb1.alloc (by have:=hb1.size;omega) _).grown hgrow (by have:=hb1.size;simp;omega) (fun k hk=>(hown.lt k hk).1)).setCell (p:=⟨b,1,none⟩) hB _
theorem jeT (B b:Nat)(bs:List Value)(s:ByteArray)(w:World)(h:Lib.IsBuilderF 208 5 B b bs w)(hlen:bs.length+s.size≤140737488355328)(hBw:B≤w.heap.size) :
  Calls Tryz.prog 137 #[.pointer (some ⟨b,0,none⟩),.string s] w fun e w'=>e = .returned (.tuple #[.int .i64 s.size,.nilIface])∧(Lib.BuilderAtF 208 5 B b (.pointer (some ⟨b,0,none⟩)) (bs++Lib.strCells s) w'∧Below B w w'∧Lib.OthersKept 5 (some b) w w'):=by
 obtain⟨i0,hi,hz0,hz1,hz2⟩:=info_parts bByte
 go_enter Tryz.func137,Tryz.ntmps137
 go_wp2_with (go_at_call 153;refine(jei B b bs _ h).mono ?_)
 rintro e w1 ⟨rfl,h1,hb1,hk1⟩
 obtain⟨hB,v,hbk,hown,hne⟩:=h1
 have c0:w1.cell? ⟨b,0,none⟩=some (.pointer (some ⟨b,0,none⟩)):=by rw[Lib.cell_of_heap hbk];rfl
 have c1:w1.cell? ⟨b,1,none⟩=some v:=by rw[Lib.cell_of_heap hbk];rfl
 go_wp2_with (at_builtin;refine Lib.wpList_append_own_stringF _ rfl _ _ 29 9 rfl B 5 i0 bSl bStr hi hz0 hz1 hz2 _ _ _ rfl hown s rfl ?c3 ?c4 ?c5 ?_)
 case c3=>unfold maxLen;omega
 case c4=>omega
 case c5=>have:=hb1.size;omega
 intro v' w2 hown' hgrow _
 have hlt:b<w1.heap.size:=by
  rcases jhi b w1.heap.size with h'|h'
  ·exact h'
  ·simp[Array.getElem?_eq_none h'] at hbk
 have hb2:w2.heap[b]? = some (.cells #[.pointer (some ⟨b,0,none⟩),v] 208 (0,0)):=by
  rw[hgrow.block b hlt (fun e=>hne e.symm)]
  exact hbk
 have d0:w2.cell? ⟨b,0,none⟩=some (.pointer (some ⟨b,0,none⟩)):=by rw[Lib.cell_of_heap hb2];rfl
 have d1:w2.cell? ⟨b,1,none⟩=some v:=by rw[Lib.cell_of_heap hb2];rfl
 have f1:w2.frozen? ⟨b,1,none⟩=false:=Lib.frozen_of_heap hb2 1
 obtain⟨ao,n',cap,rfl⟩:∃ ao n' cap,v' = .slice ao n' cap:=by
  rcases hown'.2 with⟨hv,_⟩|⟨g,cap,cur,fz,hv,_⟩
  ·exact⟨_,_,_,hv⟩
  ·exact⟨_,_,_,hv⟩
 go_wp2
 go_ret2
 refine⟨rfl,?_,?_,(hk1.grown hgrow (Lib.ownsRowF_kind hown)).setCell ⟨b,1,none⟩ rfl _⟩
 ·exact Lib.BuilderAtF.put (T:=208) (e:=5) hB hb2 (bs':=bs++Lib.strCells s) (by simpa [Lib.strCells_length] using hown') (by decide)
 ·exact(hb1.grown hgrow (by have:=hb1.size;omega) (fun k hk=>(hown.lt k hk).1)).setCell (p:=⟨b,1,none⟩) hB _
end Go.Proofs.YtbhpaandigaanaaGreatDoor
end
section
namespace Go.Proofs.YtbhpaandigaanaaGreatDoor
open Go Go.V Go.Nb Go.RowKit Go.Proofs
set_option maxHeartbeats 4000000
set_option maxRecDepth 1000000
theorem jfR {P:Program}{f:Nat}{ds:List D}{r:D}(c:Called P f ds r)(w:World)(hg:GlW w){vs:List Value}(hd:DenL Env.dummy (pubOf w) ds vs) :
  Calls P f vs.toArray w fun e w' => ∃ v h',e = .returned v∧Den Env.dummy h' r v∧RowKit.Below w.heap.size w w':=by
 refine(c.call (pubOf w) w vs (jeo w hg) hd).mono fun e w' ⟨v,h',he,hv,_,_,hb,_⟩=>⟨v,h',he,hv,hb⟩
theorem jfI {B:Nat}{w w':World}(h:GlW w)(hb:RowKit.Below B w w')(hlt:GlLt B):GlW w':=⟨fun g vs hg=>by
 obtain⟨h1,T,f,h2⟩:=h.1 g vs hg
 exact⟨h1,T,f,by rw[hb.block g (hlt.1 g vs hg)];exact h2⟩,fun g hg=>by
 obtain⟨tp,p,T,f,h2⟩:=h.2 g hg
 exact⟨tp,p,T,f,by rw[hb.block g (hlt.2 g hg)];exact h2⟩⟩
theorem glLt {w:World}(h:GlW w):GlLt w.heap.size:=⟨fun g vs hg=>by
 obtain⟨_,T,f,h2⟩:=h.1 g vs hg
 exact(Array.getElem?_eq_some_iff.1 h2).1,fun g hg=>by
 obtain⟨_,_,T,f,h2⟩:=h.2 g hg
 exact(Array.getElem?_eq_some_iff.1 h2).1⟩
theorem itoa_k (n:Int)(h:InR .i64 n)(w:World)(hg:GlW w):Calls Tryz.prog 86 #[.int .i64 n] w fun e w'=>e = .returned (.string ⟨(decZ n).toArray⟩)∧RowKit.Below w.heap.size w w':=by
 refine(jfR (itoa_c n) w hg (vs:=[.int .i64 n]) ?_).mono ?_
 ·simp only[DenL,Den];exact⟨_,_,rfl,⟨rfl,h⟩,rfl⟩
 ·rintro e w' ⟨v,h',rfl,hv,hb⟩
  simp only[Den] at hv
  rw[hv.1]
  exact⟨rfl,hb⟩
theorem isB_below {T e B b:Nat}{bs:List Value}{w w':World}(h:Lib.IsBuilderF T e B b bs w)(hb:RowKit.Below w.heap.size w w'):Lib.IsBuilderF T e B b bs w':=by
 have key:∀ p,Lib.BuilderAtF T e B b p bs w→Lib.BuilderAtF T e B b p bs w':=by
  rintro p ⟨h1,v,h2,⟨h3,h4⟩,h5⟩
  refine⟨h1,v,by rw[hb.block b (Array.getElem?_eq_some_iff.1 h2).1];exact h2,⟨h3,?_⟩,h5⟩
  rcases h4 with h4|⟨g,cap,cur,fz,g1,g2,g3,g4⟩
  ·exact .inl h4
  ·exact .inr ⟨g,cap,cur,fz,g1,g2,by rw[hb.block g (Array.getElem?_eq_some_iff.1 g3).1];exact g3,g4⟩
 exact h.elim (fun x => .inl (key _ x)) (fun x => .inr (key _ x))
theorem jfm (k:Nat)(bs:List UInt8):Lib.byteCells (bs++List.replicate (k+1) 48)=Lib.byteCells (bs++List.replicate k 48)++[.int .u8 48]:=by
 rw[List.replicate_succ',← jhM,Lib.byteCells_append];rfl
theorem jfq (l:List UInt8):Lib.strCells ⟨l.toArray⟩=Lib.byteCells l:=by
 simp[Lib.strCells,Lib.byteCells]
theorem put_k (B b:Nat)(bs:List UInt8)(g:Nat)(k:Int)(w:World)(hgl:GlW w)(hlt:GlLt B)(hB:B≤w.heap.size)(h:Lib.IsBuilderF 208 5 B b (Lib.byteCells bs) w)(hg:g<1000000000)(hk:0≤k∧k≤9)(hl:bs.length≤1000000000000) :
  Calls Tryz.prog 135 #[.int .u32 g,.int .i64 k,.pointer (some ⟨b,0,none⟩)] w fun e w'=>e = .returned (.tuple #[])∧Lib.IsBuilderF 208 5 B b (Lib.byteCells (bs++List.replicate (k.toNat-(dec g).length) 48++dec g)) w'∧RowKit.Below B w w':=by
 go_enter Tryz.func135,Tryz.ntmps135
 go_wp2_with (go_at_call 86;refine(itoa_k (g:Int) ⟨by simp only[lo];omega,by simp only[hi];omega⟩ _ hgl).mono ?_)
 rintro e w1 ⟨rfl,hb1⟩
 have hdz:decZ (g:Int)=dec g:=by unfold decZ;rw[if_neg (by omega),jhA]
 rw[hdz]
 have hdl:=jeg g 9 (by omega) (by omega)
 have h1:=isB_below h hb1
 have hs1:=hb1.size
 have hb1':=hb1.mono hB
 have hsz:(⟨(dec g).toArray⟩:ByteArray).size=(dec g).length:=by simp[ByteArray.size]
 go_wp2
 clear hdz
 go_loopw [13] (fun i wr => ∃ n:Nat,n≤k.toNat-(dec g).length∧i = .int .i64 n∧Lib.IsBuilderF 208 5 B b (Lib.byteCells (bs++List.replicate n 48)) wr∧RowKit.Below B w1 wr) (fun i _=>k.toNat-(dec g).length-(intOf i).toNat)
 case atStart=>exact⟨0,jg2 _,rfl,by simpa using h1,Below.refl _ _⟩
 case round=>
  obtain⟨n,hn,rfl,hI,hbr⟩:=hrel
  have hsr:=hbr.size
  have hlen:(Lib.byteCells (bs++List.replicate n 48)).length≤1000000000100:=by rw[Lib.byteCells_length];simp;omega
  by_cases hlt2:(n:Int)<k-((dec g).length:Int)
  ·go_wp2_with (go_at_call 136;refine(jfS B b _ 48 _ hI (by omega) (by omega)).mono ?_)
   rintro e W1 ⟨rfl,h2,b2,_⟩
   rw[← jfm] at h2
   go_wp2
   go_roundw
   case rel=>exact⟨n+1,by omega,by go_num,Or.inr (by assumption),hbr.trans b2⟩
   case measure=>simp[intOf];omega
  ·have hne:n=k.toNat-(dec g).length:=by omega
   go_wp2_with (go_at_call 137;refine(jeT B b _ _ _ hI (by omega) (by omega)).mono ?_)
   rintro e W1 rfl h2 b2 -
   rw[jfq,← Lib.byteCells_append] at h2
   go_wp2
   go_end0
   exact⟨rfl,Or.inr h2,(hb1'.trans hbr).trans b2⟩
set_option maxHeartbeats 4000000
set_option maxRecDepth 1000000
theorem zero_k (n:Nat)(w:World)(hg:GlW w)(v:Value)(hv:Den Env.dummy (pubOf w) (.ints .u32 (mg 1000000000 n)) v):Calls Tryz.prog 71 #[v] w fun e w'=>e = .returned (.bool (decide (n=0)))∧RowKit.Below w.heap.size w w':=by
 refine(jfR (jcG n) w hg (vs:=[v]) ?_).mono ?_
 ·simp only[DenL];exact⟨_,_,rfl,hv,rfl⟩
 ·rintro e w' ⟨v,h',rfl,hv,hb⟩
  simp only[Den] at hv
  rw[hv]
  exact⟨rfl,hb⟩
def cv:Nat→Int
 | 0 => -1
 | k+1=>k
theorem cv_eq (m:Nat):cv m=(m:Int)-1:=by cases m<;>simp[cv]
theorem digits_w (n:Nat)(hn:0<n)(hl:(mg 1000000000 n).length≤100000000)(w:World)(hg:GlW w)(hlt:GlLt w.heap.size)(v:Value)(hv:Den Env.dummy (pubOf w) (.ints .u32 (mg 1000000000 n)) v) :
  Calls Tryz.prog 104 #[v] w fun e w'=>e = .returned (.string ⟨(dec n).toArray⟩)∧RowKit.Below w.heap.size w w':=by
 have hz:=zero_k n w hg v hv
 have hdx:=mg_dg (B:=1000000000) (by omega) n
 have hvx:=jax (B:=1000000000) (by omega) n
 have hlx:=jda (B:=1000000000) (n:=n) (by omega)
 have hnil:=jbR (B:=1000000000) (n:=n) (by omega)
 generalize mg 1000000000 n=xs at *
 simp only[Den,jaD] at hv
 obtain⟨a,cap,rfl,hcap,_,_,ha⟩:=hv
 obtain⟨j,hj⟩:∃ j,xs.length=j+1:=⟨xs.length-1,by
  have:xs≠[]:=fun e=>by have:=hnil.1 e;omega
  have:=List.length_pos_iff.2 this
  omega⟩
 obtain⟨ad,rfl⟩:∃ ad,a=some ad:=by
  cases a with
  | none=>obtain⟨h1,_⟩:=ha;rw[h1] at hj;simp at hj
  | some ad=>exact⟨ad,rfl⟩
 obtain⟨blk,off,spot⟩:=ad
 simp only at ha
 obtain⟨rfl,hcell⟩:=ha
 have hne:decide (n=0)=false:=decide_eq_false (by omega)
 rw[hne] at hz
 have hc0:∀ i,i<xs.length→w.cell? ⟨blk,off+i,none⟩=some (.int .u32 (xs.getD i 0)):=fun i hi=>by
  have:=hcell i (xs.getD i 0) (by rw[jhF,jhI hi];rfl)
  exact this
 have hblk:blk<w.heap.size:=by
  have:=hc0 0 (by omega)
  rcases jhi blk w.heap.size with h|h
  ·exact h
  ·simp[World.cell?,Array.getElem?_eq_none h] at this
 clear hcell
 rw[hj] at hz ⊢
 go_enter Tryz.func104,Tryz.ntmps104
 go_wp2_with (go_at_call 71;refine hz.mono ?_)
 rintro e w1 ⟨rfl,hb1⟩
 have hs1:=hb1.size
 have hc1:(w1.alloc (.cells #[.pointer none,.slice none 0 0] 208)).cell? ⟨blk,off+j,none⟩=some (.int .u32 (xs.getD j 0)):=by
  have h1:=hb1.alloc (o := .cells #[.pointer none,.slice none 0 0] 208) (by omega)
  rw[h1.cell (by exact hblk)]
  exact hc0 j (by omega)
 have hI0:=Lib.IsBuilderF.of (Lib.fresh_isBuilder 208 5 w1)
 have hgl1:GlW (w1.alloc (.cells #[.pointer none,.slice none 0 0] 208)):=jfI hg (hb1.alloc (by omega) _) hlt
 have hlt1:GlLt w1.heap.size:=⟨fun g vs h=>by have:=hlt.1 g vs h;omega,fun g h=>by have:=hlt.2 g h;omega⟩
 have bx:=jak (by omega) hdx j
 have hx1:xs.getD j 0≠0:=by
  refine hlx _ ?_
  rw[List.getLast?_eq_getElem?,hj,jhF,show j+1-1=j by omega,jhI (by omega)];rfl
 have hvj:val 1000000000 (xs.drop j)=xs.getD j 0:=by rw[jaU,show xs.drop (j+1)=[] from List.drop_eq_nil_of_le (by omega)];simp[val]
 obtain⟨g,hgx⟩:∃ g:Nat,xs.getD j 0=g:=⟨(xs.getD j 0).toNat,by omega⟩
 rw[hgx] at bx hx1 hvj hc1
 have hput:=put_k w1.heap.size w1.heap.size [] g 0 (w1.alloc (.cells #[.pointer none,.slice none 0 0] 208)) hgl1 hlt1 (by simp) hI0 (by omega) (by omega) (by simp)
 have e0:List.replicate ((0:Int).toNat-(dec g).length) (48:UInt8)=[]:=by simp
 rw[e0,List.append_nil,jhR] at hput
 clear hz hI0
 go_wp2_with (go_at_call 135;refine hput.mono ?_)
 rintro e w2 ⟨rfl,hI2,hb2⟩
 have hbw2:RowKit.Below w.heap.size w w2:=(hb1.alloc (by omega) _).trans (hb2.mono hs1)
 have hs2:w1.heap.size+1≤w2.heap.size:=by have:=hb2.size;simpa using this
 have hd0:dec g=dec (val 1000000000 (xs.drop j)).toNat:=by rw[hvj,jha]
 rw[hd0] at hI2
 clear hput hd0
 go_wp2
 go_loopw [6] (fun i wr => ∃ m:Nat,m≤j∧i = .int .i64 (cv m)∧Lib.IsBuilderF 208 5 w1.heap.size w1.heap.size (Lib.byteCells (dec (val 1000000000 (xs.drop m)).toNat)) wr∧RowKit.Below w1.heap.size w2 wr) (fun i _=>(intOf i+1).toNat)
 case atStart=>exact⟨j,jhb _,by rw[cv_eq],hI2,Below.refl _ _⟩
 case round=>
  obtain⟨m,hm,rfl,hI,hbr⟩:=hrel
  have hsr:=hbr.size
  have hbw:RowKit.Below w.heap.size w wr:=hbw2.trans (hbr.mono hs1)
  rcases m with _|m
  ·rw[jhW,hvx,jha] at hI
   simp only[cv]
   go_wp2_with (go_at_call 138;refine(Tryz.Builder_String_any_k w1.heap.size w1.heap.size (dec n) _ hI (by omega)).mono ?_)
   intros
   rename_i e W1 h2
   obtain⟨rfl,_,b2,_⟩:=h2
   go_wp2
   go_ret
   exact⟨rfl,hbw.trans (b2.mono hs1)⟩
  ·simp only[cv]
   have bm:=jak (by omega) hdx m
   have hcm:wr.cell? ⟨blk,off+m,none⟩=some (.int .u32 (xs.getD m 0)):=by
    rw[hbw.cell (by exact hblk)];exact hc0 m (by omega)
   obtain⟨y,hy⟩:∃ y:Nat,xs.getD m 0=y:=⟨(xs.getD m 0).toNat,by omega⟩
   have hvm:=jbA (B:=1000000000) (l:=xs) (k:=m) (by omega)
   have hv0:=jal (jbf hdx (m+1))
   have hvp:0<val 1000000000 (xs.drop (m+1)):=by
    have h1:=jbs 1000000000 (xs.drop (m+1)) (j-(m+1)) (by rw[jhV];omega)
    rw[List.drop_drop,show m+1+(j-(m+1))=j by omega,hvj] at h1
    have h2:=jal (ja8 (jbf hdx (m+1)) (j-(m+1)))
    have h3:(0:Int)<((1000000000:Nat):Int)^(j-(m+1))*g:=Int.mul_pos (jdy (by omega) _) (by omega)
    omega
   rw[hy] at bm hcm hvm
   obtain⟨u,hu⟩:∃ u:Nat,val 1000000000 (xs.drop (m+1))=u:=⟨(val 1000000000 (xs.drop (m+1))).toNat,by omega⟩
   rw[hu,jha] at hI
   have hdp:=jgz (a:=u) (by omega) 9 y (by omega)
   have hpd:=jbv 9 y (by omega) (by omega)
   have hnew:(val 1000000000 (xs.drop m)).toNat=u*10^9+y:=by rw[hvm,hu];omega
   rw[hpd.2,← hnew,← jhM] at hdp
   have hdlen:(dec u).length≤1000000000000:=by
    have h1:u<10^(9*(j+1)):=by
     have h2:=jbL (jbf hdx (m+1))
     rw[hu,jhV,hj] at h2
     have h3:(1000000000:Nat)^(j+1-(m+1))≤1000000000^(j+1):=jht (by omega) (by omega)
     rw[← jhx] at h2
     rw[Nat.pow_mul]
     have h4:u<1000000000^(j+1-(m+1)):=by exact_mod_cast h2
     exact jhh h4 h3
    have:=(jbv (9*(j+1)) u (by omega) h1).1
    omega
   have hput:=put_k w1.heap.size w1.heap.size (dec u) y 9 wr (jfI hg hbw hlt) hlt1 (by omega) hI (by omega) (by omega) hdlen
   rw[show (9:Int).toNat=9 from rfl,← hdp] at hput
   clear hdp hpd hnew hdlen hu hvm hvp hv0
   go_wp2_with (go_at_call 135;refine hput.mono ?_)
   intros
   rename_i e W1 h2
   obtain⟨rfl,hI3,b2⟩:=h2
   go_wp2
   go_roundw
   case rel=>exact⟨m,by omega,by (have h:=cv_eq m;show Value.int .i64 ((m:Int)-1)=Value.int .i64 (cv m);rw[h]),hI3,hbr.trans b2⟩
   case measure=>simp[intOf]
theorem jgv:Cl 104 [.ints .u32 (mg 1000000000 0)] (.str (dec 0)):=by
 have hz:=jcG 0
 refine V.en tbOk Tryz.func104 ?_
 (conv=>whnf)
 refine V.st ?_
 repeat ((try ((with_reducible refine .ext ?_);(conv=>whnf)));(with_reducible refine jaa (r:=?_) ?_ ?_);rotate_left;(focus (first|exact(hz)));(conv=>whnf);refine V.st ?_)
 exact Fin.of rfl
theorem digits_c (n:Nat)(hl:(mg 1000000000 n).length≤100000000):Cl 104 [.ints .u32 (mg 1000000000 n)] (.str (dec n)):=by
 rcases jhe n with h0|h0
 ·subst h0;exact jgv
 refine ja9 Tryz.func104 rfl rfl rfl fun w hp vs ha hd=>?_
 simp only[DenL] at hd
 obtain⟨v,_,rfl,hv,rfl⟩:=hd
 have hle:hp.Le (pubOf w):=fun b o v h=>ha.cells b o v h
 refine(digits_w n h0 hl w ha.blk (glLt ha.blk) v (Den.mono hle hv)).mono fun e w' ⟨he,hw⟩=>⟨⟨_,he,fun hp=>?_⟩,hw⟩
 ·simp only[Den]
  refine⟨trivial,?_⟩
  have h2:=jaA (B:=1000000000) (n:=n) (by omega)
  generalize (mg 1000000000 n).length=l at *
  have h1:n<10^(9*(l+1)):=by
   rw[Nat.pow_mul]
   exact jhh h2 (jht (by omega) (by omega))
  have:=(jbv (9*(l+1)) n (by omega) h1).1
  omega
end Go.Proofs.YtbhpaandigaanaaGreatDoor
end
