/- What functions of the program answer at given values, part 12. Conditions: those that each theorem names. -/
import Derived.Test.YtbnghipgicmpdaaGreatDoorSimplexCellsH11
import Derived.Test.YtbnghipgicmpdaaGreatDoorSimplexCellsH4
import Derived.Test.YtbnghipgicmpdaaGreatDoorSimplexCellsH10
import Derived.Test.YtbnghipgicmpdaaGreatDoorSimplexCellsH8
import Derived.Test.YtbnghipgicmpdaaGreatDoorSimplexCellsH9
set_option linter.unusedSimpArgs false
set_option linter.unusedVariables false
set_option maxHeartbeats 8000000
set_option maxRecDepth 100000
section
namespace Go.Proofs.YtbnghipgicmpdaaGreatDoor
open Go Go.V Go.Gr
def mkV0 (vals:List Int)(w m k:Nat):Int:=if 0<vals.length then vals.getD ((m*w+k)%vals.length) 0 else 0
def mkV (vals:List Int)(sm:Bool)(ns:List Nat)(w m k:Nat):Int:=
 if sm then 60000*(ixl ns m).getD (k%ns.length) 0/((nz ns).getD (k%ns.length) 0-1)+mkV0 vals w m k%5000 else mkV0 vals w m k
def mkF (vals:List Int)(sm:Bool)(ns:List Nat)(w m:Nat):List Int:=(List.range w).map (mkV vals sm ns w m)
theorem getD_mem {xs:List Int}{i:Nat}(h:i<xs.length):xs.getD i 0∈xs:=by
 rw[jjr,jju h];simp
theorem mkV0_bd {vals:List Int}{w m k:Nat}(hv:∀ v∈vals,0≤v∧v≤65535):0≤mkV0 vals w m k∧mkV0 vals w m k≤65535:=by
 unfold mkV0
 split
 ·rename_i h
  exact hv _ (getD_mem (Nat.mod_lt _ h))
 ·omega
theorem mk_sm {ns:List Nat}{m k:Nat}(h1:1≤ns.length)(h2:∀ n∈ns,2≤n∧n≤9):0≤(ixl ns m).getD (k%ns.length) 0∧(ixl ns m).getD (k%ns.length) 0≤8∧1≤(nz ns).getD (k%ns.length) 0-1∧(nz ns).getD (k%ns.length) 0-1≤8 ∧
  0≤60000*(ixl ns m).getD (k%ns.length) 0/((nz ns).getD (k%ns.length) 0-1)∧60000*(ixl ns m).getD (k%ns.length) 0/((nz ns).getD (k%ns.length) 0-1)≤60000:=by
 have hlt:k%ns.length<ns.length:=Nat.mod_lt _ (by omega)
 generalize k%ns.length=i at *
 obtain⟨n,hn⟩:∃ n,ns[i]? = some n:=⟨_,jju hlt⟩
 obtain⟨x,hx⟩:∃ x,(ixl ns m)[i]? = some x:=⟨_,jju (by rw[jaw];exact hlt)⟩
 have hnb:=h2 n (jjw hn)
 have hxb:=je4 (fun n hn=>by have:=h2 n hn;omega) hn hx
 have e1:(nz ns).getD i 0=n:=by simp[nz,jjr,hn]
 have e2:(ixl ns m).getD i 0=x:=by rw[jjr,hx];rfl
 rw[e1,e2]
 refine⟨hxb.1,by omega,by omega,by omega,Int.ediv_nonneg (by omega) (by omega),?_⟩
 exact Int.ediv_le_of_le_mul (by omega) (by omega)
theorem mkV_bd {vals:List Int}{sm:Bool}{ns:List Nat}{w m k:Nat}(hv:∀ v∈vals,0≤v∧v≤65535)(h1:1≤ns.length)(h2:∀ n∈ns,2≤n∧n≤9):0≤mkV vals sm ns w m k∧mkV vals sm ns w m k≤65535:=by
 have h3:=mkV0_bd (w:=w) (m:=m) (k:=k) hv
 have h4:=mk_sm (m:=m) (k:=k) h1 h2
 unfold mkV
 split<;>omega
theorem made_c (ds:List Int)(o:Int)(vals:List Int)(sm:Bool)(ns:List Nat)(w:Nat)(hv:∀ v∈vals,0≤v∧v≤65535)(hvl:vals.length≤281474976710656)(h1:1≤ns.length∧ns.length≤4)(h2:∀ n∈ns,2≤n∧n≤9)(hw:1≤w∧w≤4) :
  Cl 32 [.agg [.ints .u8 ds,.int .u8 o,.ints .u16 vals,.bool sm],.ints .i64 (nz ns),.int .i64 w] (gridD (nz ns) w (flat ns (mkF vals sm ns w) (PR ns))):=by
 have hlen:(nz ns).length=ns.length:=by simp[nz]
 have hPR:=PR_le h1.2 h2
 have hprod:prod (nz ns)=(PR ns:Nat):=jeP ns
 have hpz:∀ k,InR .i64 (prod ((nz ns).take k)):=fun k=>(jdV (size:=nz ns) (by
  rw[jjq]
  intro x hx
  obtain⟨n,hn,rfl⟩:=List.mem_map.1 hx
  have:=h2 n hn
  simp;omega) k).2.2 (by omega)
 have hfl:∀ j,(mkF vals sm ns w j).length≤4:=fun j=>by simp[mkF];omega
 refine V.en tbOk Tryz.func32 ?_
 refine V.r0 @jiX ?_
 refine Lp.ghostBox 72 7 2 .i64 (by decide) (by decide) ?_
 (conv=>whnf)
 refine jad (0) (fun k=>k≤PR ns) (fun k=>PR ns-k) (fun k=>[(8,.int .i64 k)]) (fun k=>[(7,.box [.ints .i64 (nz ns),.int .i64 w,.osl 72 0 (flat ns (mkF vals sm ns w) k).length]),(72,.arr .i64 (flat ns (mkF vals sm ns w) k))]) ?_ ?_ ?_
 ·exact V.wk
 ·exact jiT _
 intro m hm
 have hfm:=flat_len (ns:=ns) (m:=m) (fun j _=>hfl j)
 (conv=>whnf)
 (try simp only[hprod])
 repeat ((first|refine V.s1 ?_|((try ((with_reducible refine .ext ?_);(conv=>whnf);(try simp only[hprod])));(with_reducible refine jaa (r:=?_) ?_ ?_);rotate_left;(focus (first|exact(points_c _ (fun k _=>hpz k) (by omega))));(conv=>whnf)));(try simp only[hprod]))
 refine V.br (fun hq=>?_) (fun hq=>?_)
 ·rw[decide_eq_true_eq] at hq
  have hm1:m<PR ns:=by omega
  (conv=>whnf)
  refine V.st ?_
  repeat ((try ((with_reducible refine .ext ?_);(conv=>whnf)));(with_reducible refine jaa (r:=?_) ?_ ?_);rotate_left;(focus (first|exact(rindex_c ns m (fun n hn=>by have:=h2 n hn;omega) (by omega) (by omega))));(conv=>whnf);refine V.st ?_)
  refine jad (0) (fun k=>k≤w) (fun k=>w-k) (fun k=>[(10,.int .i64 k)]) (fun k=>[(7,.box [.ints .i64 (nz ns),.int .i64 w,.osl 72 0 (flat ns (mkF vals sm ns w) m++(List.range k).map (mkV vals sm ns w m)).length]),(72,.arr .i64 (flat ns (mkF vals sm ns w) m++(List.range k).map (mkV vals sm ns w m)))]) ?_ ?_ ?_
  ·simp only[List.range_zero,List.map_nil,jjH]
   exact V.wk
  ·exact jiT _
  intro k hk
  have hb0:=mkV0_bd (w:=w) (m:=m) (k:=k) hv
  have hbs:=mk_sm (m:=m) (k:=k) h1.1 h2
  have hmw:(m:Int)*w=((m*w:Nat):Int):=by simp
  have hmw2:m*w≤6561*4:=Nat.mul_le_mul (by omega) (by omega)
  (conv=>whnf)
  refine V.st ?_
  refine V.br (fun hq2=>?_) (fun hq2=>?_)
  ·rw[decide_eq_true_eq] at hq2
   (conv=>whnf)
   refine V.st ?_
   refine jbh [(11,.int .i64 (mkV0 vals w m k))] [] (CondB.mk (fun hq3=>?_) (fun hq3=>?_)) ?_
   ·rw[decide_eq_true_eq] at hq3
    have hvp:0<vals.length:=by omega
    have e1:((((m*w:Nat):Int)+k)%vals.length).toNat=(m*w+k)%vals.length:=by
     rw[← Int.natCast_add,← Int.natCast_emod,ji0]
    have e2:vals.getD ((m*w+k)%vals.length) 0=mkV0 vals w m k:=by unfold mkV0;rw[if_pos hvp]
    have e3:=jiU (((m*w:Nat):Int)+k) (b:=vals.length) (by omega)
    have e4:=jji (((m*w:Nat):Int)+k) (b:=vals.length) (by omega)
    (conv=>whnf)
    refine V.st ?_
    refine⟨(V.tk [0,1,2,3,4,5,6,7,8,9,10,11,12,13,14] .done),[],V.pok,.go (jac ?_)⟩
    (conv=>whnf)
    (try simp only[hmw,e1,e2])
    repeat ((first|refine V.s1 ?_);(try simp only[hmw,e1,e2]))
    exact V.wk
   ·rw[decide_eq_false_iff_not] at hq3
    have e2:mkV0 vals w m k=0:=by unfold mkV0;rw[if_neg (by omega)]
    rw[e2]
    (conv=>whnf)
    refine V.st ?_
    exact V.wk
   (conv=>whnf)
   refine V.st ?_
   refine jbh [(11,.int .i64 (mkV vals sm ns w m k))] [] (CondB.mk (fun hq3=>?_) (fun hq3=>?_)) ?_
   ·have hli:=jaw ns m
    have hki:(k:Int)%(ns.length:Int)=((k%ns.length:Nat):Int):=by simp
    have hkl:k%ns.length<ns.length:=Nat.mod_lt _ (by omega)
    have e2:mkV vals sm ns w m k=60000*(ixl ns m).getD (k%ns.length) 0/((nz ns).getD (k%ns.length) 0-1)+mkV0 vals w m k%5000:=by unfold mkV;rw[hq3];rfl
    rw[e2]
    generalize mkV0 vals w m k=v0 at *
    generalize hgi:k%ns.length=i at *
    refine V.r0 (V.a3 hlen hki @ji0) ?_
    refine⟨(V.tk [0,1,2,3,4,5,6,7,8,9,10,11,12,13] (V.e1 14 [] .done)),[],V.pok,.go (jac ?_)⟩
    refine V.r0 (V.a3 hlen hki @ji0) ?_
    exact V.wk
   ·have e2:mkV vals sm ns w m k=mkV0 vals w m k:=by unfold mkV;rw[hq3];rfl
    rw[e2]
    (conv=>whnf)
    refine V.st ?_
    exact V.wk
   have hst:flat ns (mkF vals sm ns w) m++(List.range k).map (mkV vals sm ns w m)++[mkV vals sm ns w m k]=flat ns (mkF vals sm ns w) m++(List.range (k+1)).map (mkV vals sm ns w m):=by
    rw[List.range_succ];simp
   have hst2:(flat ns (mkF vals sm ns w) m++(List.range k).map (mkV vals sm ns w m)).length+1=(flat ns (mkF vals sm ns w) m++(List.range (k+1)).map (mkV vals sm ns w m)).length:=by rw[← hst];simp;omega
   (conv=>whnf)
   refine V.st ?_
   try refine And.intro (fun _=>⟨rfl,by simp;omega⟩) ?_
   refine V.r0 (V.a8 @jiX @jjO @List.take_succ_cons.{0} @List.take_zero.{0} @jjG @List.length_nil.{0} hst hst2) ?_
   exact⟨k+1,by omega,by omega,V.wk⟩
  ·rw[decide_eq_false_iff_not] at hq2
   have hkw:k=w:=by omega
   subst hkw
   have hfs:flat ns (mkF vals sm ns k) m++(List.range k).map (mkV vals sm ns k m)=flat ns (mkF vals sm ns k) (m+1):=(jdI _ _ _).symm
   rw[hfs]
   (conv=>whnf)
   refine V.st ?_
   exact⟨m+1,by omega,by omega,V.wk⟩
 ·rw[decide_eq_false_iff_not] at hq
  have hm1:m=PR ns:=by omega
  subst hm1
  (conv=>whnf)
  refine V.st ?_
  rw[jjI (ji1 _)]
  exact Fin.of rfl
def nsD (ds:List Int):List Nat:=if ds=[] then [2] else (ds.take 3).map fun x=>(2+x%3).toNat
def wD (o:Int):Nat:=(1+o%3).toNat
def draftD (ds:List Int)(o:Int)(vals:List Int)(sm:Bool):D := .agg [.ints .u8 ds,.int .u8 o,.ints .u16 vals,.bool sm]
def dData (ds:List Int)(o:Int)(vals:List Int)(sm:Bool):List Int:=flat (nsD ds) (mkF vals sm (nsD ds) (wD o)) (PR (nsD ds))
theorem nsD_bd (ds:List Int):(1≤(nsD ds).length∧(nsD ds).length≤3) ∧ ∀ n∈nsD ds,2≤n∧n≤4:=by
 unfold nsD
 split
 ·simp
 ·rename_i h
  have:0<ds.length:=List.length_pos_iff.2 h
  refine⟨by simp;omega,fun n hn=>?_⟩
  obtain⟨x,_,rfl⟩:=List.mem_map.1 hn
  omega
theorem wD_bd (o:Int):1≤wD o∧wD o≤3:=by unfold wD;omega
theorem nz_nsD {ds:List Int}(h:ds≠[]):(ds.take 3).map (fun x=>2+x%3)=nz (nsD ds):=by
 unfold nsD nz
 rw[if_neg h,List.map_map]
 refine List.map_congr_left fun x _=>?_
 simp
 omega
theorem draft_c (ds:List Int)(o:Int)(vals:List Int)(sm:Bool)(hd:∀ v∈ds,0≤v∧v≤255)(hdl:ds.length≤281474976710656)(ho:0≤o∧o≤255)(hv:∀ v∈vals,0≤v∧v≤65535)(hvl:vals.length≤281474976710656) :
  Cl 7 [draftD ds o vals sm] (gridD (nz (nsD ds)) (wD o) (dData ds o vals sm)):=by
 have hb:=nsD_bd ds
 have hwb:=wD_bd o
 have hmade:=made_c ds o vals sm (nsD ds) (wD o) hv hvl (by omega) (fun n hn=>by have:=hb.2 n hn;omega) (by omega)
 have hwD:1+o%3=(wD o:Int):=by unfold wD;omega
 refine V.en tbOk Tryz.func7 ?_
 refine V.r0 @jiX ?_
 refine Lp.ghostSlot 26 3 .i64 (by decide) ?_
 (conv=>whnf)
 refine jad (0) (fun k=>k≤ds.length∧k≤3) (fun k=>3-k) (fun k=>[(4,.int .i64 k),(3,.osl 26 0 ((ds.take k).map fun x=>2+x%3).length)]) (fun k=>[(26,.arr .i64 ((ds.take k).map fun x=>2+x%3))]) ?_ ?_ ?_
 ·exact V.wk
 ·omega
 intro k hk
 (conv=>whnf)
 refine V.st ?_
 refine V.br (fun hq=>?_) (fun hq=>?_)
 ·simp only[jiR,decide_eq_true_eq] at hq
  obtain⟨x,hx,ex⟩:=getxn (xs:=ds) (k:=k) (by omega)
  have hxb:=hd x (jjw hx)
  have hst:(ds.take k).map (fun x=>2+x%3)++[2+x%3]=(ds.take (k+1)).map fun x=>2+x%3:=by
   rw[jjS,hx];simp
  have hst2:((ds.take k).map fun x=>2+x%3).length+1=((ds.take (k+1)).map fun x=>2+x%3).length:=by rw[← hst];simp
  have hml:((ds.take k).map fun x=>2+x%3).length≤3:=by simp;omega
  refine V.r0 (V.a2 @ji0 ex) ?_
  try refine And.intro (fun _=>⟨trivial,by simp;omega⟩) ?_
  refine V.r0 (V.a8 @jiX @jjO @List.take_succ_cons.{0} @List.take_zero.{0} @jjG @List.length_nil.{0} hst hst2) ?_
  exact⟨k+1,by omega,by omega,V.wk⟩
 ·have hq2:¬ ((k:Int)<ds.length∧(k:Int)<3):=by
   intro h
   rw[decide_eq_true h.1,decide_eq_true h.2] at hq
   cases hq
  have htk:ds.take k=ds.take 3:=by
   rcases ji8 k 3 with h|h
   ·rw[jjI (by omega),jjI (by omega)]
   ·congr 1;omega
  have hml:((ds.take 3).map fun x=>2+x%3).length≤3:=by simp;omega
  rw[htk]
  (conv=>whnf)
  refine V.st ?_
  by_cases hds:ds=[]
  ·subst hds
   have hnd:nsD []=[2]:=rfl
   refine V.br (fun hq3=>?_) (fun hq3=>?_)
   ·refine V.r1 (V.a5 hwD @List.take_succ_cons.{0} @List.take_zero.{0} @jiX @jjO) hmade ?_
    exact Fin.of rfl
   ·simp at hq3
  ·have hnd:=nz_nsD hds
   have hlp:0<ds.length:=List.length_pos_iff.2 hds
   refine V.br (fun hq3=>?_) (fun hq3=>?_)
   ·simp at hq3
    exact absurd hq3 hds
   ·rw[hnd] at hml ⊢
    refine V.r1 (V.a2 hwD @jjT) hmade ?_
    exact Fin.of rfl
theorem jhT {ns:List Nat}{f:Nat→List Int}{w m:Nat}(h:∀ j,(f j).length=w):(flat ns f m).length=m*w:=by
 induction m with
 | zero=>simp[flat]
 | succ m ih=>rw[jdI,jjx,ih,h,Nat.add_mul,Nat.one_mul]
theorem mem_flat {ns:List Nat}{f:Nat→List Int}{m:Nat}{x:Int}(h:x∈flat ns f m):∃ j,j<m∧x∈f j:=by
 unfold flat at h
 rw[List.mem_flatMap] at h
 obtain⟨j,h1,h2⟩:=h
 exact⟨j,List.mem_range.1 h1,h2⟩
theorem draft_ok (ds:List Int)(o:Int)(vals:List Int)(sm:Bool)(hv:∀ v∈vals,0≤v∧v≤65535):jak (nz (nsD ds)) (wD o) (dData ds o vals sm)=true:=by
 have hb:=nsD_bd ds
 have hwb:=wD_bd o
 have hl:(dData ds o vals sm).length=PR (nsD ds)*wD o:=jhT fun j=>by simp[mkF]
 have hP:PR (nsD ds)≤64:=by
  have hbb:∀ l:List Nat,(∀ n∈l,2≤n∧n≤4)→PR l≤4^l.length:=by
   intro l
   induction l with
   | nil=>intro _;decide
   | cons x l ih=>
    intro hl
    have h3:=ih fun n hn=>hl n (by simp[hn])
    have h4:=hl x (by simp)
    rw[PR,jjG,Nat.pow_succ,ji4]
    exact Nat.mul_le_mul h3 h4.2
  exact ji2 (hbb _ hb.2) (jjg (by omega) hb.1.2)
 have hl2:PR (nsD ds)*wD o≤64*3:=Nat.mul_le_mul hP hwb.2
 unfold jak
 have e1:(nz (nsD ds)).length=(nsD ds).length:=by simp[nz]
 have e2:(nz (nsD ds)).all (fun n=>decide (2≤n∧n≤9))=true:=by
  rw[jjq]
  intro x hx
  obtain⟨n,hn,rfl⟩:=List.mem_map.1 hx
  have:=hb.2 n hn
  simp;omega
 have e3:(dData ds o vals sm).all (fun v=>decide (0≤v∧v≤65535))=true:=by
  rw[jjq]
  intro x hx
  obtain⟨j,_,hj⟩:=mem_flat hx
  unfold mkF at hj
  obtain⟨k,_,rfl⟩:=List.mem_map.1 hj
  have:=mkV_bd (sm:=sm) (w:=wD o) (m:=j) (k:=k) hv hb.1.1 (fun n hn=>by have:=hb.2 n hn;omega)
  simpa using this
 rw[e2,e3,jeP]
 simp only[Bool.and_true,jiR,decide_eq_true_eq]
 refine⟨⟨by omega,by omega⟩,by omega,?_⟩
 rw[hl];simp
end Go.Proofs.YtbnghipgicmpdaaGreatDoor
end
section
namespace Go.Proofs.YtbnghipgicmpdaaGreatDoor
open Go Go.V Go.Nb
def bentZ (k:Int)(zs:List Int):List Int:=if k%6=1 then 2::zs else zs
def bentO (k out:Int):Int:=if k%6=0 then 0 else out
theorem jiN:type_of% @ji0∧type_of% @jiX:=⟨@ji0,@jiX⟩
theorem bent_c (zs data:List Int)(out k:Int)(hk:0≤k∧k≤255)(hz:zs.length≤100):Cl 8 [.agg [.ints .i64 zs,.int .i64 out,.ints .i64 data],.int .u8 k] (.agg [.ints .i64 (bentZ k zs),.int .i64 (bentO k out),.ints .i64 data]):=by
 have hm:k.tmod 6=k%6:=Int.tmod_eq_emod_of_nonneg hk.1
 unfold bentZ bentO
 by_cases h0:k%6=0
 ·have e0:decide (k%6=0)=true:=decide_eq_true h0
  rw[if_neg (by omega),if_pos h0]
  refine V.en tbOk Tryz.func8 ?_
  refine V.r0 (V.a3 jiN hm e0) ?_
  exact Fin.of rfl
 ·have e0:decide (k%6=0)=false:=decide_eq_false h0
  by_cases h1:k%6=1
  ·have e1:decide (k%6=1)=true:=decide_eq_true h1
   rw[if_pos h1,if_neg h0]
   refine V.en tbOk Tryz.func8 ?_
   (conv=>whnf)
   (conv=>whnf)
   (try simp only[jiN,hm,e0,e1])
   repeat ((first|refine V.s1 ?_);(try simp only[jiN,hm,e0,e1]))
   have ht:List.take (1+zs.length) (2::zs)=2::zs:=jjI (by rw[jjG];omega)
   exact Fin.of (by simp[ht])
  ·have e1:decide (k%6=1)=false:=decide_eq_false h1
   rw[if_neg h1,if_neg h0]
   refine V.en tbOk Tryz.func8 ?_
   (conv=>whnf)
   (conv=>whnf)
   (try simp only[jiN,hm,e0,e1])
   repeat ((first|refine V.s1 ?_);(try simp only[jiN,hm,e0,e1]))
   exact Fin.of rfl
theorem jgU (a:Int)(zs:List Int):prod (a::zs)=a*prod zs:=by
 have h:∀ (l:List Int) (b:Int),l.foldl (· * ·) b=b*l.foldl (· * ·) 1:=fun l=>by
  induction l with
  | nil=>intro b;simp
  | cons x l ih=>intro b;simp only[List.foldl_cons];rw[ih (b*x),ih (1*x)];grind
 show List.foldl (· * ·) (1*a) zs=_
 rw[h,jjm]
 rfl
theorem bent_bad {zs data:List Int}{out k:Int}(hg:jak zs out data=true):(bentZ k zs=zs∧bentO k out=out)∨jak (bentZ k zs) (bentO k out) data=false:=by
 unfold bentZ bentO
 by_cases h1:k%6=1
 ·refine .inr ?_
  rw[if_pos h1,if_neg (by omega)]
  cases e:jak (2::zs) out data with
  | false=>rfl
  | true=>
   have a:=jav hg
   have b:=jav e
   have p:=b.2.2.1.2
   rw[jgU,jjd,← a.2.2.1.2] at p
   have q:=a.2.2.1.2
   have l0:0<prod zs*out:=by
    have pp:∀ l:List Int,(∀ z∈l,2≤z∧z≤9)→0<prod l:=fun l=>by
     induction l with
     | nil=>intro _;decide
     | cons x l ih=>intro h;rw[jgU];exact Int.mul_pos (by have:=h x (by simp);omega) (ih fun z hz=>h z (by simp[hz]))
    exact Int.mul_pos (pp zs a.2.1) (by omega)
   omega
 ·rw[if_neg h1]
  by_cases h0:k%6=0
  ·refine .inr ?_
   rw[if_pos h0]
   cases e:jak zs 0 data with
   | false=>rfl
   | true=>have b:=jav e;omega
  ·rw[if_neg h0]
   exact .inl ⟨rfl,rfl⟩
theorem jbB (v:Int):0≤IntKind.wrap .u16 v∧IntKind.wrap .u16 v≤65535:=by
 have h:InR .u16 (IntKind.wrap .u16 v):=jbK _ _
 exact h
def clcW:Nat→List D
 | 0=>[.nil,.nil,.nil]
 | k+1=>[.bsl 21 0 (k+1) 2,.bsl 31 0 (k+1) 2,.bsl 44 0 (k+1) 2]
def clcH (A X C:Nat→Tx):Nat→Hp
 | 0=>[]
 | k+1=>[(21,.box (wce A (k+1))),(31,.box (wce X (k+1))),(44,.box (wce C (k+1)))]
theorem jh9:type_of% @jiX∧type_of% @tn0∧type_of% @tn1∧type_of% @tn2∧type_of% @tn3∧type_of% @xt4:=⟨@jiX,@tn0,@tn1,@tn2,@tn3,@xt4⟩
theorem color1_t (a z1 z2:Nat→Int)(b1 b2:Nat→Bool)(p1 p2:Nat→List Int)(A X:Nat→Tx)(C:Int→Tx)(ca:∀ i,i<4→Cl 30 [.int .i64 (a i),.int .i64 840] (.agg [.str (A i).1,.str (A i).2]))(cx:∀ i,i<4→Cl 33 [.agg [.bool (b1 i),.ints .u16 (p1 i),.int .u16 (z1 i),.bool (b2 i),.ints .u16 (p2 i),.int .u16 (z2 i)]] (.agg [.str (X i).1,.str (X i).2]))(cc:∀ v:Int,Cl 30 [.int .i64 (v%841),.int .i64 840] (.agg [.str (C v).1,.str (C v).2])) :
  Cl 9 [(colD a z1 z2 b1 b2 p1 p2),.int .i64 1] (.agg [slQ A 1,slQ X 1,slQ (fun i=>C (IntKind.wrap .u16 (a i))) 1]):=by
 refine V.en tbOk Tryz.func9 ?_
 refine V.r0 jh9 ?_
 refine jad 0 (fun k=>k≤1) (fun k=>1-k) (fun k=>[(9,.int .i64 k)]) (fun k=>(5,.box (clcW k))::clcH A X (fun i=>C (IntKind.wrap .u16 (a i))) k) ?_ ?_ ?_
 ·exact V.wk
 ·exact jiT _
 intro k hk
 have hk4:k=0∨k=1:=by omega
 rcases hk4 with e|e
 all_goals subst e
 ·simp only[k0,clcW,clcH]
  have c1:=ca 0 (by omega)
  have c2:=cx 0 (by omega)
  have hw:=jbB (a 0)
  refine V.r0 jh9 ?_
  refine⟨Pq30z,[],V.pok,?_⟩
  refine jab [(21,.bsl 21 0 1 2)] [(5,.box [.bsl 21 0 1 2,.nil,.nil]),(21,.box (wce A 1))] ?_ ?_
  ·exact V.d1 jh9 c1
  refine V.r0 jh9 ?_
  refine⟨Pq38z,[],V.pok,?_⟩
  refine jab [(31,.bsl 31 0 1 2)] [(5,.box [.bsl 21 0 1 2,.bsl 31 0 1 2,.nil]),(31,.box (wce X 1))] ?_ ?_
  ·exact V.d1 jh9 c2
  refine V.r0 jh9 ?_
  refine⟨Pq21z,[],V.pok,?_⟩
  refine jab [(44,.bsl 44 0 1 2)] [(5,.box [.bsl 21 0 1 2,.bsl 31 0 1 2,.bsl 44 0 1 2]),(44,.box (wce (fun i=>C (IntKind.wrap .u16 (a i))) 1))] ?_ ?_
  ·(conv=>whnf);(try simp only[jh9])
   repeat' (first|exact V.wk|((with_reducible refine And.intro ?_ jaq);(conv=>whnf);(try simp only[jh9]))|((with_reducible first|refine jam ?_ ?_|refine jao ?_ ?_)<;>(conv=>whnf);(try simp only[jh9]))|((first|refine V.s1 ?_|((with_reducible refine jaf ?_ ?_);(focus ((conv=>whnf);(try simp only[jh9]);(repeat ((first|refine V.s1 ?_|((refine Or.inr ?_);(conv=>whnf)));(try simp only[jh9])));exact⟨rfl⟩));(conv=>whnf))|((try ((with_reducible refine .ext ?_);(conv=>whnf);(try simp only[jh9])));(with_reducible refine jaa (r:=?_) ?_ ?_);rotate_left;(focus (first|exact(cc _)));(conv=>whnf))|((refine Or.inr ?_);(conv=>whnf)));(try simp only[jh9]))|(refine And.intro ?_ ?_<;>(conv=>whnf);(try simp only[jh9])))
  refine V.r0 jh9 ?_
  exact⟨1,by omega,by omega,V.wk⟩
 ·simp only[k1,clcW,clcH]
  refine V.r0 @jiX ?_
  exact Fin.of rfl
theorem color2_t (a z1 z2:Nat→Int)(b1 b2:Nat→Bool)(p1 p2:Nat→List Int)(A X:Nat→Tx)(C:Int→Tx)(ca:∀ i,i<4→Cl 30 [.int .i64 (a i),.int .i64 840] (.agg [.str (A i).1,.str (A i).2]))(cx:∀ i,i<4→Cl 33 [.agg [.bool (b1 i),.ints .u16 (p1 i),.int .u16 (z1 i),.bool (b2 i),.ints .u16 (p2 i),.int .u16 (z2 i)]] (.agg [.str (X i).1,.str (X i).2]))(cc:∀ v:Int,Cl 30 [.int .i64 (v%841),.int .i64 840] (.agg [.str (C v).1,.str (C v).2])) :
  Cl 9 [(colD a z1 z2 b1 b2 p1 p2),.int .i64 2] (.agg [slQ A 2,slQ X 2,slQ (fun i=>C (IntKind.wrap .u16 (a i))) 2]):=by
 refine V.en tbOk Tryz.func9 ?_
 refine V.r0 jh9 ?_
 refine jad 0 (fun k=>k≤2) (fun k=>2-k) (fun k=>[(9,.int .i64 k)]) (fun k=>(5,.box (clcW k))::clcH A X (fun i=>C (IntKind.wrap .u16 (a i))) k) ?_ ?_ ?_
 ·exact V.wk
 ·exact jiT _
 intro k hk
 have hk4:k=0∨k=1∨k=2:=by omega
 rcases hk4 with e|e|e
 all_goals subst e
 ·simp only[k0,clcW,clcH]
  have c1:=ca 0 (by omega)
  have c2:=cx 0 (by omega)
  have hw:=jbB (a 0)
  refine V.r0 jh9 ?_
  refine⟨Pq30z,[],V.pok,?_⟩
  refine jab [(21,.bsl 21 0 1 2)] [(5,.box [.bsl 21 0 1 2,.nil,.nil]),(21,.box (wce A 1))] ?_ ?_
  ·exact V.d1 jh9 c1
  refine V.r0 jh9 ?_
  refine⟨Pq38z,[],V.pok,?_⟩
  refine jab [(31,.bsl 31 0 1 2)] [(5,.box [.bsl 21 0 1 2,.bsl 31 0 1 2,.nil]),(31,.box (wce X 1))] ?_ ?_
  ·exact V.d1 jh9 c2
  refine V.r0 jh9 ?_
  refine⟨Pq21z,[],V.pok,?_⟩
  refine jab [(44,.bsl 44 0 1 2)] [(5,.box [.bsl 21 0 1 2,.bsl 31 0 1 2,.bsl 44 0 1 2]),(44,.box (wce (fun i=>C (IntKind.wrap .u16 (a i))) 1))] ?_ ?_
  ·(conv=>whnf);(try simp only[jh9])
   repeat' (first|exact V.wk|((with_reducible refine And.intro ?_ jaq);(conv=>whnf);(try simp only[jh9]))|((with_reducible first|refine jam ?_ ?_|refine jao ?_ ?_)<;>(conv=>whnf);(try simp only[jh9]))|((first|refine V.s1 ?_|((with_reducible refine jaf ?_ ?_);(focus ((conv=>whnf);(try simp only[jh9]);(repeat ((first|refine V.s1 ?_|((refine Or.inr ?_);(conv=>whnf)));(try simp only[jh9])));exact⟨rfl⟩));(conv=>whnf))|((try ((with_reducible refine .ext ?_);(conv=>whnf);(try simp only[jh9])));(with_reducible refine jaa (r:=?_) ?_ ?_);rotate_left;(focus (first|exact(cc _)));(conv=>whnf))|((refine Or.inr ?_);(conv=>whnf)));(try simp only[jh9]))|(refine And.intro ?_ ?_<;>(conv=>whnf);(try simp only[jh9])))
  refine V.r0 jh9 ?_
  exact⟨1,by omega,by omega,V.wk⟩
 ·simp only[k1,clcW,clcH]
  have c1:=ca 1 (by omega)
  have c2:=cx 1 (by omega)
  have hw:=jbB (a 1)
  refine V.r0 jh9 ?_
  refine⟨Pq30z,[],V.pok,?_⟩
  refine jab [(21,.bsl 21 0 2 2)] [(5,.box [.bsl 21 0 2 2,.bsl 31 0 1 2,.bsl 44 0 1 2]),(21,.box (wce A 2))] ?_ ?_
  ·exact V.d1 jh9 c1
  refine V.r0 jh9 ?_
  refine⟨Pq38z,[],V.pok,?_⟩
  refine jab [(31,.bsl 31 0 2 2)] [(5,.box [.bsl 21 0 2 2,.bsl 31 0 2 2,.bsl 44 0 1 2]),(31,.box (wce X 2))] ?_ ?_
  ·exact V.d1 jh9 c2
  refine V.r0 jh9 ?_
  refine⟨Pq21z,[],V.pok,?_⟩
  refine jab [(44,.bsl 44 0 2 2)] [(5,.box [.bsl 21 0 2 2,.bsl 31 0 2 2,.bsl 44 0 2 2]),(44,.box (wce (fun i=>C (IntKind.wrap .u16 (a i))) 2))] ?_ ?_
  ·(conv=>whnf);(try simp only[jh9])
   repeat' (first|exact V.wk|((with_reducible refine And.intro ?_ jaq);(conv=>whnf);(try simp only[jh9]))|((with_reducible first|refine jam ?_ ?_|refine jao ?_ ?_)<;>(conv=>whnf);(try simp only[jh9]))|((first|refine V.s1 ?_|((with_reducible refine jaf ?_ ?_);(focus ((conv=>whnf);(try simp only[jh9]);(repeat ((first|refine V.s1 ?_|((refine Or.inr ?_);(conv=>whnf)));(try simp only[jh9])));exact⟨rfl⟩));(conv=>whnf))|((try ((with_reducible refine .ext ?_);(conv=>whnf);(try simp only[jh9])));(with_reducible refine jaa (r:=?_) ?_ ?_);rotate_left;(focus (first|exact(cc _)));(conv=>whnf))|((refine Or.inr ?_);(conv=>whnf)));(try simp only[jh9]))|(refine And.intro ?_ ?_<;>(conv=>whnf);(try simp only[jh9])))
  refine V.r0 jh9 ?_
  exact⟨2,by omega,by omega,V.wk⟩
 ·simp only[k2,clcW,clcH]
  refine V.r0 @jiX ?_
  exact Fin.of rfl
theorem color3_t (a z1 z2:Nat→Int)(b1 b2:Nat→Bool)(p1 p2:Nat→List Int)(A X:Nat→Tx)(C:Int→Tx)(ca:∀ i,i<4→Cl 30 [.int .i64 (a i),.int .i64 840] (.agg [.str (A i).1,.str (A i).2]))(cx:∀ i,i<4→Cl 33 [.agg [.bool (b1 i),.ints .u16 (p1 i),.int .u16 (z1 i),.bool (b2 i),.ints .u16 (p2 i),.int .u16 (z2 i)]] (.agg [.str (X i).1,.str (X i).2]))(cc:∀ v:Int,Cl 30 [.int .i64 (v%841),.int .i64 840] (.agg [.str (C v).1,.str (C v).2])) :
  Cl 9 [(colD a z1 z2 b1 b2 p1 p2),.int .i64 3] (.agg [slQ A 3,slQ X 3,slQ (fun i=>C (IntKind.wrap .u16 (a i))) 3]):=by
 refine V.en tbOk Tryz.func9 ?_
 refine V.r0 jh9 ?_
 refine jad 0 (fun k=>k≤3) (fun k=>3-k) (fun k=>[(9,.int .i64 k)]) (fun k=>(5,.box (clcW k))::clcH A X (fun i=>C (IntKind.wrap .u16 (a i))) k) ?_ ?_ ?_
 ·exact V.wk
 ·exact jiT _
 intro k hk
 have hk4:k=0∨k=1∨k=2∨k=3:=by omega
 rcases hk4 with e|e|e|e
 all_goals subst e
 ·simp only[k0,clcW,clcH]
  have c1:=ca 0 (by omega)
  have c2:=cx 0 (by omega)
  have hw:=jbB (a 0)
  refine V.r0 jh9 ?_
  refine⟨Pq30z,[],V.pok,?_⟩
  refine jab [(21,.bsl 21 0 1 2)] [(5,.box [.bsl 21 0 1 2,.nil,.nil]),(21,.box (wce A 1))] ?_ ?_
  ·exact V.d1 jh9 c1
  refine V.r0 jh9 ?_
  refine⟨Pq38z,[],V.pok,?_⟩
  refine jab [(31,.bsl 31 0 1 2)] [(5,.box [.bsl 21 0 1 2,.bsl 31 0 1 2,.nil]),(31,.box (wce X 1))] ?_ ?_
  ·exact V.d1 jh9 c2
  refine V.r0 jh9 ?_
  refine⟨Pq21z,[],V.pok,?_⟩
  refine jab [(44,.bsl 44 0 1 2)] [(5,.box [.bsl 21 0 1 2,.bsl 31 0 1 2,.bsl 44 0 1 2]),(44,.box (wce (fun i=>C (IntKind.wrap .u16 (a i))) 1))] ?_ ?_
  ·(conv=>whnf);(try simp only[jh9])
   repeat' (first|exact V.wk|((with_reducible refine And.intro ?_ jaq);(conv=>whnf);(try simp only[jh9]))|((with_reducible first|refine jam ?_ ?_|refine jao ?_ ?_)<;>(conv=>whnf);(try simp only[jh9]))|((first|refine V.s1 ?_|((with_reducible refine jaf ?_ ?_);(focus ((conv=>whnf);(try simp only[jh9]);(repeat ((first|refine V.s1 ?_|((refine Or.inr ?_);(conv=>whnf)));(try simp only[jh9])));exact⟨rfl⟩));(conv=>whnf))|((try ((with_reducible refine .ext ?_);(conv=>whnf);(try simp only[jh9])));(with_reducible refine jaa (r:=?_) ?_ ?_);rotate_left;(focus (first|exact(cc _)));(conv=>whnf))|((refine Or.inr ?_);(conv=>whnf)));(try simp only[jh9]))|(refine And.intro ?_ ?_<;>(conv=>whnf);(try simp only[jh9])))
  refine V.r0 jh9 ?_
  exact⟨1,by omega,by omega,V.wk⟩
 ·simp only[k1,clcW,clcH]
  have c1:=ca 1 (by omega)
  have c2:=cx 1 (by omega)
  have hw:=jbB (a 1)
  refine V.r0 jh9 ?_
  refine⟨Pq30z,[],V.pok,?_⟩
  refine jab [(21,.bsl 21 0 2 2)] [(5,.box [.bsl 21 0 2 2,.bsl 31 0 1 2,.bsl 44 0 1 2]),(21,.box (wce A 2))] ?_ ?_
  ·exact V.d1 jh9 c1
  refine V.r0 jh9 ?_
  refine⟨Pq38z,[],V.pok,?_⟩
  refine jab [(31,.bsl 31 0 2 2)] [(5,.box [.bsl 21 0 2 2,.bsl 31 0 2 2,.bsl 44 0 1 2]),(31,.box (wce X 2))] ?_ ?_
  ·exact V.d1 jh9 c2
  refine V.r0 jh9 ?_
  refine⟨Pq21z,[],V.pok,?_⟩
  refine jab [(44,.bsl 44 0 2 2)] [(5,.box [.bsl 21 0 2 2,.bsl 31 0 2 2,.bsl 44 0 2 2]),(44,.box (wce (fun i=>C (IntKind.wrap .u16 (a i))) 2))] ?_ ?_
  ·(conv=>whnf);(try simp only[jh9])
   repeat' (first|exact V.wk|((with_reducible refine And.intro ?_ jaq);(conv=>whnf);(try simp only[jh9]))|((with_reducible first|refine jam ?_ ?_|refine jao ?_ ?_)<;>(conv=>whnf);(try simp only[jh9]))|((first|refine V.s1 ?_|((with_reducible refine jaf ?_ ?_);(focus ((conv=>whnf);(try simp only[jh9]);(repeat ((first|refine V.s1 ?_|((refine Or.inr ?_);(conv=>whnf)));(try simp only[jh9])));exact⟨rfl⟩));(conv=>whnf))|((try ((with_reducible refine .ext ?_);(conv=>whnf);(try simp only[jh9])));(with_reducible refine jaa (r:=?_) ?_ ?_);rotate_left;(focus (first|exact(cc _)));(conv=>whnf))|((refine Or.inr ?_);(conv=>whnf)));(try simp only[jh9]))|(refine And.intro ?_ ?_<;>(conv=>whnf);(try simp only[jh9])))
  refine V.r0 jh9 ?_
  exact⟨2,by omega,by omega,V.wk⟩
 ·simp only[k2,clcW,clcH]
  have c1:=ca 2 (by omega)
  have c2:=cx 2 (by omega)
  have hw:=jbB (a 2)
  refine V.r0 jh9 ?_
  refine⟨Pq30z,[],V.pok,?_⟩
  refine jab [(21,.bsl 21 0 3 2)] [(5,.box [.bsl 21 0 3 2,.bsl 31 0 2 2,.bsl 44 0 2 2]),(21,.box (wce A 3))] ?_ ?_
  ·exact V.d1 jh9 c1
  refine V.r0 jh9 ?_
  refine⟨Pq38z,[],V.pok,?_⟩
  refine jab [(31,.bsl 31 0 3 2)] [(5,.box [.bsl 21 0 3 2,.bsl 31 0 3 2,.bsl 44 0 2 2]),(31,.box (wce X 3))] ?_ ?_
  ·exact V.d1 jh9 c2
  refine V.r0 jh9 ?_
  refine⟨Pq21z,[],V.pok,?_⟩
  refine jab [(44,.bsl 44 0 3 2)] [(5,.box [.bsl 21 0 3 2,.bsl 31 0 3 2,.bsl 44 0 3 2]),(44,.box (wce (fun i=>C (IntKind.wrap .u16 (a i))) 3))] ?_ ?_
  ·(conv=>whnf);(try simp only[jh9])
   repeat' (first|exact V.wk|((with_reducible refine And.intro ?_ jaq);(conv=>whnf);(try simp only[jh9]))|((with_reducible first|refine jam ?_ ?_|refine jao ?_ ?_)<;>(conv=>whnf);(try simp only[jh9]))|((first|refine V.s1 ?_|((with_reducible refine jaf ?_ ?_);(focus ((conv=>whnf);(try simp only[jh9]);(repeat ((first|refine V.s1 ?_|((refine Or.inr ?_);(conv=>whnf)));(try simp only[jh9])));exact⟨rfl⟩));(conv=>whnf))|((try ((with_reducible refine .ext ?_);(conv=>whnf);(try simp only[jh9])));(with_reducible refine jaa (r:=?_) ?_ ?_);rotate_left;(focus (first|exact(cc _)));(conv=>whnf))|((refine Or.inr ?_);(conv=>whnf)));(try simp only[jh9]))|(refine And.intro ?_ ?_<;>(conv=>whnf);(try simp only[jh9])))
  refine V.r0 jh9 ?_
  exact⟨3,by omega,by omega,V.wk⟩
 ·simp only[k3,clcW,clcH]
  refine V.r0 @jiX ?_
  exact Fin.of rfl
theorem jia:type_of% @jiX∧type_of% @tn0∧type_of% @tn1∧type_of% @tn2∧type_of% @tn3∧type_of% @xt4:=⟨@jiX,@tn0,@tn1,@tn2,@tn3,@xt4⟩
theorem color4_t (a z1 z2:Nat→Int)(b1 b2:Nat→Bool)(p1 p2:Nat→List Int)(A X:Nat→Tx)(C:Int→Tx)(ca:∀ i,i<4→Cl 30 [.int .i64 (a i),.int .i64 840] (.agg [.str (A i).1,.str (A i).2]))(cx:∀ i,i<4→Cl 33 [.agg [.bool (b1 i),.ints .u16 (p1 i),.int .u16 (z1 i),.bool (b2 i),.ints .u16 (p2 i),.int .u16 (z2 i)]] (.agg [.str (X i).1,.str (X i).2]))(cc:∀ v:Int,Cl 30 [.int .i64 (v%841),.int .i64 840] (.agg [.str (C v).1,.str (C v).2])) :
  Cl 9 [(colD a z1 z2 b1 b2 p1 p2),.int .i64 4] (.agg [slQ A 4,slQ X 4,slQ (fun i=>C (IntKind.wrap .u16 (a i))) 4]):=by
 refine V.en tbOk Tryz.func9 ?_
 refine V.r0 jia ?_
 refine jad 0 (fun k=>k≤4) (fun k=>4-k) (fun k=>[(9,.int .i64 k)]) (fun k=>(5,.box (clcW k))::clcH A X (fun i=>C (IntKind.wrap .u16 (a i))) k) ?_ ?_ ?_
 ·exact V.wk
 ·exact jiT _
 intro k hk
 have hk4:k=0∨k=1∨k=2∨k=3∨k=4:=by omega
 rcases hk4 with e|e|e|e|e
 all_goals subst e
 ·simp only[k0,clcW,clcH]
  have c1:=ca 0 (by omega)
  have c2:=cx 0 (by omega)
  have hw:=jbB (a 0)
  refine V.r0 jia ?_
  refine⟨Pq30z,[],V.pok,?_⟩
  refine jab [(21,.bsl 21 0 1 2)] [(5,.box [.bsl 21 0 1 2,.nil,.nil]),(21,.box (wce A 1))] ?_ ?_
  ·exact V.d1 jia c1
  refine V.r0 jia ?_
  refine⟨Pq38z,[],V.pok,?_⟩
  refine jab [(31,.bsl 31 0 1 2)] [(5,.box [.bsl 21 0 1 2,.bsl 31 0 1 2,.nil]),(31,.box (wce X 1))] ?_ ?_
  ·exact V.d1 jia c2
  refine V.r0 jia ?_
  refine⟨Pq21z,[],V.pok,?_⟩
  refine jab [(44,.bsl 44 0 1 2)] [(5,.box [.bsl 21 0 1 2,.bsl 31 0 1 2,.bsl 44 0 1 2]),(44,.box (wce (fun i=>C (IntKind.wrap .u16 (a i))) 1))] ?_ ?_
  ·(conv=>whnf);(try simp only[jia])
   repeat' (first|exact V.wk|((with_reducible refine And.intro ?_ jaq);(conv=>whnf);(try simp only[jia]))|((with_reducible first|refine jam ?_ ?_|refine jao ?_ ?_)<;>(conv=>whnf);(try simp only[jia]))|((first|refine V.s1 ?_|((with_reducible refine jaf ?_ ?_);(focus ((conv=>whnf);(try simp only[jia]);(repeat ((first|refine V.s1 ?_|((refine Or.inr ?_);(conv=>whnf)));(try simp only[jia])));exact⟨rfl⟩));(conv=>whnf))|((try ((with_reducible refine .ext ?_);(conv=>whnf);(try simp only[jia])));(with_reducible refine jaa (r:=?_) ?_ ?_);rotate_left;(focus (first|exact(cc _)));(conv=>whnf))|((refine Or.inr ?_);(conv=>whnf)));(try simp only[jia]))|(refine And.intro ?_ ?_<;>(conv=>whnf);(try simp only[jia])))
  refine V.r0 jia ?_
  exact⟨1,by omega,by omega,V.wk⟩
 ·simp only[k1,clcW,clcH]
  have c1:=ca 1 (by omega)
  have c2:=cx 1 (by omega)
  have hw:=jbB (a 1)
  refine V.r0 jia ?_
  refine⟨Pq30z,[],V.pok,?_⟩
  refine jab [(21,.bsl 21 0 2 2)] [(5,.box [.bsl 21 0 2 2,.bsl 31 0 1 2,.bsl 44 0 1 2]),(21,.box (wce A 2))] ?_ ?_
  ·exact V.d1 jia c1
  refine V.r0 jia ?_
  refine⟨Pq38z,[],V.pok,?_⟩
  refine jab [(31,.bsl 31 0 2 2)] [(5,.box [.bsl 21 0 2 2,.bsl 31 0 2 2,.bsl 44 0 1 2]),(31,.box (wce X 2))] ?_ ?_
  ·exact V.d1 jia c2
  refine V.r0 jia ?_
  refine⟨Pq21z,[],V.pok,?_⟩
  refine jab [(44,.bsl 44 0 2 2)] [(5,.box [.bsl 21 0 2 2,.bsl 31 0 2 2,.bsl 44 0 2 2]),(44,.box (wce (fun i=>C (IntKind.wrap .u16 (a i))) 2))] ?_ ?_
  ·(conv=>whnf);(try simp only[jia])
   repeat' (first|exact V.wk|((with_reducible refine And.intro ?_ jaq);(conv=>whnf);(try simp only[jia]))|((with_reducible first|refine jam ?_ ?_|refine jao ?_ ?_)<;>(conv=>whnf);(try simp only[jia]))|((first|refine V.s1 ?_|((with_reducible refine jaf ?_ ?_);(focus ((conv=>whnf);(try simp only[jia]);(repeat ((first|refine V.s1 ?_|((refine Or.inr ?_);(conv=>whnf)));(try simp only[jia])));exact⟨rfl⟩));(conv=>whnf))|((try ((with_reducible refine .ext ?_);(conv=>whnf);(try simp only[jia])));(with_reducible refine jaa (r:=?_) ?_ ?_);rotate_left;(focus (first|exact(cc _)));(conv=>whnf))|((refine Or.inr ?_);(conv=>whnf)));(try simp only[jia]))|(refine And.intro ?_ ?_<;>(conv=>whnf);(try simp only[jia])))
  refine V.r0 jia ?_
  exact⟨2,by omega,by omega,V.wk⟩
 ·simp only[k2,clcW,clcH]
  have c1:=ca 2 (by omega)
  have c2:=cx 2 (by omega)
  have hw:=jbB (a 2)
  refine V.r0 jia ?_
  refine⟨Pq30z,[],V.pok,?_⟩
  refine jab [(21,.bsl 21 0 3 2)] [(5,.box [.bsl 21 0 3 2,.bsl 31 0 2 2,.bsl 44 0 2 2]),(21,.box (wce A 3))] ?_ ?_
  ·exact V.d1 jia c1
  refine V.r0 jia ?_
  refine⟨Pq38z,[],V.pok,?_⟩
  refine jab [(31,.bsl 31 0 3 2)] [(5,.box [.bsl 21 0 3 2,.bsl 31 0 3 2,.bsl 44 0 2 2]),(31,.box (wce X 3))] ?_ ?_
  ·exact V.d1 jia c2
  refine V.r0 jia ?_
  refine⟨Pq21z,[],V.pok,?_⟩
  refine jab [(44,.bsl 44 0 3 2)] [(5,.box [.bsl 21 0 3 2,.bsl 31 0 3 2,.bsl 44 0 3 2]),(44,.box (wce (fun i=>C (IntKind.wrap .u16 (a i))) 3))] ?_ ?_
  ·(conv=>whnf);(try simp only[jia])
   repeat' (first|exact V.wk|((with_reducible refine And.intro ?_ jaq);(conv=>whnf);(try simp only[jia]))|((with_reducible first|refine jam ?_ ?_|refine jao ?_ ?_)<;>(conv=>whnf);(try simp only[jia]))|((first|refine V.s1 ?_|((with_reducible refine jaf ?_ ?_);(focus ((conv=>whnf);(try simp only[jia]);(repeat ((first|refine V.s1 ?_|((refine Or.inr ?_);(conv=>whnf)));(try simp only[jia])));exact⟨rfl⟩));(conv=>whnf))|((try ((with_reducible refine .ext ?_);(conv=>whnf);(try simp only[jia])));(with_reducible refine jaa (r:=?_) ?_ ?_);rotate_left;(focus (first|exact(cc _)));(conv=>whnf))|((refine Or.inr ?_);(conv=>whnf)));(try simp only[jia]))|(refine And.intro ?_ ?_<;>(conv=>whnf);(try simp only[jia])))
  refine V.r0 jia ?_
  exact⟨3,by omega,by omega,V.wk⟩
 ·simp only[k3,clcW,clcH]
  have c1:=ca 3 (by omega)
  have c2:=cx 3 (by omega)
  have hw:=jbB (a 3)
  refine V.r0 jia ?_
  refine⟨Pq30z,[],V.pok,?_⟩
  refine jab [(21,.bsl 21 0 4 2)] [(5,.box [.bsl 21 0 4 2,.bsl 31 0 3 2,.bsl 44 0 3 2]),(21,.box (wce A 4))] ?_ ?_
  ·exact V.d1 jia c1
  refine V.r0 jia ?_
  refine⟨Pq38z,[],V.pok,?_⟩
  refine jab [(31,.bsl 31 0 4 2)] [(5,.box [.bsl 21 0 4 2,.bsl 31 0 4 2,.bsl 44 0 3 2]),(31,.box (wce X 4))] ?_ ?_
  ·exact V.d1 jia c2
  refine V.r0 jia ?_
  refine⟨Pq21z,[],V.pok,?_⟩
  refine jab [(44,.bsl 44 0 4 2)] [(5,.box [.bsl 21 0 4 2,.bsl 31 0 4 2,.bsl 44 0 4 2]),(44,.box (wce (fun i=>C (IntKind.wrap .u16 (a i))) 4))] ?_ ?_
  ·(conv=>whnf);(try simp only[jia])
   repeat' (first|exact V.wk|((with_reducible refine And.intro ?_ jaq);(conv=>whnf);(try simp only[jia]))|((with_reducible first|refine jam ?_ ?_|refine jao ?_ ?_)<;>(conv=>whnf);(try simp only[jia]))|((first|refine V.s1 ?_|((with_reducible refine jaf ?_ ?_);(focus ((conv=>whnf);(try simp only[jia]);(repeat ((first|refine V.s1 ?_|((refine Or.inr ?_);(conv=>whnf)));(try simp only[jia])));exact⟨rfl⟩));(conv=>whnf))|((try ((with_reducible refine .ext ?_);(conv=>whnf);(try simp only[jia])));(with_reducible refine jaa (r:=?_) ?_ ?_);rotate_left;(focus (first|exact(cc _)));(conv=>whnf))|((refine Or.inr ?_);(conv=>whnf)));(try simp only[jia]))|(refine And.intro ?_ ?_<;>(conv=>whnf);(try simp only[jia])))
  refine V.r0 jia ?_
  exact⟨4,by omega,by omega,V.wk⟩
 ·simp only[xk4,clcW,clcH]
  refine V.r0 @jiX ?_
  exact Fin.of rfl
theorem take_snoc {α:Type}(p:List α)(k:Nat)(d:α)(h:k<p.length):p.take (k+1)=p.take k++[p.getD k d]:=by
 rw[jjS,jjr,jju h];rfl
def tcl:List (List UInt8×List UInt8)→List D
 | []=>[]
 | q::l => .str q.1 :: .str q.2::tcl l
theorem tcl_len:∀ l,(tcl l).length=l.length*2
 | []=>rfl
 | q::l=>by simp only[tcl,jjG,tcl_len l];omega
theorem jfE:∀ (l:List (List UInt8×List UInt8)) (j:Nat),j<l.length→List.take 2 (List.drop (j*2) (tcl l))=[.str (l.getD j ([],[])).1,.str (l.getD j ([],[])).2]
 | q::l,0,_=>rfl
 | q::l,j+1,h=>by
  rw[show (j+1)*2=j*2+1+1 by omega]
  exact jfE l j (by simpa using h)
theorem jcX (l:List (List UInt8×List UInt8)):D.pureL (tcl l)=true:=by
 induction l with
 | nil=>rfl
 | cons q m ih=>simp only[tcl,D.pureL,D.pure,ih]
theorem jgJ (l:List (List UInt8×List UInt8))(i:Nat):D.freeL i (tcl l)=true:=by
 induction l with
 | nil=>rfl
 | cons q m ih=>simp only[tcl,D.freeL,D.free];exact ih
theorem tcl_pubL (l:List (List UInt8×List UInt8))(i:Nat)(c:Chunk):pubL i c (tcl l)=tcl l:=by
 induction l with
 | nil=>rfl
 | cons q m ih=>simp only[tcl,pubL,pubD,ih]
theorem jbI (l:List (List UInt8×List UInt8))(i:Nat)(c:Chunk)(K:List D→Prop):pubLK i c (tcl l) K=K (tcl l):=by rw[jbD,tcl_pubL]
theorem tcl_app (l m:List (List UInt8×List UInt8)):tcl (l++m)=tcl l++tcl m:=by
 induction l with
 | nil=>rfl
 | cons q r ih=>simp only[List.cons_append,tcl,ih]
theorem jeD (l:List (List UInt8×List UInt8)):bslOk (tcl l) 0 l.length 2=true:=by
 unfold bslOk
 rw[jcX]
 dsimp only
 rw[Nat.ble_eq,tcl_len];omega
theorem jeC (l:List (List UInt8×List UInt8))(i:Nat)(K:List D→Prop):jcu i (tcl l) K=K (tcl l):=by
 have e:∀ m:List (List UInt8×List UInt8),jcv i (tcl m)=tcl m:=fun m=>by
  induction m with
  | nil=>rfl
  | cons q m ih=>simp only[tcl,jcv,D.free,ih]
 rw[jeL,e]
theorem jf0 (p:List (List UInt8×List UInt8))(K:List D→Prop):∀ (n:Nat) (acc:List D),n≤p.length→catF 2 (fun j=>List.take 2 (List.drop (j*2) (tcl p))) n acc K=K (tcl (p.take n)++acc)
 | 0,acc,_=>rfl
 | n+1,acc,h=>by
  unfold catF
  rw[jfE p n (by omega)]
  show (match Nat.beq (acc.length+1+1) (acc.length+2) with|true=>catF 2 (fun j=>List.take 2 (List.drop (j*2) (tcl p))) n (.str (p.getD n ([],[])).1 :: .str (p.getD n ([],[])).2::acc) K|false=>False)=_
  rw[Nat.beq_refl]
  dsimp only
  rw[jf0 p K n _ (by omega),take_snoc p n ([],[]) (by omega),tcl_app]
  simp[tcl]
theorem tcl_n1 (K:D→Prop):∀ (l:List (List UInt8×List UInt8)) (k:Nat),k<l.length→nthK (tcl l) (k*2) K=K (.str (l.getD k ([],[])).1)
 | q::l,0,_=>rfl
 | q::l,k+1,h=>by
  rw[show (k+1)*2=k*2+1+1 by omega]
  exact tcl_n1 K l k (by simpa using h)
theorem tcl_n2 (K:D→Prop):∀ (l:List (List UInt8×List UInt8)) (k:Nat),k<l.length→nthK (tcl l) (k*2+1) K=K (.str (l.getD k ([],[])).2)
 | q::l,0,_=>rfl
 | q::l,k+1,h=>by
  rw[show (k+1)*2+1=k*2+1+1+1 by omega]
  exact tcl_n2 K l k (by simpa using h)
theorem tcl_s1 (s:List UInt8):∀ (K:List D→Prop) (l:List (List UInt8×List UInt8)) (k:Nat),k<l.length→jaJ (tcl l) (k*2) [.str s] K=K (tcl (l.set k (s,(l.getD k ([],[])).2)))
 | _,[],_,h=>absurd h (by simp)
 | K,u::p,0,_=>by
  show jaJ (.str u.1 :: .str u.2::tcl p) 0 [.str s] K=_
  simp only[jaJ]
  rfl
 | K,u::p,k+1,h=>by
  rw[show (k+1)*2=k*2+1+1 by omega]
  show jaJ (tcl p) (k*2) _ _=_
  rw[tcl_s1 s _ p k (by simpa using h)]
  rfl
theorem tcl_s2 (s:List UInt8):∀ (K:List D→Prop) (l:List (List UInt8×List UInt8)) (k:Nat),k<l.length→jaJ (tcl l) (k*2+1) [.str s] K=K (tcl (l.set k ((l.getD k ([],[])).1,s)))
 | _,[],_,h=>absurd h (by simp)
 | K,u::p,0,_=>by
  show jaJ (tcl p) 0 [] _=_
  cases h:tcl p<;>simp only[jaJ,List.set_cons_zero,tcl,h]<;>rfl
 | K,u::p,k+1,h=>by
  rw[show (k+1)*2+1=k*2+1+1+1 by omega]
  show jaJ (tcl p) (k*2+1) _ _=_
  rw[tcl_s2 s _ p k (by simpa using h)]
  rfl
def lst (Y:Nat→Tx):Nat→List Tx
 | 0=>[]
 | k+1=>lst Y k++[Y k]
theorem je1 (Y:Nat→Tx):∀ n,(lst Y n).length=n
 | 0=>rfl
 | n+1=>by simp only[lst,jjx,je1 Y n,jjG,List.length_nil]
theorem wce_tcl (Y:Nat→Tx):∀ n,wce Y n=tcl (lst Y n)
 | 0=>rfl
 | n+1=>by simp only[wce,lst,wce_tcl Y n,tcl_app,tcl]
theorem jgw (Y:Nat→Tx):∀ n, ∀ q∈lst Y n, ∃ j,j<n∧q=Y j
 | 0,q,h=>by cases h
 | n+1,q,h=>by
  rcases List.mem_append.1 h with h|h
  ·obtain⟨j,h1,h2⟩:=jgw Y n q h
   exact⟨j,by omega,h2⟩
  ·exact⟨n,by omega,List.mem_singleton.1 h⟩
def slT (L:List Tx):D:=V.sl2 L.length (tcl L)
theorem slQ_T (Y:Nat→Tx)(n:Nat):slQ Y n=slT (lst Y n):=by
 unfold slQ slT
 rw[wce_tcl,je1]
theorem jeB (s t:List UInt8):∀ (K:List D→Prop) (l:List Tx) (k:Nat),k<l.length→jaJ (tcl l) (k*2) [.str s,.str t] K=K (tcl (l.set k (s,t)))
 | _,[],_,h=>absurd h (by simp)
 | K,u::p,0,_=>by
  show jaJ (.str u.1 :: .str u.2::tcl p) 0 [.str s,.str t] K=_
  simp only[jaJ]
  rfl
 | K,u::p,k+1,h=>by
  rw[show (k+1)*2=k*2+1+1 by omega]
  show jaJ (tcl p) (k*2) _ _=_
  rw[jeB s t _ p k (by simpa using h)]
  rfl
def okTx (q:Tx):Prop:=q.1.length≤600∧q.2.length≤600∧(okP q.1 q.2=true→Fq 40 (qX q))
theorem okTx_20 {q:Tx}(h:q.1.length≤20∧q.2.length≤20):okTx q:=⟨by omega,by omega,fun o=>fq_txt o h.1 h.2⟩
theorem okTx_q {q:Rat}(h:Fq 40 q):okTx (txq q):=by
 have o:=jaB (h.ok (by omega) (by omega))
 have a1:=jdg q.num.natAbs 40 h.1 (by omega)
 have a2:=jdg q.den 40 h.2 (by omega)
 refine⟨?_,by show (dec q.den).length≤600;omega,fun _=>by rw[show qX (txq q)=q from o.2];exact h⟩
 show (decZ q.num).length≤600
 unfold decZ
 split<;>(try simp only[jjG])<;>omega
theorem eqi_c (l:List Int)(h:l.length≤4):Cl 15 [.ints .i64 l,.ints .i64 l] (.bool true):=by
 have c:=jfb l l (by omega) (by omega)
 simpa using c
def AlikeE (zs data:List Int)(out:Int)(E:D):Prop:=
  ∃ (bl ol:List Int) (w:Nat→Tx) (wn:Nat) (e:Int) (y:Nat→Tx) (yn:Nat) (h:Int),(bl.length≤4∧ol.length≤4)∧wn≤4∧yn≤4 ∧
   Cl 11 [.agg [.ints .i64 zs,.int .i64 out,.ints .i64 data],E] (.tup [.ints .i64 bl,.ints .i64 ol,slQ w wn,.int .i64 e]) ∧
   Cl 12 [.agg [.ints .i64 zs,.int .i64 out,.ints .i64 data],E] (.tup [.ints .i64 bl,.ints .i64 ol,slQ w wn,.int .i64 e]) ∧
   Cl 13 [.agg [.ints .i64 zs,.int .i64 out,.ints .i64 data],E] (.tup [slQ y yn,.int .i64 h]) ∧
   Cl 14 [.agg [.ints .i64 zs,.int .i64 out,.ints .i64 data],E] (.tup [slQ y yn,.int .i64 h])
def five {α:Type}(a b c d e:α):Nat→α
 | 0=>a
 | 1=>b
 | 2=>c
 | 3=>d
 | _=>e
theorem jbn {zs data:List Int}{out:Int}(hz:jak zs out data=true→zs.length=1∨zs.length=2∨zs.length=3)(hs:zs.length≤100)(hd:data.length≤100000)(L:List Tx)(hL:∀ q∈L,okTx q){E:D}(hE:_root_.Go.V.Fin (slY (fun j=>L.getD j ([],[])) L.length) E):AlikeE zs data out E:=by
 obtain⟨bl,ol,w,wn,e,y,yn,h,h1,h2,h3,c1,c2,c3,c4⟩:=alike_c hz (by omega) (by omega) (fun j=>L.getD j ([],[])) L.length (fun i hi=>by
  have m:L.getD i ([],[])∈L:=by
   rw[jjr,jju hi]
   exact jjv hi
  exact hL _ m)
 exact⟨bl,ol,w,wn,e,y,yn,h,h1,h2,h3,argL c1 hE,argL c2 hE,argL c3 hE,argL c4 hE⟩
theorem jaZ (L:List Tx):_root_.Go.V.Fin (slY (fun j=>L.getD j ([],[])) L.length) (slT L):=jbt (fun j hj=>jfE L j hj)
end Go.Proofs.YtbnghipgicmpdaaGreatDoor
end
section
namespace Go.Proofs.YtbnghipgicmpdaaGreatDoor
open Go Go.V Go.Nb Go.RowKit
theorem jhp {h:Pub}{e n:Nat}{f g:Nat→List D}{v:Value}(hf:∀ j,j<n→f j=g j)(H:Den Env.dummy h (.slf e n f) v):Den Env.dummy h (.slf e n g) v:=by
 simp only[Den] at H ⊢
 obtain⟨a,cap,h1,h2,h3,h4⟩:=H
 refine⟨a,cap,h1,h2,h3,?_⟩
 cases a with
 | none=>exact h4
 | some ad=>
  refine⟨h4.1,fun j hj=>?_⟩
  have:=h4.2 j hj
  rw[hf j hj] at this
  exact this
def rawL:List Lf:=[.recs [.str,.str]]
theorem raw_of {n:Nat}{f:Nat→List D}(h:∀ j,j<n→l0sD [.str,.str] (f j)):∃ l:List (List UInt8×List UInt8),l.length=n∧(∀ j,j<n→f j=[.str (l.getD j ([],[])).1,.str (l.getD j ([],[])).2]) ∧ ∀ s∈l,s.1.length≤281474976710656∧s.2.length≤281474976710656:=by
 induction n with
 | zero=>exact⟨[],rfl,fun j hj=>absurd hj (Nat.not_lt_zero _),fun s hs=>by simp at hs⟩
 | succ n ih=>
  obtain⟨l,h1,h2,h3⟩:=ih (fun j hj=>h j (by omega))
  obtain⟨d,ds,e1,⟨a,ea,ha⟩,d2,ds2,e2,⟨b,eb,hb⟩,e3⟩:=h n (by omega)
  subst e3 e2 ea eb
  refine⟨l++[(a,b)],by simp[h1],fun j hj=>?_,fun s hs=>?_⟩
  ·rcases ji8 j n with g|g
   ·rw[h2 j g]
    simp only[jjr,jjA (show j<l.length by omega)]
   ·obtain rfl:j=n:=by omega
    rw[e1]
    simp only[jjr,jjJ (show l.length≤j by omega),show j-l.length=0 by omega]
    rfl
  ·rcases List.mem_append.1 hs with g|g
   ·exact h3 s g
   ·rw[List.mem_singleton.1 g]
    exact⟨ha,hb⟩
theorem raw_den {w:World}{v:Value}(h:leavesOk w rawL [v]):∃ R:List (List UInt8×List UInt8),Den Env.dummy (pubOf w) (V.sl2 R.length (tcl R)) v∧R.length≤281474976710656 ∧ ∀ s∈R,s.1.length≤281474976710656∧s.2.length≤281474976710656:=by
 obtain⟨v0,r0,e0,⟨n,f,hd,hn,hf⟩,e1⟩:=h
 subst e1
 simp only[List.cons.injEq,and_true] at e0
 subst e0
 obtain⟨l,l1,l2,l3⟩:=raw_of hf
 subst l1
 exact⟨l,jhp (fun j hj=>by rw[l2 j hj,jfE l j hj]) hd,by omega,l3⟩
end Go.Proofs.YtbnghipgicmpdaaGreatDoor
end
section
namespace Go.Proofs.YtbnghipgicmpdaaGreatDoor
open Go Go.V Go.Nb
theorem okF_40 {q:Rat}(h1:q.num.natAbs<10^40)(h2:q.den<10^40):okF q=true:=by
 unfold okF
 simp only[jiR,decide_eq_true_eq]
 exact⟨ji2 (ja2 40 _ (by omega) h1).1 (by omega),ji2 (ja2 40 _ (by omega) h2).1 (by omega)⟩
theorem divInt_40 (n d:Int)(hn : -10000000000000000000000000000000000000000<n∧n<10000000000000000000000000000000000000000)(hd:d≠0 ∧ -10000000000000000000000000000000000000000<d∧d<10000000000000000000000000000000000000000) :
  (Rat.divInt n d).num.natAbs<10^40∧(Rat.divInt n d).den<10^40:=by
 rcases (by omega:0<d∨d<0) with h|h
 ·obtain⟨k,rfl⟩:∃ k:Nat,d=k:=⟨d.toNat,by omega⟩
  have:=jfh n k (by omega)
  constructor
  ·exact Nat.lt_of_le_of_lt this.1 (by omega)
  ·exact Nat.lt_of_le_of_lt this.2 (by omega)
 ·rw[← Rat.neg_divInt_neg]
  obtain⟨k,hk⟩:∃ k:Nat, -d=k:=⟨(-d).toNat,by omega⟩
  rw[hk]
  have:=jfh (-n) k (by omega)
  constructor
  ·exact Nat.lt_of_le_of_lt this.1 (by omega)
  ·exact Nat.lt_of_le_of_lt this.2 (by omega)
def whV (l:List Int):Int:=l.foldl (fun v x=>v*1000+x%1000) 0
theorem whV_snoc (l:List Int)(x:Int):whV (l++[x])=whV l*1000+x%1000:=by unfold whV;rw[List.foldl_append];rfl
theorem whV_take (xs:List Int)(k:Nat)(h:k<xs.length):whV (xs.take (k+1))=whV (xs.take k)*1000+xs.getD k 0%1000:=by
 rw[jjS,jju h,← whV_snoc,jjr,jju h];rfl
theorem whV_bd:∀ (k:Nat) (xs:List Int),0≤whV (xs.take k)∧whV (xs.take k)<((1000^k:Nat):Int)
 | 0,xs=>by simp[whV]
 | k+1,xs=>by
  have ih:=whV_bd k xs
  have hp:(1000:Nat)^(k+1)=1000^k*1000:=Nat.pow_succ ..
  rw[hp]
  generalize (1000:Nat)^k=p at *
  rcases ji8 k xs.length with h|h
  ·rw[whV_take xs k h]
   omega
  ·have e:xs.take (k+1)=xs.take k:=by rw[jjI (by omega),jjI h]
   rw[e]
   omega
theorem raised_c (k:Nat)(hk:k≤3):Cl 126 [plD 10,.int .i64 k] (plD ((10^k:Nat):Int)):=by
 have h1:=jbr 1 (by constructor<;>decide)
 have ht:∀ i,i<k→Cl 125 [plD ((10^i:Nat):Int),plD 10] (plD ((10^(i+1):Nat):Int)):=fun i hi=>by
  have:=jaU ((10^i:Nat):Int) 10 (Sm.lit (k:=5) (by
   rcases (by omega:i=0∨i=1∨i=2) with e|e|e<;>subst e<;>decide) |>.mono (by omega)) ((Sm.lit (k:=5) (by decide)).mono (by omega))
  rw[Nat.pow_succ,jja]
  exact this
 obtain⟨v,hv⟩:∃ v:Nat→Int,v=fun i=>((10^i:Nat):Int):=⟨_,rfl⟩
 have ht:∀ i,i<k→Cl 125 [plD (v i),plD 10] (plD (v (i+1))):=by rw[hv];exact ht
 have h1:Cl 69 [.int .i64 1] (plD (v 0)):=by rw[hv];exact h1
 rw[show ((10^k:Nat):Int)=v k by rw[hv]]
 clear hv
 obtain⟨ten,hten⟩:∃ z:Int,z=10:=⟨_,rfl⟩
 rw[← hten] at ht ⊢
 clear hten
 unfold plD at *
 refine V.en tbOk Tryz.func126 ?_
 (conv=>whnf)
 refine V.st ?_
 repeat ((try ((with_reducible refine .ext ?_);(conv=>whnf)));(with_reducible refine jaa (r:=?_) ?_ ?_);rotate_left;(focus (first|exact(h1)));(conv=>whnf);refine V.st ?_)
 refine jad (0:Nat) (fun i=>i≤k) (fun i=>k-i) (fun i=>[(6,.int .i64 i)]) (fun i=>[(5,.box [.bool (decide (v i<0)),.ints .i64 (mg 10000 (v i).natAbs)])]) ?_ ?_ ?_
 ·exact V.wk
 ·exact jiT _
 intro i hi
 have hic:((i:Int)+1)=((i+1:Nat):Int):=by omega
 have hti:=ht i
 (conv=>whnf)
 refine V.st ?_
 refine V.br (fun hq=>?_) (fun hq=>?_)
 ·rw[decide_eq_true_eq] at hq
  have hti:=hti (by omega)
  (conv=>whnf)
  (try simp only[hic])
  repeat ((first|refine V.s1 ?_|((with_reducible refine jaf ?_ ?_);(focus ((conv=>whnf);(try simp only[hic]);(repeat ((first|refine V.s1 ?_);(try simp only[hic])));exact⟨rfl⟩));(conv=>whnf))|((try ((with_reducible refine .ext ?_);(conv=>whnf);(try simp only[hic])));(with_reducible refine jaa (r:=?_) ?_ ?_);rotate_left;(focus (first|exact(hti)));(conv=>whnf)));(try simp only[hic]))
  exact⟨i+1,by omega,by omega,V.wk⟩
 ·rw[decide_eq_false_iff_not] at hq
  obtain rfl:i=k:=by omega
  (conv=>whnf)
  refine V.st ?_
  exact Fin.of rfl
theorem dwhole_c (b:Bool)(xs:List Int)(z:Int)(hz:0≤z∧z≤3):∃ v:Int,(-10000000000000000000000000000000000000000<v∧v<10000000000000000000000000000000000000000) ∧
  Cl 68 [.agg [.bool b,.ints .u16 xs,.int .u16 z]] (.str (decZ v)):=by
 obtain⟨n,rfl⟩:∃ n:Nat,z=n:=⟨z.toNat,by omega⟩
 have hzm:(n:Int)%501=(n:Int):=by omega
 have i0:=jbr 0 (by constructor<;>decide)
 have i1:=jbr 1000 (by constructor<;>decide)
 have i2:=jbr 10 (by constructor<;>decide)
 have r1:=raised_c n (by omega)
 have p10:((10^n:Nat):Int)≤1000∧1≤((10^n:Nat):Int):=by
  rcases (by omega:n=0∨n=1∨n=2∨n=3) with e|e|e|e<;>subst e<;>decide
 generalize ((10^n:Nat):Int)=ten at *
 obtain⟨U,hU⟩:∃ U:Nat→Int,U=fun k=>whV (xs.take k):=⟨_,rfl⟩
 have bd:∀ k,k≤12→0≤U k∧U k<1000000000000000000000000000000000000:=fun k hk=>by
  have:=whV_bd k xs
  have h2:(1000:Nat)^k≤1000^12:=jjg (by omega) hk
  rw[hU]
  exact⟨this.1,Int.lt_of_lt_of_le this.2 (Int.ofNat_le.2 h2)⟩
 have st:∀ k,k<xs.length→U (k+1)=U k*1000+xs.getD k 0%1000:=fun k hk=>by rw[hU];exact whV_take xs k hk
 have V0:U 0=0:=by rw[hU];rfl
 have Vn:∀ k,¬ (k<12∧k<xs.length)→k≤12→U k=U 12:=fun k h1 h2=>by
  rw[hU]
  show whV (xs.take k)=whV (xs.take 12)
  rcases (by omega:k=12∨xs.length≤k) with e|e
  ·rw[e]
  ·rw[jjI e,jjI (by omega)]
 clear hU
 have sm:∀ a:Int,0≤a→a<1000000000000000000000000000000000000000→Sm 10 a:=fun a h1 h2=>Sm.lit (by omega)
 have sm2:∀ a:Int,0≤a→a<1000000000000000000000000000000000000000→(mg 10000 a.natAbs).length≤10:=sm
 have hb:=bd 12 (by omega)
 have hfin:0≤U 12*ten∧U 12*ten<1000000000000000000000000000000000000000:=by
  have h1:=jiW hb.1 (show 0≤ten by omega)
  have h2:=jje p10.1 hb.1
  omega
 have t9:=jaU (U 12) ten ((sm _ hb.1 (by omega)).mono (by omega)) ((sm _ (by omega) (by omega)).mono (by omega))
 obtain⟨w,hw⟩:∃ w:Int,U 12*ten=w:=⟨_,rfl⟩
 rw[hw] at t9 hfin
 have m1:=jdb b w.natAbs (by have:=sm2 w hfin.1 hfin.2;omega)
 rw[show ((w.natAbs:Nat):Int)=w by omega] at m1
 have hv : -1000000000000000000000000000000000000000<(if b=true then -w else w)∧(if b=true then -w else w)<1000000000000000000000000000000000000000:=by split<;>omega
 refine⟨if b=true then -w else w,by omega,?_⟩
 generalize (if b=true then -w else w)=v at *
 have o1:=out_c v (Sm.lit (k:=10) (by omega) |>.mono (by omega))
 have hd:=(ja2 40 v.natAbs (by omega) (by omega)).1
 rw[if_neg (by omega),if_neg (by omega)] at o1
 obtain⟨k1000,hk1000⟩:∃ q:Int,q=1000:=⟨_,rfl⟩
 obtain⟨k10,hk10⟩:∃ q:Int,q=10:=⟨_,rfl⟩
 have tk:∀ k,k≤12→Cl 125 [plD (U k),plD k1000] (plD (U k*1000)):=fun k hk=>by
  rw[hk1000]
  exact jaU (U k) 1000 ((sm _ (bd k hk).1 (by have:=(bd k hk).2;omega)).mono (by omega)) ((sm _ (by omega) (by omega)).mono (by omega))
 have i1:Cl 69 [.int .i64 1000] (plD k1000):=by rw[hk1000];exact i1
 have i2:Cl 69 [.int .i64 10] (plD k10):=by rw[hk10];exact i2
 have r1:Cl 126 [plD k10,.int .i64 n] (plD ten):=by rw[hk10];exact r1
 have i0:Cl 69 [.int .i64 0] (plD (U 0)):=by rw[V0];exact i0
 clear hk1000 hk10 hb hfin hv hw hd V0 p10
 unfold plD at i0 i1 i2 r1 tk t9 m1 o1
 refine V.en tbOk Tryz.func68 ?_
 (conv=>whnf)
 refine V.st ?_
 repeat ((try ((with_reducible refine .ext ?_);(conv=>whnf)));(with_reducible refine jaa (r:=?_) ?_ ?_);rotate_left;(focus (first|exact(i0)));(conv=>whnf);refine V.st ?_)
 refine jad (0:Nat) (fun k=>k≤12∧k≤xs.length) (fun k=>12-k) (fun k=>[(4,.int .i64 k)]) (fun k=>[(3,.box [.bool (decide (U k<0)),.ints .i64 (mg 10000 (U k).natAbs)])]) ?_ ?_ ?_
 ·exact V.wk
 ·exact⟨by omega,by omega⟩
 intro k hk
 have hkc:((k:Int)+1)=((k+1:Nat):Int):=by omega
 (conv=>whnf)
 refine V.st ?_
 refine V.br (fun hq=>?_) (fun hq=>?_)
 ·simp only[jiR,decide_eq_true_eq] at hq
  obtain⟨x,hx,ex⟩:=getxn (xs:=xs) (k:=k) (by omega)
  have hst:=st k (by omega)
  rw[ex] at hst
  have hbk:=bd k (by omega)
  have hbk1:=bd (k+1) (by omega)
  have h1:=tk k (by omega)
  have h2:=jbr (x%1000) (by simp only[InR,V.lo,V.hi];omega)
  have h3:=jgV (U k*1000) (x%1000) ((sm _ (by omega) (by omega)).mono (by omega)) ((sm _ (by omega) (by omega)).mono (by omega))
  rw[← hst] at h3
  unfold plD at h2 h3
  obtain⟨r,hr⟩:∃ r,x%1000=r:=⟨_,rfl⟩
  rw[hr] at h2 h3
  (conv=>whnf)
  refine V.st ?_
  refine⟨(V.tk [0,3,4,5,6,7,8,9] (V.e1 1 [9,8,7,6,5,4,3,0] (V.e1 2 [9,8,7,6,5,4,3] (V.e1 10 [] (V.e1 11 [] (V.e1 12 [] .done)))))),[],V.pok,.go (jac ?_)⟩
  (conv=>whnf)
  (try simp only[ji0,ex,hr,hkc])
  repeat ((first|refine V.s1 ?_|((with_reducible refine jaf ?_ ?_);(focus ((conv=>whnf);(try simp only[ji0,ex,hr,hkc]);(repeat ((first|refine V.s1 ?_);(try simp only[ji0,ex,hr,hkc])));exact⟨rfl⟩));(conv=>whnf))|((try ((with_reducible refine .ext ?_);(conv=>whnf);(try simp only[ji0,ex,hr,hkc])));(with_reducible refine jaa (r:=?_) ?_ ?_);rotate_left;(focus (first|exact(i1)|exact(h1)|exact(h2)|exact(h3)));(conv=>whnf)));(try simp only[ji0,ex,hr,hkc]))
  exact⟨k+1,⟨by omega,by omega⟩,by omega,V.wk⟩
 ·have hk12:U k=U 12:=Vn k (fun h=>by rw[Bool.and_eq_false_iff,decide_eq_false_iff_not,decide_eq_false_iff_not] at hq;omega) hk.1
  rw[hk12]
  (conv=>whnf)
  refine V.st ?_
  refine⟨(V.tk [0,2,3,4,5] (V.e1 1 [5,4,3,2,0] (V.e1 6 [0] (V.e1 7 [] (V.e1 8 [] .done))))),[],V.pok,.go (jac ?_)⟩
  (conv=>whnf)
  (try simp only[hzm])
  repeat ((first|refine V.s1 ?_|((with_reducible refine jaf ?_ ?_);(focus ((conv=>whnf);(try simp only[hzm]);(repeat ((first|refine V.s1 ?_);(try simp only[hzm])));exact⟨rfl⟩));(conv=>whnf))|((try ((with_reducible refine .ext ?_);(conv=>whnf);(try simp only[hzm])));(with_reducible refine jaa (r:=?_) ?_ ?_);rotate_left;(focus (first|exact(i2)|exact(r1)|exact(t9)));(conv=>whnf)));(try simp only[hzm]))
  (conv=>whnf)
  refine V.st ?_
  repeat ((try ((with_reducible refine .ext ?_);(conv=>whnf)));(with_reducible refine jaa (r:=?_) ?_ ?_);rotate_left;(focus (first|exact(m1)|exact(o1)));(conv=>whnf);refine V.st ?_)
  exact Fin.of rfl
theorem dfrac40_c (b:Bool)(xs:List Int)(z:Int)(b2:Bool)(xs2:List Int)(z2:Int)(hz:0≤z∧z≤65535)(hz2:0≤z2∧z2≤65535):∃ q:Rat,okF q=true∧(q.num.natAbs<10000000000000000000000000000000000000000∧q.den<10000000000000000000000000000000000000000) ∧
  Cl 33 [.agg [.bool b,.ints .u16 xs,.int .u16 z,.bool b2,.ints .u16 xs2,.int .u16 z2]] (frT_o q):=by
 obtain⟨r,hr⟩:∃ r,z%4=r:=⟨_,rfl⟩
 obtain⟨r2,hr2⟩:∃ r,z2%4=r:=⟨_,rfl⟩
 obtain⟨v,hv,w1⟩:=dwhole_c b xs r (by omega)
 obtain⟨v2,hv2,w2⟩:=dwhole_c b2 xs2 r2 (by omega)
 obtain⟨y,hy⟩:∃ y,y=if v2=0 then 1 else v2:=⟨_,rfl⟩
 have hy0:y≠0 ∧ -10000000000000000000000000000000000000000<y∧y<10000000000000000000000000000000000000000:=by
  rw[hy];split<;>omega
 have n40:=divInt_40 v y hv hy0
 have hok:=okF_40 n40.1 n40.2
 have l40:∀ a:Int,(-10000000000000000000000000000000000000000<a∧a<10000000000000000000000000000000000000000)→Sm 10 a∧(dec a.natAbs).length≤600:=fun a ha=>
  ⟨Sm.lit (by omega),ji2 (ja2 40 a.natAbs (by omega) (by omega)).1 (by omega)⟩
 have i1:=in01_c_o (decZ v) (jbN v (l40 v hv).2)
 have i2:=in01_c_o (decZ v2) (jbN v2 (l40 v2 hv2).2)
 rw[jba] at i1 i2
 have k1:=jbr 1 (by constructor<;>decide)
 have lw:=jdB v y ((l40 v hv).1.mono (by omega)) ((l40 y hy0.2).1.mono (by omega)) hy0.1
 have q4:Q4 10 (Rat.divInt v y):=Q4.of (l40 v hv).1 (l40 y hy0.2).1 hy0.1
 have o1:=jdX (Rat.divInt v y) (q4.1.mono (by omega)) (q4.2.mono (by omega))
 unfold frR at o1
 rw[hok] at o1
 simp only[cond_true] at o1
 refine⟨_,hok,⟨by have:=n40.1;omega,by have:=n40.2;omega⟩,?_⟩
 have hnil:=jb6 (B:=10000) (n:=v2.natAbs) (by omega)
 clear q4 hok n40 l40
 generalize Rat.divInt v y=q at *
 unfold frT_o raD plD at *
 generalize decZ v=t1 at *
 generalize decZ v2=t2 at *
 refine V.en tbOk Tryz.func33 ?_
 (conv=>whnf)
 refine V.st ?_
 refine⟨(V.tk [0,1,2,3] (.ev (.cons 4 [3,2,1,0] (V.e1 5 [3,2,1,0] (V.e1 6 [3,2] (V.e1 7 [] .done))) (.cons 5 [3,2,1,0] (V.e1 4 [3,2,1,0] (V.e1 6 [3,2] (V.e1 7 [] .done))) .nil)))),[],V.pok,?_⟩
 refine jab [(3,.box 3 0),(4,.box 4 0)] [(3,.box [.bool b,.ints .u16 xs,.int .u16 z]),(4,.box [.bool b2,.ints .u16 xs2,.int .u16 z2])] ?_ ?_
 ·exact V.d0 @jiX
 (conv=>whnf)
 refine V.st ?_
 refine⟨(V.tk [0,1,2,3,4,5,6] (V.e1 7 [5,4,3] (V.tk [8] (V.e1 9 [] .done)))),[],V.pok,?_⟩
 refine jab [] [(3,.box [.bool b,.ints .u16 xs,.int .u16 r]),(4,.box [.bool b2,.ints .u16 xs2,.int .u16 r2])] ?_ ?_
 ·exact V.d0 (V.a3 @jiX hr hr2)
 (conv=>whnf)
 refine V.st ?_
 refine⟨(V.tk [0,3] (.ev (.cons 1 [3] (.ev (.cons 2 [3] (.ev (.cons 4 [] (.ev (.cons 5 [] (.ev (.cons 6 [] (V.e1 7 [] (V.e1 8 [] (V.e1 9 [] .done))) (.cons 7 [] (V.e1 6 [] (V.e1 8 [] (V.e1 9 [] .done))) .nil))) (.cons 6 [] (.ev (.cons 5 [] (V.e1 7 [] (V.e1 8 [] (V.e1 9 [] .done))) (.cons 7 [] (V.e1 5 [] (V.e1 8 [] (V.e1 9 [] .done))) .nil))) (.cons 7 [] (.ev (.cons 5 [] (V.e1 6 [] (V.e1 8 [] (V.e1 9 [] .done))) (.cons 6 [] (V.e1 5 [] (V.e1 8 [] (V.e1 9 [] .done))) .nil))) .nil)))) (.cons 6 [3] (.ev (.cons 4 [] (.ev (.cons 5 [] (V.e1 7 [] (V.e1 8 [] (V.e1 9 [] .done))) (.cons 7 [] (V.e1 5 [] (V.e1 8 [] (V.e1 9 [] .done))) .nil))) (.cons 7 [3] (V.e1 4 [] (V.e1 5 [] (V.e1 8 [] (V.e1 9 [] .done)))) .nil))) (.cons 7 [3] (.ev (.cons 4 [] (.ev (.cons 5 [] (V.e1 6 [] (V.e1 8 [] (V.e1 9 [] .done))) (.cons 6 [] (V.e1 5 [] (V.e1 8 [] (V.e1 9 [] .done))) .nil))) (.cons 6 [3] (V.e1 4 [] (V.e1 5 [] (V.e1 8 [] (V.e1 9 [] .done)))) .nil))) .nil)))) (.cons 6 [3] (.ev (.cons 2 [3] (.ev (.cons 4 [] (.ev (.cons 5 [] (V.e1 7 [] (V.e1 8 [] (V.e1 9 [] .done))) (.cons 7 [] (V.e1 5 [] (V.e1 8 [] (V.e1 9 [] .done))) .nil))) (.cons 7 [3] (V.e1 4 [] (V.e1 5 [] (V.e1 8 [] (V.e1 9 [] .done)))) .nil))) (.cons 7 [3] (V.e1 2 [3] (V.e1 4 [] (V.e1 5 [] (V.e1 8 [] (V.e1 9 [] .done))))) .nil))) (.cons 7 [3] (.ev (.cons 2 [3] (.ev (.cons 4 [] (.ev (.cons 5 [] (V.e1 6 [] (V.e1 8 [] (V.e1 9 [] .done))) (.cons 6 [] (V.e1 5 [] (V.e1 8 [] (V.e1 9 [] .done))) .nil))) (.cons 6 [3] (V.e1 4 [] (V.e1 5 [] (V.e1 8 [] (V.e1 9 [] .done)))) .nil))) (.cons 6 [3] (V.e1 2 [3] (V.e1 4 [] (V.e1 5 [] (V.e1 8 [] (V.e1 9 [] .done))))) .nil))) .nil)))) (.cons 6 [3,0] (.ev (.cons 1 [3] (.ev (.cons 2 [3] (.ev (.cons 4 [] (.ev (.cons 5 [] (V.e1 7 [] (V.e1 8 [] (V.e1 9 [] .done))) (.cons 7 [] (V.e1 5 [] (V.e1 8 [] (V.e1 9 [] .done))) .nil))) (.cons 7 [3] (V.e1 4 [] (V.e1 5 [] (V.e1 8 [] (V.e1 9 [] .done)))) .nil))) (.cons 7 [3] (V.e1 2 [3] (V.e1 4 [] (V.e1 5 [] (V.e1 8 [] (V.e1 9 [] .done))))) .nil))) (.cons 7 [3,0] (V.e1 1 [3] (V.e1 2 [3] (V.e1 4 [] (V.e1 5 [] (V.e1 8 [] (V.e1 9 [] .done)))))) .nil))) (.cons 7 [3,0] (.ev (.cons 1 [3] (.ev (.cons 2 [3] (.ev (.cons 4 [] (.ev (.cons 5 [] (V.e1 6 [] (V.e1 8 [] (V.e1 9 [] .done))) (.cons 6 [] (V.e1 5 [] (V.e1 8 [] (V.e1 9 [] .done))) .nil))) (.cons 6 [3] (V.e1 4 [] (V.e1 5 [] (V.e1 8 [] (V.e1 9 [] .done)))) .nil))) (.cons 6 [3] (V.e1 2 [3] (V.e1 4 [] (V.e1 5 [] (V.e1 8 [] (V.e1 9 [] .done))))) .nil))) (.cons 6 [3,0] (V.e1 1 [3] (V.e1 2 [3] (V.e1 4 [] (V.e1 5 [] (V.e1 8 [] (V.e1 9 [] .done)))))) .nil))) .nil))))),[],V.pok,?_⟩
 refine jab [(5,.box 5 0),(6,.box 6 0)] [(5,.box [.bool (decide (v<0)),.ints .i64 (mg 10000 v.natAbs)]),(6,.box [.bool (decide (v2<0)),.ints .i64 (mg 10000 v2.natAbs)])] ?_ ?_
 ·exact V.d4 @jiX w1 w2 i1 i2
 (conv=>whnf)
 refine V.st ?_
 refine V.br (fun hq=>?_) (fun hq=>?_)
 ·have h0:v2=0:=by
   rw[decide_eq_true_eq] at hq
   have:=hnil.1 (jjs.1 (by omega))
   omega
  rw[if_pos h0] at hy
  subst hy
  (conv=>whnf)
  refine V.st ?_
  repeat ((try ((with_reducible refine .ext ?_);(conv=>whnf)));(with_reducible refine jaa (r:=?_) ?_ ?_);rotate_left;(focus (first|exact(k1)|exact(lw)|exact(o1)));(conv=>whnf);refine V.st ?_)
  exact Fin.of rfl
 ·have h0:v2≠0:=fun h=>by
   rw[decide_eq_false_iff_not] at hq
   exact hq (by rw[hnil.2 (by omega)];rfl)
  rw[if_neg h0] at hy
  subst hy
  (conv=>whnf)
  refine V.st ?_
  repeat ((try ((with_reducible refine .ext ?_);(conv=>whnf)));(with_reducible refine jaa (r:=?_) ?_ ?_);rotate_left;(focus (first|exact(lw)|exact(o1)));(conv=>whnf);refine V.st ?_)
  exact Fin.of rfl
def axq (a:Nat→Int)(i:Nat):Rat:=Rat.divInt (a i) 840
def cxq (a:Nat→Int)(i:Nat):Rat:=Rat.divInt (IntKind.wrap .u16 (a i)%841) 840
theorem cxq_fq (a:Nat→Int)(i:Nat):Fq 40 (cxq a i):=by
 have h:0≤IntKind.wrap .u16 (a i)%841∧IntKind.wrap .u16 (a i)%841≤840:=by omega
 exact(jaX (n:=4) (d:=840) (by decide) (by omega) (by decide)).mono (by decide)
theorem axq_fq {a:Nat→Int}{i:Nat}(h : -32768≤a i∧a i≤32767):Fq 40 (axq a i):=
 (jaX (n:=5) (d:=840) (by decide) (by omega) (by decide)).mono (by decide)
theorem eqs_f (n:Nat)(X:Nat→List UInt8×List UInt8)(hn:n≤40):Cl 16 [.slf 2 n (fun j=>[.str (X j).1,.str (X j).2]),.slf 2 n (fun j=>[.str (X j).1,.str (X j).2])] (.bool true):=by
 refine V.en tbOk Tryz.func16 ?_
 (conv=>whnf)
 (conv=>whnf)
 (try simp only[])
 repeat ((first|refine V.s1 ?_);(try simp only[]))
 refine Cnd.no (decide_eq_false (fun h=>h rfl)) ?_
 (conv=>whnf)
 (try simp only[])
 repeat ((first|refine V.s1 ?_);(try simp only[]))
 refine jad ((0:Nat)) (fun k=>k≤n) (fun k=>n-k) (fun k=>[(13,.int .i64 k)]) (fun k=>[]) ?_ ?_ ?_
 ·exact V.wk
 ·exact jiT _
 intro k hk
 have hkc:((k:Int)+1)=((k+1:Nat):Int):=by omega
 by_cases hkn:k<n
 ·have hlt:decide ((k:Int)<n)=true:=decide_eq_true (by omega)
  refine V.r0 (V.a2 hlt @ji0) ?_
  refine⟨Pq24z,[],V.pok,?_⟩
  refine jab [(24,.bool false)] [] ?_ ?_
  ·exact V.d0 (V.a4 @ji0 @decide_true @Bool.and_self @Bool.not_true)
  refine V.r0 (V.a2 hkc @ji0) ?_
  exact⟨k+1,by omega,by omega,V.wk⟩
 ·have hlt:decide ((k:Int)<n)=false:=decide_eq_false (by omega)
  refine V.r0 hlt ?_
  exact Fin.of rfl
theorem eqs_q (w:Nat→Tx)(n:Nat)(h:n≤4):Cl 16 [slQ w n,slQ w n] (.bool true):=by
 have f:_root_.Go.V.Fin (slY w n) (slQ w n):=jbt (fun j hj=>jfJ w n j hj)
 exact Called.arg (show FinL [slY w n,slY w n] [slQ w n,slQ w n] from ⟨f,f,trivial⟩) (eqs_f n w (by omega))
theorem color_all {n:Nat}(hn:n=1∨n=2∨n=3∨n=4)(a z1 z2:Nat→Int)(b1 b2:Nat→Bool)(p1 p2:Nat→List Int)(A X:Nat→Tx)(C:Int→Tx)(ca:∀ i,i<4→Cl 30 [.int .i64 (a i),.int .i64 840] (.agg [.str (A i).1,.str (A i).2]))(cx:∀ i,i<4→Cl 33 [.agg [.bool (b1 i),.ints .u16 (p1 i),.int .u16 (z1 i),.bool (b2 i),.ints .u16 (p2 i),.int .u16 (z2 i)]] (.agg [.str (X i).1,.str (X i).2]))(cc:∀ v:Int,Cl 30 [.int .i64 (v%841),.int .i64 840] (.agg [.str (C v).1,.str (C v).2])) :
  Cl 9 [(colD a z1 z2 b1 b2 p1 p2),.int .i64 n] (.agg [slQ A n,slQ X n,slQ (fun i=>C (IntKind.wrap .u16 (a i))) n]):=by
 rcases hn with rfl|rfl|rfl|rfl
 ·exact color1_t a z1 z2 b1 b2 p1 p2 A X C ca cx cc
 ·exact color2_t a z1 z2 b1 b2 p1 p2 A X C ca cx cc
 ·exact color3_t a z1 z2 b1 b2 p1 p2 A X C ca cx cc
 ·exact color4_t a z1 z2 b1 b2 p1 p2 A X C ca cx cc
theorem jet {n:Nat}(hn:n=1∨n=2∨n=3∨n=4){at' z1 z2:Nat→Int}(b1 b2:Nat→Bool)(p1 p2:Nat→List Int)(ha:∀ i, -32768≤at' i∧at' i≤32767)(h1:∀ i,0≤z1 i∧z1 i≤65535)(h2:∀ i,0≤z2 i∧z2 i≤65535) :
  ∃ L0 L1 L2:List Tx,(L0.length=n∧L1.length=n∧L2.length=n)∧(∀ q∈L0,okTx q)∧(∀ q∈L1,okTx q)∧(∀ q∈L2,okTx q) ∧
  Cl 9 [(colD at' z1 z2 b1 b2 p1 p2),.int .i64 n] (.agg [slT L0,slT L1,slT L2]):=by
 have hx:∀ i, ∃ q:Rat,Fq 40 q∧Cl 33 [.agg [.bool (b1 i),.ints .u16 (p1 i),.int .u16 (z1 i),.bool (b2 i),.ints .u16 (p2 i),.int .u16 (z2 i)]] (.agg [.str (txq q).1,.str (txq q).2]):=fun i=>by
  obtain⟨q,_,f,c⟩:=dfrac40_c (b1 i) (p1 i) (z1 i) (b2 i) (p2 i) (z2 i) (h1 i) (h2 i)
  exact⟨q,⟨by have:=f.1;omega,by have:=f.2;omega⟩,c⟩
 obtain⟨q,hq⟩:=Classical.axiomOfChoice hx
 have c:=color_all hn at' z1 z2 b1 b2 p1 p2 (fun i=>txq (axq at' i)) (fun i=>txq (q i)) (fun v=>txq (Rat.divInt (v%841) 840))
  (fun i _=>lof_c (n:=at' i) (m:=840) (by have:=ha i;omega) (by omega)) (fun i _=>(hq i).2) (fun v=>lof_c (n:=v%841) (m:=840) (by omega) (by omega))
 rw[slQ_T,slQ_T,slQ_T] at c
 refine⟨_,_,_,⟨je1 _ _,je1 _ _,je1 _ _⟩,fun x hx=>?_,fun x hx=>?_,fun x hx=>?_,c⟩
 ·obtain⟨j,_,rfl⟩:=jgw _ _ _ hx
  exact okTx_q (axq_fq (ha j))
 ·obtain⟨j,_,rfl⟩:=jgw _ _ _ hx
  exact okTx_q (hq j).1
 ·obtain⟨j,_,rfl⟩:=jgw _ _ _ hx
  exact okTx_q (cxq_fq at' j)
theorem jiL:type_of% @ji0∧type_of% @jjE ∧ type_of% @jiX∧type_of% @k0:=⟨@ji0,@jjE,@jiX,@k0⟩
theorem jim:type_of% @ji0∧type_of% @jiX∧type_of% @Nat.zero_mul∧type_of% @tn0:=⟨@ji0,@jiX,@Nat.zero_mul,@tn0⟩
theorem jid:type_of% @ji0∧type_of% @jiX:=⟨@ji0,@jiX⟩
theorem jiK:type_of% @ji0∧type_of% @jjE ∧ type_of% @jiX∧type_of% @k1:=⟨@ji0,@jjE,@jiX,@k1⟩
theorem cells_x (X:List (List UInt8×List UInt8))(ds:List Int)(o:Int)(vals:List Int)(sm:Bool)(kb:Int)(a z1 z2:Nat→Int)(b1 b2:Nat→Bool)(p1 p2:Nat→List Int)(zs data:List Int)(out:Int)(hX:X.length≤281474976710656)(h0:0<X.length)(hk8:0≤kb∧kb≤255)(hzl:1≤zs.length∧zs.length≤3)(hg:jak zs out data=true)(ha:∀ i, -32768≤a i∧a i≤32767)(hz1:∀ i,0≤z1 i∧z1 i≤65535)(hz2:∀ i,0≤z2 i∧z2 i≤65535)
  (wk:Cl 6 [] (.bool true)) (gd:Cl 7 [.agg [.ints .u8 ds,.int .u8 o,.ints .u16 vals,.bool sm]] (.agg [.ints .i64 zs,.int .i64 out,.ints .i64 data])) :
  Cl 3 [.agg [.ints .u8 ds,.int .u8 o,.ints .u16 vals,.bool sm],.int .u8 kb,(colD a z1 z2 b1 b2 p1 p2),V.sl2 X.length (tcl X)] (.bool true):=by
 have bn:=bent_c zs data out kb hk8 (by omega)
 obtain⟨m,hm⟩:∃ m:Nat,min (X.length:Int) 5=(m:Int):=⟨(min (X.length:Int) 5).toNat,by omega⟩
 have hml:m≤X.length:=by omega
 have hm5:m≤5:=by omega
 have hm0:0<m:=by omega
 have hll:(X.take m).length=m:=by rw[jjy];omega
 have hbm:Nat.beq m 0=false:=by
  cases e:Nat.beq m 0 with
  | false=>rfl
  | true=>have:=jiQ e;omega
 have hcm:∀ K,catF 2 (fun j=>List.take 2 (List.drop (j*2) (tcl X))) m [] K=K (tcl (X.take m)):=fun K=>by rw[jf0 X K m [] hml,jjH]
 have hzm:Nat.ble m 1000000=true:=by rw[Nat.ble_eq];omega
 have pum:=jcX (X.take m)
 have frm:=jgJ (X.take m)
 have pgm:=jeC (X.take m)
 refine V.en tbOk Tryz.func3 ?_
 (conv=>whnf)
 (conv=>whnf)
 (try simp only[ji0,jiY,jiX,jjE,hm,hzm,frm])
 repeat ((first|refine V.s1 ?_|((try ((with_reducible refine .ext ?_);(conv=>whnf);(try simp only[ji0,jiY,jiX,jjE,hm,hzm,frm])));(with_reducible refine jaa (r:=?_) ?_ ?_);rotate_left;(focus (first|exact(wk)));(conv=>whnf))|(((rewrite [hbm];(conv=>whnf)));(conv=>whnf))|(((rewrite [hcm];(conv=>whnf)));(conv=>whnf))|(((rewrite [pum];(conv=>whnf)));(conv=>whnf))|(((rewrite [pgm];(conv=>whnf)));(conv=>whnf)));(try simp only[ji0,jiY,jiX,jjE,hm,hzm,frm]))
 refine jad (((0:Nat),X.take m)) (fun k=>k.1≤m∧k.2.length=m∧(∀ j,j<k.1→(k.2.getD j ([],[])).1.length≤20∧(k.2.getD j ([],[])).2.length≤20)) (fun k=>m-k.1) (fun k=>[(39,.int .i64 k.1)]) (fun k=>[(36,.box (tcl k.2))]) ?_ ?_ ?_
 ·exact V.wk
 ·exact⟨jiT _,hll,fun j hj=>absurd hj (Nat.not_lt_zero _)⟩
 rintro⟨k,T⟩ ⟨hk,hT,hs⟩
 try dsimp only at hk hT hs ⊢
 have pgT:=jeC T
 (conv=>whnf)
 (try simp only[ji0])
 repeat ((first|refine V.s1 ?_|((try ((with_reducible refine .ext ?_);(conv=>whnf);(try simp only[ji0])));(with_reducible refine jaa (r:=?_) ?_ ?_);rotate_left;(focus (first|fail));(conv=>whnf))|(((rewrite [pgT];(conv=>whnf)));(conv=>whnf)));(try simp only[ji0]))
 refine V.br (fun hq=>?_) (fun hq=>?_)
 ·simp only[decide_eq_true_eq] at hq
  have hkT:k<T.length:=by omega
  have n1:∀ K,nthK (tcl T) (0+k*2+0) K=K (.str (T.getD k ([],[])).1):=fun K=>by rw[jiX,jiY];exact tcl_n1 K T k hkT
  have n2:∀ K,nthK (tcl T) (0+k*2+1) K=K (.str (T.getD k ([],[])).2):=fun K=>by rw[jiX];exact tcl_n2 K T k hkT
  have w1:∀ s K,jaJ (tcl T) (0+k*2+0) [.str s] K=K (tcl (T.set k (s,(T.getD k ([],[])).2))):=fun s K=>by rw[jiX,jiY];exact tcl_s1 s K T k hkT
  have w2:∀ q s K,jaJ (tcl (T.set k q)) (0+k*2+1) [.str s] K=K (tcl ((T.set k q).set k (((T.set k q).getD k ([],[])).1,s))):=fun q s K=>by rw[jiX];exact tcl_s2 s K (T.set k q) k (by rw[jjQ];exact hkT)
  have pgs:∀ q i K,jcu i (tcl (T.set k q)) K=K (tcl (T.set k q)):=fun q=>jeC _
  have hkc:((k:Int)+1)=((k+1:Nat):Int):=by omega
  (conv=>whnf)
  (try simp only[ji0])
  repeat ((first|refine V.s1 ?_|((try ((with_reducible refine .ext ?_);(conv=>whnf);(try simp only[ji0])));(with_reducible refine jaa (r:=?_) ?_ ?_);rotate_left;(focus (first|fail));(conv=>whnf))|(((rewrite [pgT];(conv=>whnf)));(conv=>whnf)));(try simp only[ji0]))
  refine⟨(V.tk [0,1,2,3,4,5,6,7,8,9,10,11,12,13,14,15,16,17,18,19,20,21,22,23,24,25,26,27,28,29,30,31] (V.e1 32 [29,28,27,3,2] (V.tk [33,34] (V.e1 35 [] .done)))),[],V.pok,.go (jac ?_)⟩
  (conv=>whnf)
  (try simp only[ji0,hkc])
  repeat ((first|refine V.s1 ?_|((try ((with_reducible refine .ext ?_);(conv=>whnf);(try simp only[ji0,hkc])));(with_reducible refine jaa (r:=?_) ?_ ?_);rotate_left;(focus (first|fail));(conv=>whnf))|(((rewrite [pgT];(conv=>whnf)));(conv=>whnf))|(((rewrite [n1];(conv=>whnf)));(conv=>whnf))|(((rewrite [n2];(conv=>whnf)));(conv=>whnf))|(((rewrite [w1];(conv=>whnf)));(conv=>whnf))|(((rewrite [w2];(conv=>whnf)));(conv=>whnf))|(((rewrite [pgs];(conv=>whnf)));(conv=>whnf)));(try simp only[ji0,hkc]))
  refine⟨(k+1,(T.set k ((T.getD k ([],[])).1.take (min ((T.getD k ([],[])).1.length:Int) 20).toNat,(T.getD k ([],[])).2)).set k (((T.set k ((T.getD k ([],[])).1.take (min ((T.getD k ([],[])).1.length:Int) 20).toNat,(T.getD k ([],[])).2)).getD k ([],[])).1,(T.getD k ([],[])).2.take (min ((T.getD k ([],[])).2.length:Int) 20).toNat)),⟨by omega,by simp only[jjQ];exact hT,fun j hj=>?_⟩,by dsimp only;omega,V.wk⟩
  rw[jjr,List.getElem?_set]
  by_cases hjk:k=j
  ·rw[if_pos hjk,if_pos (by rw[jjQ];omega)]
   simp only[Option.getD_some]
   rw[jjr (l:=T.set k _),List.getElem?_set,if_pos rfl,if_pos hkT]
   simp only[Option.getD_some,jjy]
   omega
  ·rw[if_neg hjk,List.getElem?_set,if_neg hjk,← jjr]
   exact hs j (by omega)
 ·simp only[decide_eq_false_iff_not] at hq
  obtain rfl:k=m:=by omega
  have sT:∀ q∈T,q.1.length≤20∧q.2.length≤20:=fun q hq=>by
   obtain⟨j,hj,rfl⟩:=List.mem_iff_getElem.1 hq
   have h:=hs j (by omega)
   rw[jjr,jju hj] at h
   exact h
  (conv=>whnf)
  (try simp only[ji0])
  repeat ((first|refine V.s1 ?_|((try ((with_reducible refine .ext ?_);(conv=>whnf);(try simp only[ji0])));(with_reducible refine jaa (r:=?_) ?_ ?_);rotate_left;(focus (first|exact(gd)|exact(bn)));(conv=>whnf))|(((rewrite [pgT];(conv=>whnf)));(conv=>whnf))|(((rewrite [pgm];(conv=>whnf)));(conv=>whnf)));(try simp only[ji0]))
  refine⟨Pq78z,[],V.pok,.go (jac ?_)⟩
  (conv=>whnf)
  (try simp only[ji0])
  repeat ((first|refine V.s1 ?_|((try ((with_reducible refine .ext ?_);(conv=>whnf);(try simp only[ji0])));(with_reducible refine jaa (r:=?_) ?_ ?_);rotate_left;(focus (first|exact(gd)|exact(bn)));(conv=>whnf))|(((rewrite [pgT];(conv=>whnf)));(conv=>whnf))|(((rewrite [pgm];(conv=>whnf)));(conv=>whnf)));(try simp only[ji0]))
  have bok:bslOk (tcl T) 0 k 2=true:=by
   have h:=jeD T
   rw[hT] at h
   exact h
  have pbT:=fun i c K=>jbI T i c K
  have pbm:=fun i c K=>jbI (List.take k X) i c K
  refine Lp.pub 36 ?_
  (conv=>whnf)
  repeat (first|(rewrite [bok];(conv=>whnf))|(rewrite [pbT];(conv=>whnf))|(rewrite [pbm];(conv=>whnf)))
  clear pum frm pbT pbm bok
  obtain⟨gz,egz⟩:∃ gz,bentZ kb zs=gz:=⟨_,rfl⟩
  obtain⟨go,ego⟩:∃ go,bentO kb out=go:=⟨_,rfl⟩
  have gl:1≤gz.length∧gz.length≤4:=by
   rw[← egz]
   unfold bentZ
   split
   ·rw[jjG];omega
   ·omega
  have gz3:jak gz go data=true→gz.length=1∨gz.length=2∨gz.length=3:=fun h=>by
   rcases bent_bad (k:=kb) hg with⟨e1,_⟩|e1
   ·rw[egz] at e1;rw[e1];omega
   ·rw[egz,ego,h] at e1;cases e1
  have zz3:jak zs out data=true→zs.length=1∨zs.length=2∨zs.length=3:=fun _=>by omega
  have og:=jav hg
  rw[egz,ego]
  refine jad (0:Nat) (fun k=>k≤2) (fun k=>2-k) (fun k=>[(84,.int .i64 (k:Nat))]) (fun _=>[]) ?_ ?_ ?_
  ·exact V.wk
  ·exact jiT _
  intro g hg2
  try dsimp only at hg2 ⊢
  have hg3:g=0∨g=1∨g=2:=by omega
  rcases hg3 with e|e|e
  all_goals subst e
  ·obtain⟨L0,L1,L2,⟨n0,n1,n2⟩,o0,o1,o2,cc⟩:=jet (n:=zs.length) (by omega) b1 b2 p1 p2 ha hz1 hz2
   have cl:∀ K,catF 2 (fun j=>List.take 2 (List.drop (j*2) (tcl L2))) L2.length [] K=K (tcl L2):=fun K=>by rw[jf0 L2 K L2.length [] (ji1 _),jjH,jjT]
   have pu:=jcX L2
   have fr:=jgJ L2
   have pg:=jeC L2
   have hb0:Nat.beq L2.length 0=false:=by
    cases e:Nat.beq L2.length 0 with
    | false=>rfl
    | true=>have:=jiQ e;omega
   have hz:Nat.ble L2.length 1000000=true:=by rw[Nat.ble_eq];omega
   unfold slT at cc
   (conv=>whnf)
   (try simp only[jiL,fr,hz])
   repeat ((first|refine V.s1 ?_|((try ((with_reducible refine .ext ?_);(conv=>whnf);(try simp only[jiL,fr,hz])));(with_reducible refine jaa (r:=?_) ?_ ?_);rotate_left;(focus (first|exact(cc)));(conv=>whnf))|(((rewrite [pgT];(conv=>whnf)));(conv=>whnf))|(((rewrite [pgm];(conv=>whnf)));(conv=>whnf)));(try simp only[jiL,fr,hz]))
   refine .inl ?_
   (conv=>whnf)
   refine⟨0,_,_,⟨Tryz.func10,rfl,rfl,jiS rfl⟩,?_⟩
   (conv=>whnf)
   (conv=>whnf)
   (try simp only[jiL,fr,hz])
   repeat ((first|refine V.s1 ?_|((try ((with_reducible refine .ext ?_);(conv=>whnf);(try simp only[jiL,fr,hz])));(with_reducible refine jaa (r:=?_) ?_ ?_);rotate_left;(focus (first|fail));(conv=>whnf))|(((rewrite [hb0];(conv=>whnf)));(conv=>whnf))|(((rewrite [cl];(conv=>whnf)));(conv=>whnf))|(((rewrite [pu];(conv=>whnf)));(conv=>whnf))|(((rewrite [pg];(conv=>whnf)));(conv=>whnf))|(((rewrite [pgT];(conv=>whnf)));(conv=>whnf))|(((rewrite [pgm];(conv=>whnf)));(conv=>whnf)));(try simp only[jiL,fr,hz]))
   refine Cnd.yes (by simp;omega) ?_
   obtain⟨i,hi⟩:∃ i:Nat,kb%(L2.length:Int)=(i:Int):=⟨(kb%(L2.length:Int)).toNat,by have:=jiU kb (show (L2.length:Int)≠0 by omega);omega⟩
   have hi2:i<L2.length:=by have:=jji kb (show (0:Int)<L2.length by omega);omega
   have hmod:kb.tmod (L2.length:Int)=(i:Int):=by rw[Int.tmod_eq_emod_of_nonneg hk8.1,hi]
   have e3:List.take 2 (List.drop 0 (tcl T))=[.str (T.getD 0 ([],[])).1,.str (T.getD 0 ([],[])).2]:=jfE T 0 (by omega)
   have w1:∀ s t K,jaJ (tcl L2) (i*2) [.str s,.str t] K=K (tcl (L2.set i (s,t))):=fun s t K=>jeB s t K L2 i hi2
   have w2:∀ s t K,jaJ (tcl L2) (0+i*2) [.str s,.str t] K=K (tcl (L2.set i (s,t))):=fun s t K=>by rw[jiX];exact jeB s t K L2 i hi2
   (conv=>whnf)
   (try simp only[jim,hmod,hi,e3])
   repeat ((first|refine V.s1 ?_|((try ((with_reducible refine .ext ?_);(conv=>whnf);(try simp only[jim,hmod,hi,e3])));(with_reducible refine jaa (r:=?_) ?_ ?_);rotate_left;(focus (first|fail));(conv=>whnf))|(((rewrite [pgT];(conv=>whnf)));(conv=>whnf))|(((rewrite [pgm];(conv=>whnf)));(conv=>whnf))|(((rewrite [pg];(conv=>whnf)));(conv=>whnf)));(try simp only[jim,hmod,hi,e3]))
   refine⟨(V.tk [0,1,2,3,4,5,6,7,8,9] (V.e1 10 [] .done)),[],V.pok,.go (jac ?_)⟩
   (conv=>whnf)
   (try simp only[jim,hmod,hi,e3])
   repeat ((first|refine V.s1 ?_|((try ((with_reducible refine .ext ?_);(conv=>whnf);(try simp only[jim,hmod,hi,e3])));(with_reducible refine jaa (r:=?_) ?_ ?_);rotate_left;(focus (first|fail));(conv=>whnf))|(((rewrite [w2];(conv=>whnf)));(conv=>whnf))|(((rewrite [w1];(conv=>whnf)));(conv=>whnf))|(((rewrite [pgT];(conv=>whnf)));(conv=>whnf))|(((rewrite [pgm];(conv=>whnf)));(conv=>whnf))|(((rewrite [pg];(conv=>whnf)));(conv=>whnf)));(try simp only[jim,hmod,hi,e3]))
   (conv=>whnf)
   refine And.intro (fun _=>⟨Int.le_refl _,by omega⟩) ?_
   (conv=>whnf)
   (try simp only[jim,hmod,hi,e3])
   repeat ((first|refine V.s1 ?_|((try ((with_reducible refine .ext ?_);(conv=>whnf);(try simp only[jim,hmod,hi,e3])));(with_reducible refine jaa (r:=?_) ?_ ?_);rotate_left;(focus (first|fail));(conv=>whnf))|(((rewrite [w2];(conv=>whnf)));(conv=>whnf))|(((rewrite [w1];(conv=>whnf)));(conv=>whnf))|(((rewrite [pgT];(conv=>whnf)));(conv=>whnf))|(((rewrite [pgm];(conv=>whnf)));(conv=>whnf))|(((rewrite [pg];(conv=>whnf)));(conv=>whnf)));(try simp only[jim,hmod,hi,e3]))
   obtain⟨M,hM⟩:∃ M,L2.set i ((T.getD 0 ([],[])).1,(T.getD 0 ([],[])).2)=M:=⟨_,rfl⟩
   have hMl:M.length=L2.length:=by rw[← hM,jjQ]
   have mT:∀ q∈T,okTx q:=fun q hq=>okTx_20 (sT q hq)
   have t0:T.getD 0 ([],[])∈T:=by
    rw[jjr,jju (show 0<T.length by omega)]
    exact jjv _
   have mM:∀ q∈M,okTx q:=fun q hq=>by
    rw[← hM] at hq
    rcases List.mem_or_eq_of_mem_set hq with g|rfl
    ·exact o2 q g
    ·exact mT _ t0
   rw[hM]
   have bokM:bslOk (tcl M) 0 L2.length 2=true:=by
    have h:=jeD M
    rw[hMl] at h
    exact h
   have pbM:=fun i c K=>jbI M i c K
   have pb2:=fun i c K=>jbI L2 i c K
   have pbT:=fun i c K=>jbI T i c K
   have pbm:=fun i c K=>jbI (List.take k X) i c K
   refine Lp.pub 195 ?_
   (conv=>whnf)
   repeat (first|(rewrite [bokM];(conv=>whnf))|(rewrite [pbM];(conv=>whnf))|(rewrite [pb2];(conv=>whnf))|(rewrite [pbT];(conv=>whnf))|(rewrite [pbm];(conv=>whnf)))
   try simp only[jiX]
   have fT:_root_.Go.V.Fin (slY (fun j=>T.getD j ([],[])) T.length) (.slf 2 k (fun q=>List.take 2 (List.drop (q*2) (tcl T)))):=by rw[← hT];exact jaZ T
   have fM:_root_.Go.V.Fin (slY (fun j=>M.getD j ([],[])) M.length) (.slf 2 L2.length (fun q=>List.take 2 (List.drop (q*2) (tcl M)))):=by rw[← hMl];exact jaZ M
   have al:∀ v,v<5→AlikeE zs data out (five (slT L0) (slT L1) (slT L2) (.slf 2 k (fun q=>List.take 2 (List.drop (q*2) (tcl T)))) (.slf 2 L2.length (fun q=>List.take 2 (List.drop (q*2) (tcl M)))) v):=fun v hv=>by
    rcases (show v=0∨v=1∨v=2∨v=3∨v=4 by omega) with rfl|rfl|rfl|rfl|rfl
    ·exact jbn zz3 (by omega) (by omega) L0 o0 (jaZ L0)
    ·exact jbn zz3 (by omega) (by omega) L1 o1 (jaZ L1)
    ·exact jbn zz3 (by omega) (by omega) L2 o2 (jaZ L2)
    ·exact jbn zz3 (by omega) (by omega) T mT fT
    ·exact jbn zz3 (by omega) (by omega) M mM fM
   refine jad (0:Nat) (fun v=>v≤5) (fun v=>5-v) (fun v=>[(122,.int .i64 (v:Nat))]) (fun _=>[]) ?_ ?_ ?_
   ·exact V.wk
   ·exact jiT _
   intro v hv
   try dsimp only at hv ⊢
   by_cases h5:v=5
   ·subst h5
    refine V.r0 @ji0 ?_
    exact⟨1,by omega,by omega,V.wk⟩
   obtain⟨bl,ol,w,wn,e,y,yn,h,hl,hw,hy,d1,d2,d3,d4⟩:=al v (by omega)
   have q1:=eqi_c bl hl.1
   have q2:=eqi_c ol hl.2
   have q3:=eqs_q w wn hw
   have q4:=eqs_q y yn hy
   rcases (show v=0∨v=1∨v=2∨v=3∨v=4 by omega) with rfl|rfl|rfl|rfl|rfl
   all_goals
    (conv=>whnf)
    (try simp only[jid])
    repeat ((first|refine V.s1 ?_|((try ((with_reducible refine .ext ?_);(conv=>whnf);(try simp only[jid])));(with_reducible refine jaa (r:=?_) ?_ ?_);rotate_left;(focus (first|exact(d1)|exact(d2)|exact(d3)|exact(d4)));(conv=>whnf))|((refine⟨_,fun _=>q1,?_⟩);(conv=>whnf))|((refine⟨_,fun _=>q2,?_⟩);(conv=>whnf))|((refine⟨_,fun _=>q3,?_⟩);(conv=>whnf))|((refine⟨_,fun _=>q4,?_⟩);(conv=>whnf)));(try simp only[jid]))
    refine Cnd.no (by simp) ?_
    refine V.r0 @ji0 ?_
   ·exact⟨1,by omega,by omega,V.wk⟩
   ·exact⟨2,by omega,by omega,V.wk⟩
   ·exact⟨3,by omega,by omega,V.wk⟩
   ·exact⟨4,by omega,by omega,V.wk⟩
   ·exact⟨5,by omega,by omega,V.wk⟩
  ·obtain⟨L0,L1,L2,⟨n0,n1,n2⟩,o0,o1,o2,cc⟩:=jet (n:=gz.length) (by omega) b1 b2 p1 p2 ha hz1 hz2
   have cl:∀ K,catF 2 (fun j=>List.take 2 (List.drop (j*2) (tcl L2))) L2.length [] K=K (tcl L2):=fun K=>by rw[jf0 L2 K L2.length [] (ji1 _),jjH,jjT]
   have pu:=jcX L2
   have fr:=jgJ L2
   have pg:=jeC L2
   have hb0:Nat.beq L2.length 0=false:=by
    cases e:Nat.beq L2.length 0 with
    | false=>rfl
    | true=>have:=jiQ e;omega
   have hz:Nat.ble L2.length 1000000=true:=by rw[Nat.ble_eq];omega
   unfold slT at cc
   (conv=>whnf)
   (try simp only[jiK,fr,hz])
   repeat ((first|refine V.s1 ?_|((try ((with_reducible refine .ext ?_);(conv=>whnf);(try simp only[jiK,fr,hz])));(with_reducible refine jaa (r:=?_) ?_ ?_);rotate_left;(focus (first|exact(cc)));(conv=>whnf))|(((rewrite [pgT];(conv=>whnf)));(conv=>whnf))|(((rewrite [pgm];(conv=>whnf)));(conv=>whnf)));(try simp only[jiK,fr,hz]))
   refine .inl ?_
   (conv=>whnf)
   refine⟨0,_,_,⟨Tryz.func10,rfl,rfl,jiS rfl⟩,?_⟩
   (conv=>whnf)
   (conv=>whnf)
   (try simp only[jiK,fr,hz])
   repeat ((first|refine V.s1 ?_|((try ((with_reducible refine .ext ?_);(conv=>whnf);(try simp only[jiK,fr,hz])));(with_reducible refine jaa (r:=?_) ?_ ?_);rotate_left;(focus (first|fail));(conv=>whnf))|(((rewrite [hb0];(conv=>whnf)));(conv=>whnf))|(((rewrite [cl];(conv=>whnf)));(conv=>whnf))|(((rewrite [pu];(conv=>whnf)));(conv=>whnf))|(((rewrite [pg];(conv=>whnf)));(conv=>whnf))|(((rewrite [pgT];(conv=>whnf)));(conv=>whnf))|(((rewrite [pgm];(conv=>whnf)));(conv=>whnf)));(try simp only[jiK,fr,hz]))
   refine Cnd.yes (by simp;omega) ?_
   obtain⟨i,hi⟩:∃ i:Nat,kb%(L2.length:Int)=(i:Int):=⟨(kb%(L2.length:Int)).toNat,by have:=jiU kb (show (L2.length:Int)≠0 by omega);omega⟩
   have hi2:i<L2.length:=by have:=jji kb (show (0:Int)<L2.length by omega);omega
   have hmod:kb.tmod (L2.length:Int)=(i:Int):=by rw[Int.tmod_eq_emod_of_nonneg hk8.1,hi]
   have e3:List.take 2 (List.drop 0 (tcl T))=[.str (T.getD 0 ([],[])).1,.str (T.getD 0 ([],[])).2]:=jfE T 0 (by omega)
   have w1:∀ s t K,jaJ (tcl L2) (i*2) [.str s,.str t] K=K (tcl (L2.set i (s,t))):=fun s t K=>jeB s t K L2 i hi2
   have w2:∀ s t K,jaJ (tcl L2) (0+i*2) [.str s,.str t] K=K (tcl (L2.set i (s,t))):=fun s t K=>by rw[jiX];exact jeB s t K L2 i hi2
   (conv=>whnf)
   (try simp only[jim,hmod,hi,e3])
   repeat ((first|refine V.s1 ?_|((try ((with_reducible refine .ext ?_);(conv=>whnf);(try simp only[jim,hmod,hi,e3])));(with_reducible refine jaa (r:=?_) ?_ ?_);rotate_left;(focus (first|fail));(conv=>whnf))|(((rewrite [pgT];(conv=>whnf)));(conv=>whnf))|(((rewrite [pgm];(conv=>whnf)));(conv=>whnf))|(((rewrite [pg];(conv=>whnf)));(conv=>whnf)));(try simp only[jim,hmod,hi,e3]))
   refine⟨(V.tk [0,1,2,3,4,5,6,7,8,9] (V.e1 10 [] .done)),[],V.pok,.go (jac ?_)⟩
   (conv=>whnf)
   (try simp only[jim,hmod,hi,e3])
   repeat ((first|refine V.s1 ?_|((try ((with_reducible refine .ext ?_);(conv=>whnf);(try simp only[jim,hmod,hi,e3])));(with_reducible refine jaa (r:=?_) ?_ ?_);rotate_left;(focus (first|fail));(conv=>whnf))|(((rewrite [w2];(conv=>whnf)));(conv=>whnf))|(((rewrite [w1];(conv=>whnf)));(conv=>whnf))|(((rewrite [pgT];(conv=>whnf)));(conv=>whnf))|(((rewrite [pgm];(conv=>whnf)));(conv=>whnf))|(((rewrite [pg];(conv=>whnf)));(conv=>whnf)));(try simp only[jim,hmod,hi,e3]))
   (conv=>whnf)
   refine And.intro (fun _=>⟨Int.le_refl _,by omega⟩) ?_
   (conv=>whnf)
   (try simp only[jim,hmod,hi,e3])
   repeat ((first|refine V.s1 ?_|((try ((with_reducible refine .ext ?_);(conv=>whnf);(try simp only[jim,hmod,hi,e3])));(with_reducible refine jaa (r:=?_) ?_ ?_);rotate_left;(focus (first|fail));(conv=>whnf))|(((rewrite [w2];(conv=>whnf)));(conv=>whnf))|(((rewrite [w1];(conv=>whnf)));(conv=>whnf))|(((rewrite [pgT];(conv=>whnf)));(conv=>whnf))|(((rewrite [pgm];(conv=>whnf)));(conv=>whnf))|(((rewrite [pg];(conv=>whnf)));(conv=>whnf)));(try simp only[jim,hmod,hi,e3]))
   obtain⟨M,hM⟩:∃ M,L2.set i ((T.getD 0 ([],[])).1,(T.getD 0 ([],[])).2)=M:=⟨_,rfl⟩
   have hMl:M.length=L2.length:=by rw[← hM,jjQ]
   have mT:∀ q∈T,okTx q:=fun q hq=>okTx_20 (sT q hq)
   have t0:T.getD 0 ([],[])∈T:=by
    rw[jjr,jju (show 0<T.length by omega)]
    exact jjv _
   have mM:∀ q∈M,okTx q:=fun q hq=>by
    rw[← hM] at hq
    rcases List.mem_or_eq_of_mem_set hq with g|rfl
    ·exact o2 q g
    ·exact mT _ t0
   rw[hM]
   have bokM:bslOk (tcl M) 0 L2.length 2=true:=by
    have h:=jeD M
    rw[hMl] at h
    exact h
   have pbM:=fun i c K=>jbI M i c K
   have pb2:=fun i c K=>jbI L2 i c K
   have pbT:=fun i c K=>jbI T i c K
   have pbm:=fun i c K=>jbI (List.take k X) i c K
   refine Lp.pub 195 ?_
   (conv=>whnf)
   repeat (first|(rewrite [bokM];(conv=>whnf))|(rewrite [pbM];(conv=>whnf))|(rewrite [pb2];(conv=>whnf))|(rewrite [pbT];(conv=>whnf))|(rewrite [pbm];(conv=>whnf)))
   try simp only[jiX]
   have fT:_root_.Go.V.Fin (slY (fun j=>T.getD j ([],[])) T.length) (.slf 2 k (fun q=>List.take 2 (List.drop (q*2) (tcl T)))):=by rw[← hT];exact jaZ T
   have fM:_root_.Go.V.Fin (slY (fun j=>M.getD j ([],[])) M.length) (.slf 2 L2.length (fun q=>List.take 2 (List.drop (q*2) (tcl M)))):=by rw[← hMl];exact jaZ M
   have al:∀ v,v<5→AlikeE gz data go (five (slT L0) (slT L1) (slT L2) (.slf 2 k (fun q=>List.take 2 (List.drop (q*2) (tcl T)))) (.slf 2 L2.length (fun q=>List.take 2 (List.drop (q*2) (tcl M)))) v):=fun v hv=>by
    rcases (show v=0∨v=1∨v=2∨v=3∨v=4 by omega) with rfl|rfl|rfl|rfl|rfl
    ·exact jbn gz3 (by omega) (by omega) L0 o0 (jaZ L0)
    ·exact jbn gz3 (by omega) (by omega) L1 o1 (jaZ L1)
    ·exact jbn gz3 (by omega) (by omega) L2 o2 (jaZ L2)
    ·exact jbn gz3 (by omega) (by omega) T mT fT
    ·exact jbn gz3 (by omega) (by omega) M mM fM
   refine jad (0:Nat) (fun v=>v≤5) (fun v=>5-v) (fun v=>[(122,.int .i64 (v:Nat))]) (fun _=>[]) ?_ ?_ ?_
   ·exact V.wk
   ·exact jiT _
   intro v hv
   try dsimp only at hv ⊢
   by_cases h5:v=5
   ·subst h5
    refine V.r0 @ji0 ?_
    exact⟨2,by omega,by omega,V.wk⟩
   obtain⟨bl,ol,w,wn,e,y,yn,h,hl,hw,hy,d1,d2,d3,d4⟩:=al v (by omega)
   have q1:=eqi_c bl hl.1
   have q2:=eqi_c ol hl.2
   have q3:=eqs_q w wn hw
   have q4:=eqs_q y yn hy
   rcases (show v=0∨v=1∨v=2∨v=3∨v=4 by omega) with rfl|rfl|rfl|rfl|rfl
   all_goals
    (conv=>whnf)
    (try simp only[jid])
    repeat ((first|refine V.s1 ?_|((try ((with_reducible refine .ext ?_);(conv=>whnf);(try simp only[jid])));(with_reducible refine jaa (r:=?_) ?_ ?_);rotate_left;(focus (first|exact(d1)|exact(d2)|exact(d3)|exact(d4)));(conv=>whnf))|((refine⟨_,fun _=>q1,?_⟩);(conv=>whnf))|((refine⟨_,fun _=>q2,?_⟩);(conv=>whnf))|((refine⟨_,fun _=>q3,?_⟩);(conv=>whnf))|((refine⟨_,fun _=>q4,?_⟩);(conv=>whnf)));(try simp only[jid]))
    refine Cnd.no (by simp) ?_
    refine V.r0 @ji0 ?_
   ·exact⟨1,by omega,by omega,V.wk⟩
   ·exact⟨2,by omega,by omega,V.wk⟩
   ·exact⟨3,by omega,by omega,V.wk⟩
   ·exact⟨4,by omega,by omega,V.wk⟩
   ·exact⟨5,by omega,by omega,V.wk⟩
  ·refine V.r0 (V.a2 @k2 @ji0) ?_
   exact Fin.of rfl
theorem zX98_0:type_of% @ji0∧type_of% @jjE ∧ type_of% @jiX∧type_of% @k0:=⟨@ji0,@jjE,@jiX,@k0⟩
theorem jic:type_of% @ji0∧type_of% @jiX:=⟨@ji0,@jiX⟩
theorem zX98_2:type_of% @ji0∧type_of% @jjE ∧ type_of% @jiX∧type_of% @k1:=⟨@ji0,@jjE,@jiX,@k1⟩
theorem cells_0 (ds:List Int)(o:Int)(vals:List Int)(sm:Bool)(kb:Int)(a z1 z2:Nat→Int)(b1 b2:Nat→Bool)(p1 p2:Nat→List Int)(zs data:List Int)(out:Int)(hk8:0≤kb∧kb≤255)(hzl:1≤zs.length∧zs.length≤3)(hg:jak zs out data=true)(ha:∀ i, -32768≤a i∧a i≤32767)(hz1:∀ i,0≤z1 i∧z1 i≤65535)(hz2:∀ i,0≤z2 i∧z2 i≤65535)
  (wk:Cl 6 [] (.bool true)) (gd:Cl 7 [.agg [.ints .u8 ds,.int .u8 o,.ints .u16 vals,.bool sm]] (.agg [.ints .i64 zs,.int .i64 out,.ints .i64 data])) :
  Cl 3 [.agg [.ints .u8 ds,.int .u8 o,.ints .u16 vals,.bool sm],.int .u8 kb,(colD a z1 z2 b1 b2 p1 p2),V.sl2 0 []] (.bool true):=by
 have bn:=bent_c zs data out kb hk8 (by omega)
 refine V.en tbOk Tryz.func3 ?_
 refine V.r1 (V.a3 @ji0 @jiY @jiX) wk ?_
 refine jad ((0:Nat)) (fun k=>k≤0) (fun k=>0-k) (fun k=>[(39,.int .i64 k)]) (fun k=>[]) ?_ ?_ ?_
 ·exact V.wk
 ·exact jiT _
 intro k hk
 obtain rfl:k=0:=by omega
 refine V.r2 @ji0 gd bn ?_
 refine⟨Pq78z,[],V.pok,.go (jac ?_)⟩
 refine V.r2 @ji0 gd bn ?_
 refine Lp.pub 30 ?_
 (conv=>whnf)
 obtain⟨gz,egz⟩:∃ gz,bentZ kb zs=gz:=⟨_,rfl⟩
 obtain⟨go,ego⟩:∃ go,bentO kb out=go:=⟨_,rfl⟩
 have gl:1≤gz.length∧gz.length≤4:=by
  rw[← egz]
  unfold bentZ
  split
  ·rw[jjG];omega
  ·omega
 have gz3:jak gz go data=true→gz.length=1∨gz.length=2∨gz.length=3:=fun h=>by
  rcases bent_bad (k:=kb) hg with⟨e1,_⟩|e1
  ·rw[egz] at e1;rw[e1];omega
  ·rw[egz,ego,h] at e1;cases e1
 have zz3:jak zs out data=true→zs.length=1∨zs.length=2∨zs.length=3:=fun _=>by omega
 have og:=jav hg
 rw[egz,ego]
 refine jad (0:Nat) (fun k=>k≤2) (fun k=>2-k) (fun k=>[(84,.int .i64 (k:Nat))]) (fun _=>[]) ?_ ?_ ?_
 ·exact V.wk
 ·exact jiT _
 intro g hg2
 try dsimp only at hg2 ⊢
 have hg3:g=0∨g=1∨g=2:=by omega
 rcases hg3 with e|e|e
 all_goals subst e
 ·obtain⟨L0,L1,L2,⟨n0,n1,n2⟩,o0,o1,o2,cc⟩:=jet (n:=zs.length) (by omega) b1 b2 p1 p2 ha hz1 hz2
  have cl:∀ K,catF 2 (fun j=>List.take 2 (List.drop (j*2) (tcl L2))) L2.length [] K=K (tcl L2):=fun K=>by rw[jf0 L2 K L2.length [] (ji1 _),jjH,jjT]
  have pu:=jcX L2
  have fr:=jgJ L2
  have pg:=jeC L2
  have hb0:Nat.beq L2.length 0=false:=by
   cases e:Nat.beq L2.length 0 with
   | false=>rfl
   | true=>have:=jiQ e;omega
  have hz:Nat.ble L2.length 1000000=true:=by rw[Nat.ble_eq];omega
  unfold slT at cc
  refine V.r1 (V.a3 zX98_0 fr hz) cc ?_
  refine .inl ?_
  (conv=>whnf)
  refine⟨0,_,_,⟨Tryz.func10,rfl,rfl,jiS rfl⟩,?_⟩
  (conv=>whnf)
  (conv=>whnf)
  (try simp only[zX98_0,fr,hz])
  repeat ((first|refine V.s1 ?_|((try ((with_reducible refine .ext ?_);(conv=>whnf);(try simp only[zX98_0,fr,hz])));(with_reducible refine jaa (r:=?_) ?_ ?_);rotate_left;(focus (first|fail));(conv=>whnf))|(((rewrite [hb0];(conv=>whnf)));(conv=>whnf))|(((rewrite [cl];(conv=>whnf)));(conv=>whnf))|(((rewrite [pu];(conv=>whnf)));(conv=>whnf))|(((rewrite [pg];(conv=>whnf)));(conv=>whnf)));(try simp only[zX98_0,fr,hz]))
  refine Cnd.no (by simp) ?_
  (conv=>whnf)
  (try simp only[jic])
  repeat ((first|refine V.s1 ?_|((try ((with_reducible refine .ext ?_);(conv=>whnf);(try simp only[jic])));(with_reducible refine jaa (r:=?_) ?_ ?_);rotate_left;(focus (first|fail));(conv=>whnf))|(((rewrite [pg];(conv=>whnf)));(conv=>whnf)));(try simp only[jic]))
  have bokM:=jeD L2
  have pb2:=fun i c K=>jbI L2 i c K
  refine Lp.pub 195 ?_
  (conv=>whnf)
  repeat (first|(rewrite [bokM];(conv=>whnf))|(rewrite [pb2];(conv=>whnf)))
  try simp only[jiX]
  have fT:_root_.Go.V.Fin (slY (fun j=>([]:List Tx).getD j ([],[])) ([]:List Tx).length) (.slf 2 0 (fun q=>List.take 2 (List.drop (q*2) []))):=jbt (fun j hj=>absurd hj (Nat.not_lt_zero _))
  have al:∀ v,v<5→AlikeE zs data out (five (slT L0) (slT L1) (slT L2) (.slf 2 0 (fun q=>List.take 2 (List.drop (q*2) []))) (slT L2) v):=fun v hv=>by
   rcases (show v=0∨v=1∨v=2∨v=3∨v=4 by omega) with rfl|rfl|rfl|rfl|rfl
   ·exact jbn zz3 (by omega) (by omega) L0 o0 (jaZ L0)
   ·exact jbn zz3 (by omega) (by omega) L1 o1 (jaZ L1)
   ·exact jbn zz3 (by omega) (by omega) L2 o2 (jaZ L2)
   ·exact jbn zz3 (by omega) (by omega) [] (fun q hq=>by cases hq) fT
   ·exact jbn zz3 (by omega) (by omega) L2 o2 (jaZ L2)
  refine jad (0:Nat) (fun v=>v≤5) (fun v=>5-v) (fun v=>[(122,.int .i64 (v:Nat))]) (fun _=>[]) ?_ ?_ ?_
  ·exact V.wk
  ·exact jiT _
  intro v hv
  try dsimp only at hv ⊢
  by_cases h5:v=5
  ·subst h5
   refine V.r0 @ji0 ?_
   exact⟨1,by omega,by omega,V.wk⟩
  obtain⟨bl,ol,w,wn,e,y,yn,h,hl,hw,hy,d1,d2,d3,d4⟩:=al v (by omega)
  have q1:=eqi_c bl hl.1
  have q2:=eqi_c ol hl.2
  have q3:=eqs_q w wn hw
  have q4:=eqs_q y yn hy
  rcases (show v=0∨v=1∨v=2∨v=3∨v=4 by omega) with rfl|rfl|rfl|rfl|rfl
  all_goals
   (conv=>whnf)
   (try simp only[jic])
   repeat ((first|refine V.s1 ?_|((try ((with_reducible refine .ext ?_);(conv=>whnf);(try simp only[jic])));(with_reducible refine jaa (r:=?_) ?_ ?_);rotate_left;(focus (first|exact(d1)|exact(d2)|exact(d3)|exact(d4)));(conv=>whnf))|((refine⟨_,fun _=>q1,?_⟩);(conv=>whnf))|((refine⟨_,fun _=>q2,?_⟩);(conv=>whnf))|((refine⟨_,fun _=>q3,?_⟩);(conv=>whnf))|((refine⟨_,fun _=>q4,?_⟩);(conv=>whnf)));(try simp only[jic]))
   refine Cnd.no (by simp) ?_
   refine V.r0 @ji0 ?_
  ·exact⟨1,by omega,by omega,V.wk⟩
  ·exact⟨2,by omega,by omega,V.wk⟩
  ·exact⟨3,by omega,by omega,V.wk⟩
  ·exact⟨4,by omega,by omega,V.wk⟩
  ·exact⟨5,by omega,by omega,V.wk⟩
 ·obtain⟨L0,L1,L2,⟨n0,n1,n2⟩,o0,o1,o2,cc⟩:=jet (n:=gz.length) (by omega) b1 b2 p1 p2 ha hz1 hz2
  have cl:∀ K,catF 2 (fun j=>List.take 2 (List.drop (j*2) (tcl L2))) L2.length [] K=K (tcl L2):=fun K=>by rw[jf0 L2 K L2.length [] (ji1 _),jjH,jjT]
  have pu:=jcX L2
  have fr:=jgJ L2
  have pg:=jeC L2
  have hb0:Nat.beq L2.length 0=false:=by
   cases e:Nat.beq L2.length 0 with
   | false=>rfl
   | true=>have:=jiQ e;omega
  have hz:Nat.ble L2.length 1000000=true:=by rw[Nat.ble_eq];omega
  unfold slT at cc
  refine V.r1 (V.a3 zX98_2 fr hz) cc ?_
  refine .inl ?_
  (conv=>whnf)
  refine⟨0,_,_,⟨Tryz.func10,rfl,rfl,jiS rfl⟩,?_⟩
  (conv=>whnf)
  (conv=>whnf)
  (try simp only[zX98_2,fr,hz])
  repeat ((first|refine V.s1 ?_|((try ((with_reducible refine .ext ?_);(conv=>whnf);(try simp only[zX98_2,fr,hz])));(with_reducible refine jaa (r:=?_) ?_ ?_);rotate_left;(focus (first|fail));(conv=>whnf))|(((rewrite [hb0];(conv=>whnf)));(conv=>whnf))|(((rewrite [cl];(conv=>whnf)));(conv=>whnf))|(((rewrite [pu];(conv=>whnf)));(conv=>whnf))|(((rewrite [pg];(conv=>whnf)));(conv=>whnf)));(try simp only[zX98_2,fr,hz]))
  refine Cnd.no (by simp) ?_
  (conv=>whnf)
  (try simp only[jic])
  repeat ((first|refine V.s1 ?_|((try ((with_reducible refine .ext ?_);(conv=>whnf);(try simp only[jic])));(with_reducible refine jaa (r:=?_) ?_ ?_);rotate_left;(focus (first|fail));(conv=>whnf))|(((rewrite [pg];(conv=>whnf)));(conv=>whnf)));(try simp only[jic]))
  have bokM:=jeD L2
  have pb2:=fun i c K=>jbI L2 i c K
  refine Lp.pub 195 ?_
  (conv=>whnf)
  repeat (first|(rewrite [bokM];(conv=>whnf))|(rewrite [pb2];(conv=>whnf)))
  try simp only[jiX]
  have fT:_root_.Go.V.Fin (slY (fun j=>([]:List Tx).getD j ([],[])) ([]:List Tx).length) (.slf 2 0 (fun q=>List.take 2 (List.drop (q*2) []))):=jbt (fun j hj=>absurd hj (Nat.not_lt_zero _))
  have al:∀ v,v<5→AlikeE gz data go (five (slT L0) (slT L1) (slT L2) (.slf 2 0 (fun q=>List.take 2 (List.drop (q*2) []))) (slT L2) v):=fun v hv=>by
   rcases (show v=0∨v=1∨v=2∨v=3∨v=4 by omega) with rfl|rfl|rfl|rfl|rfl
   ·exact jbn gz3 (by omega) (by omega) L0 o0 (jaZ L0)
   ·exact jbn gz3 (by omega) (by omega) L1 o1 (jaZ L1)
   ·exact jbn gz3 (by omega) (by omega) L2 o2 (jaZ L2)
   ·exact jbn gz3 (by omega) (by omega) [] (fun q hq=>by cases hq) fT
   ·exact jbn gz3 (by omega) (by omega) L2 o2 (jaZ L2)
  refine jad (0:Nat) (fun v=>v≤5) (fun v=>5-v) (fun v=>[(122,.int .i64 (v:Nat))]) (fun _=>[]) ?_ ?_ ?_
  ·exact V.wk
  ·exact jiT _
  intro v hv
  try dsimp only at hv ⊢
  by_cases h5:v=5
  ·subst h5
   refine V.r0 @ji0 ?_
   exact⟨2,by omega,by omega,V.wk⟩
  obtain⟨bl,ol,w,wn,e,y,yn,h,hl,hw,hy,d1,d2,d3,d4⟩:=al v (by omega)
  have q1:=eqi_c bl hl.1
  have q2:=eqi_c ol hl.2
  have q3:=eqs_q w wn hw
  have q4:=eqs_q y yn hy
  rcases (show v=0∨v=1∨v=2∨v=3∨v=4 by omega) with rfl|rfl|rfl|rfl|rfl
  all_goals
   (conv=>whnf)
   (try simp only[jic])
   repeat ((first|refine V.s1 ?_|((try ((with_reducible refine .ext ?_);(conv=>whnf);(try simp only[jic])));(with_reducible refine jaa (r:=?_) ?_ ?_);rotate_left;(focus (first|exact(d1)|exact(d2)|exact(d3)|exact(d4)));(conv=>whnf))|((refine⟨_,fun _=>q1,?_⟩);(conv=>whnf))|((refine⟨_,fun _=>q2,?_⟩);(conv=>whnf))|((refine⟨_,fun _=>q3,?_⟩);(conv=>whnf))|((refine⟨_,fun _=>q4,?_⟩);(conv=>whnf)));(try simp only[jic]))
   refine Cnd.no (by simp) ?_
   refine V.r0 @ji0 ?_
  ·exact⟨1,by omega,by omega,V.wk⟩
  ·exact⟨2,by omega,by omega,V.wk⟩
  ·exact⟨3,by omega,by omega,V.wk⟩
  ·exact⟨4,by omega,by omega,V.wk⟩
  ·exact⟨5,by omega,by omega,V.wk⟩
 ·refine V.r0 (V.a2 @k2 @ji0) ?_
  exact Fin.of rfl
theorem value_t (zs data:List Int)(out:Int)(n:Nat)(X:Nat→List D)(Y:Nat→Tx)(ev:Cl 13 [.agg [.ints .i64 zs,.int .i64 out,.ints .i64 data],.slf 2 n X] (.tup [V.sl2 1 [.str (Y 0).1,.str (Y 0).2],.int .i64 0])) :
  Cl 31 [.agg [.ints .i64 zs,.int .i64 out,.ints .i64 data],.agg [.str (Y 0).1,.str (Y 0).2],.slf 2 n X] (.bool true):=by
 have q:=eqf1 Y
 refine V.en tbOk Tryz.func31 ?_
 refine V.r2 @jiX ev q ?_
 exact Fin.of rfl
end Go.Proofs.YtbnghipgicmpdaaGreatDoor
end
section
namespace Go.Proofs.YtbnghipgicmpdaaGreatDoor
open Go Go.V Go.Nb Go.Gr
def cnP (out:Int)(ns:List Nat):Nat→Int
 | 0=>out
 | k+1=>cnP out ns k*(ns.getD k 1:Nat)
theorem cnP_bd {out:Int}{ns:List Nat}(ho:1≤out∧out≤4)(h2:∀ n∈ns,2≤n∧n≤9):∀ k,1≤cnP out ns k∧cnP out ns k≤4*9^k
 | 0=>by simp only[cnP];omega
 | k+1=>by
  have ih:=cnP_bd ho h2 k
  have hb:1≤ns.getD k 1∧ns.getD k 1≤9:=by
   rw[jjr]
   cases h:ns[k]? with
   | none=>simp
   | some n=>have:=h2 n (jjw h);simp;omega
  simp only[cnP,Int.pow_succ]
  generalize ns.getD k 1=b at hb
  generalize (9:Int)^k=p at ih
  have h1:cnP out ns k*1≤cnP out ns k*(b:Int):=jje (by omega) (by omega)
  have h3:cnP out ns k*(b:Int)≤cnP out ns k*9:=jje (by omega) (by omega)
  omega
theorem rpow9 (k:Nat)(h:k≤4):(4:Int)*9^k≤26244:=by
 have:k=0∨k=1∨k=2∨k=3∨k=4:=by omega
 rcases this with rfl|rfl|rfl|rfl|rfl<;>decide
theorem wce_at (Y:Nat→Tx):∀ n k,k<n→List.take 2 (List.drop (k*2) (wce Y n))=[.str (Y k).1,.str (Y k).2]
 | 0,k,h=>absurd h (Nat.not_lt_zero _)
 | n+1,k,h=>by
  have hl:∀ n,(wce Y n).length=n*2:=fun n=>by
   induction n with
   | zero=>rfl
   | succ n ih=>simp only[wce,jjx,ih];simp;omega
  rw[wce]
  rcases ji8 k n with g|g
  ·have ih:=wce_at Y n k g
   rw[List.drop_append_of_le_length (by rw[hl];omega),jjF (by rw[jjN,hl];omega),ih]
  ·have:k=n:=by omega
   subst this
   rw[List.drop_append,jjK (by rw[hl];omega),hl,Nat.sub_self]
   rfl
theorem jhx (sz:List Int):Cl 60 [.ints .i64 sz] (.fn 114 [] [.ref [.ints .i64 sz]]):=by
 refine V.en tbOk Tryz.func60 ?_
 refine V.r0 @jiX ?_
 exact Fin.of rfl
theorem jf9 (g:Nat→Int){o k:Nat}(h:k<o):((List.range o).map g).take (k+1)=((List.range o).map g).take k++[g k]:=by
 rw[jjS]
 congr 1
 simp[h]
theorem jit:type_of% @ji0∧type_of% @jiX∧type_of% @tn0∧type_of% @tn1∧type_of% @tn2∧type_of% @tn3∧type_of% @xt4:=⟨@ji0,@jiX,@tn0,@tn1,@tn2,@tn3,@xt4⟩
theorem zX45_1:type_of% @ji0∧type_of% @jiX:=⟨@ji0,@jiX⟩
theorem zX45_2:type_of% @ji0∧type_of% @jjO ∧ type_of% @List.take_succ_cons.{0} ∧ type_of% @List.take_zero.{0} ∧ type_of% @jiX∧type_of% @tn0∧type_of% @tn1∧type_of% @tn2∧type_of% @tn3∧type_of% @xt4:=⟨@ji0,@jjO,@List.take_succ_cons.{0},@List.take_zero.{0},@jiX,@tn0,@tn1,@tn2,@tn3,@xt4⟩
theorem refine2_t (zs data:List Int)(out:Int)(ns:List Nat)(X Y:Nat→Nat→Tx)(W:Nat→Nat→Int)(hl:zs.length=2)(hn:ns.length=2)(h2:∀ n∈ns,2≤n∧n≤9)(ho:1≤out∧out≤4)(hc:cnP out ns 2≤4096)
  (gr:Cl 58 [.agg [.ints .i64 zs,.int .i64 out,.ints .i64 data]] (.int .i64 0))
  (ov:∀ m i,m<PR ns→i<2→Cl 51 [.int .i64 ((pad4 (ixl ns m)).getD i 0),.int .i64 ((nz ns).getD i 0-1)] (.agg [.str (X m i).1,.str (X m i).2]))
  (ev:∀ m,m<PR ns→Cl 13 [.agg [.ints .i64 zs,.int .i64 out,.ints .i64 data],V.sl2 2 [.str (X m 0).1,.str (X m 0).2,.str (X m 1).1,.str (X m 1).2]] (.tup [.slf 2 out.toNat (fun j=>List.take 2 (List.drop (j*2) (wce (Y m) out.toNat))),.int .i64 0]))
  (nr:∀ m j,m<PR ns→j<out.toNat→Cl 61 [.agg [.str (Y m j).1,.str (Y m j).2],.int .i64 65535] (.tup [.int .i64 (W m j),.int .i64 0])) :
  Cl 26 [.agg [.ints .i64 zs,.int .i64 out,.ints .i64 data],.ints .i64 (nz ns)] (.tup [.agg [.ints .i64 (nz ns),.int .i64 out,.ints .i64 (flat ns (fun m=>(List.range out.toNat).map (W m)) (PR ns))],.int .i64 0]):=by
 have hlen:(nz ns).length=ns.length:=by simp[nz]
 have hlz:(nz ns).length=2:=by rw[hlen,hn]
 have hli:((nz ns).length:Int)=2:=by rw[hlz];rfl
 have hz:((zs.length:Nat):Int)=2:=by rw[hl];rfl
 have h1:1≤ns.length∧ns.length≤4:=by omega
 have po:=jhx (nz ns)
 have cl:=clone_c (nz ns) (by omega)
 have hcb:=cnP_bd ho h2
 refine V.en tbOk Tryz.func26 ?_
 refine V.r1 jit gr ?_
 refine Cnd.split (CondB.mk (fun h=>absurd h (by rw[hl,hlz];simp)) (fun _=>?_))
 refine V.r0 jit ?_
 refine lp_go (ns.length) (fun k=>True) (fun k=>[(38,.int .i64 k),(7,.int .i64 (cnP out ns k))]) (fun k=>[]) V.wk ?_ ?_
 ·trivial
 intro k hk _
 have hck:=hcb k
 have hck1:=hcb (k+1)
 have hk9:(4:Int)*9^k≤26244:=rpow9 k (by omega)
 (conv=>whnf)
 refine V.st ?_
 refine V.br (fun h=>?_) (fun h=>?_)
 ·rw[hlen] at h
  simp only[decide_eq_true_eq] at h
  have hk1:k<ns.length:=by omega
  have hk91:(4:Int)*9^(k+1)≤26244:=rpow9 (k+1) (by omega)
  obtain⟨n,hnk⟩:∃ n,ns[k]? = some n:=⟨ns[k],jju hk1⟩
  have hn0:=h2 n (jjw hnk)
  have en:(nz ns).getD k 0=n:=by simp[nz,jjr,hnk]
  have ec:cnP out ns (k+1)=cnP out ns k*(n:Int):=by simp[cnP,jjr,hnk]
  rw[ec] at hck1
  refine V.r0 (V.a2 jit @en) ?_
  refine Cnd.split (CondB.mk (fun h=>absurd h (by simp;omega)) (fun _=>?_))
  (conv=>whnf)
  (try simp only[jit,en,← ec])
  repeat ((first|refine V.s1 ?_);(try simp only[jit,en,← ec]))
  exact⟨k+1,⟨by omega,trivial⟩,by omega,V.wk⟩
 ·rw[hlen] at h
  simp only[decide_eq_false_iff_not] at h
  have hk1:k=2:=by omega
  subst hk1
  clear hck hck1
  refine V.r0 jit ?_
  refine Cnd.split (CondB.mk (fun h=>absurd h (by simp;omega)) (fun _=>?_))
  refine V.r0 jit ?_
  refine⟨(V.tk [0,2,3] (.ev (.cons 1 [3,2] (V.tk [4] (V.e1 5 [4,3,2] (V.e1 6 [] .done))) (.cons 5 [3,2,0] (V.e1 1 [3,2] (V.tk [4] (V.e1 6 [] .done))) .nil)))),[],V.pok,?_⟩
  refine jab [(10,.box 10 0)] [(10,.box [.ints .i64 (nz ns),.int .i64 out,.nil])] ?_ ?_
  ·exact V.d1 jit cl
  refine V.r1 jit po ?_
  refine⟨_,_,⟨Tryz.func114,rfl,rfl,jiS rfl⟩,?_⟩
  refine V.r0 @jiX ?_
  refine lp_go (ns.length) (fun k=>True) (fun k=>[(10,.int .i64 k)]) (fun k=>[(122,.arr .i64 (pad4 ((lastL ns).take k)))]) V.wk ?_ ?_
  ·trivial
  intro k hk _
  (conv=>whnf)
  refine V.st ?_
  refine V.br (fun h=>?_) (fun h=>?_)
  ·rw[hlen] at h
   simp only[decide_eq_true_eq] at h
   have hk1:k<ns.length:=by omega
   obtain⟨n,hnk⟩:∃ n,ns[k]? = some n:=⟨ns[k],jju hk1⟩
   have hn0:=h2 n (jjw hnk)
   have en:(nz ns).getD k 0=n:=by simp[nz,jjr,hnk]
   have hll:(lastL ns)[k]? = some ((n:Int)-1):=by simp[lastL,hnk]
   have hp4:(pad4 ((lastL ns).take k)).length=4:=jaE (by simp[lastL];omega)
   have hps:=jgp hll (by simp[lastL];omega)
   refine V.r0 (V.a3 zX45_1 @en hps) ?_
   exact⟨k+1,⟨by omega,trivial⟩,by omega,V.wk⟩
  ·rw[hlen] at h
   simp only[decide_eq_false_iff_not] at h
   have hk1:k=ns.length:=by omega
   subst hk1
   have e0:(lastL ns).take ns.length=lastL ns:=jjI (by simp[lastL])
   rw[e0]
   (conv=>whnf)
   refine V.st ?_
   refine Lp.ghostBox 279 10 2 .i64 (by decide) (by decide) ?_
   (conv=>whnf)
   have e1:=ixl_pad0 h1 h2
   have hpos:∀ n∈ns,0<n:=fun n hn=>by have:=h2 n hn;omega
   refine jad (0) (fun k=>k<PR ns) (fun k=>PR ns-k) (fun k=>[]) (fun k=>[(117,.lp none),(121,.arr .i64 (pad4 (ixl ns k))),(10,.box [.ints .i64 (nz ns),.int .i64 out,.osl 279 0 (flat ns (fun m=>(List.range out.toNat).map (W m)) k).length]),(279,.arr .i64 (flat ns (fun m=>(List.range out.toNat).map (W m)) k))]) ?_ ?_ ?_
   ·rw[e1]
    exact V.wk
   ·exact jfw hpos
   intro m hm
   have evm:=ev m hm
   have hlm:((List.range out.toNat).map (W m)).length=out.toNat:=by simp
   have hp4:(pad4 (ixl ns m)).length=4:=jaE (by rw[jaw];omega)
   have hp4l:(pad4 (lastL ns)).length=4:=jaE (by simp[lastL];omega)
   have hfl:(flat ns (fun m=>(List.range out.toNat).map (W m)) m).length≤4*m:=flat_len (fun j hj=>by simp;omega)
   have hPR:=PR_le h1.2 h2
   have xb:∀ i n,ns[i]? = some n→(0≤(pad4 (ixl ns m)).getD i 0∧(pad4 (ixl ns m)).getD i 0≤8)∧(2≤(nz ns).getD i 0∧(nz ns).getD i 0≤9):=by
    intro i n h
    have e:=jgy ns m i n h
    have b:=je4 hpos h e
    have b2:=h2 n (jjw h)
    have hi:=(jjB.1 h).1
    have e2:=jcw (k:=ns.length) e hi (by rw[jaw];omega)
    rw[jjI (by rw[jaw];omega)] at e2
    rw[e2]
    simp[nz,jjr,h]
    simp at b
    omega
   have i69:=fun i (hi:i<2)=>ns.getElem?_eq_getElem (show i<ns.length by omega)
   refine V.r0 (V.a2 jit hli) ?_
   refine jad (0:Nat) (fun k=>k≤2) (fun k=>2-k) (fun k=>[(69,.int .i64 (k:Nat))]) (fun k=>[(232,.box (preD (2*k) [.str (X m 0).1,.str (X m 0).2,.str (X m 1).1,.str (X m 1).2]))]) ?_ ?_ ?_
   ·exact V.wk
   ·exact jiT _
   intro k hk
   have hk4:k=0∨k=1∨k=2:=by omega
   rcases hk4 with e|e|e
   all_goals subst e
   ·simp only[k0]
    have c:=ov m 0 hm (by omega)
    have xb0:=xb 0 _ (i69 0 (by omega))
    refine V.r1 (V.a2 jit hli) c ?_
    exact⟨1,by omega,by omega,V.wk⟩
   ·simp only[k1]
    have c:=ov m 1 hm (by omega)
    have xb1:=xb 1 _ (i69 1 (by omega))
    refine V.r1 (V.a2 jit hli) c ?_
    exact⟨2,by omega,by omega,V.wk⟩
   ·simp only[k2]
    refine V.r1 (V.a2 jit hli) evm ?_
    obtain⟨E,hE0,hEs,hEn,hEl⟩:∃ E:Nat→List Int,E 0=flat ns (fun m=>(List.range out.toNat).map (W m)) m∧(∀ k,k<out.toNat→E k++[W m k]=E (k+1))∧E out.toNat=flat ns (fun m=>(List.range out.toNat).map (W m)) (m+1) ∧ ∀ k,k≤out.toNat→(E k).length≤30000:=by
     refine⟨fun k=>flat ns (fun m=>(List.range out.toNat).map (W m)) m++((List.range out.toNat).map (W m)).take k,by simp,fun k hk=>?_,?_,fun k hk=>?_⟩
     ·show flat ns _ m++((List.range out.toNat).map (W m)).take k++[W m k]=flat ns _ m++((List.range out.toNat).map (W m)).take (k+1)
      rw[jf9 _ hk,jjz]
     ·show flat _ _ _++_=_
      rw[jdI,jjI (by simp)]
     ·show (flat _ _ _++_).length≤_
      rw[jjx,jjy]
      omega
    rw[← hE0]
    refine lp_go (out.toNat) (fun k=>True) (fun k=>[(96,.int .i64 k)]) (fun k=>[(10,.box [.ints .i64 (nz ns),.int .i64 out,.osl 279 0 (E k).length]),(279,.arr .i64 (E k))]) V.wk ?_ ?_
    ·trivial
    intro k hk _
    (conv=>whnf)
    refine V.st ?_
    refine V.br (fun h=>?_) (fun h=>?_)
    ·simp only[decide_eq_true_eq] at h
     have hk1:k<out.toNat:=by omega
     have e:=wce_at (Y m) out.toNat k hk1
     have nrk:=nr m k hm hk1
     have hEk:=hEs k hk1
     have hEl1:=hEl k hk
     have hEl2:(E k).length+1=(E (k+1)).length:=by rw[← hEk];simp
     (conv=>whnf)
     (try simp only[zX45_2,hEk,hEl2,← jjx])
     repeat ((first|refine V.s1 ?_|((try ((with_reducible refine .ext ?_);(conv=>whnf);(try simp only[zX45_2,hEk,hEl2,← jjx])));(with_reducible refine jaa (r:=?_) ?_ ?_);rotate_left;(focus (first|exact(nrk)));(conv=>whnf))|((simp only[e]);(conv=>whnf)));(try simp only[zX45_2,hEk,hEl2,← jjx]))
     exact⟨k+1,⟨by omega,trivial⟩,by omega,V.wk⟩
    ·simp only[decide_eq_false_iff_not] at h
     have hk1:k=out.toNat:=by omega
     subst hk1
     rw[hEn]
     (conv=>whnf)
     refine V.st ?_
     refine V.br (fun hq=>?_) (fun hq=>?_)
     ·have hq2:ixl ns m≠lastL ns:=fun e=>by rw[e] at hq;simp at hq
      have hil:=jaw ns m
      have hll:(lastL ns).length=ns.length:=by simp[lastL]
      (conv=>whnf)
      refine V.st ?_
      rw[hlen]
      have e2:(ixl ns m).take ns.length=ixl ns m:=jjI (by omega)
      refine jad (ns.length) (fun k=>(1≤k∧k≤ns.length)∧(ixl ns m).drop k=(lastL ns).drop k) (fun k=>k) (fun k=>[(7,.int .i64 ((k:Int)-1))]) (fun k=>[(121,.arr .i64 (pad4 ((ixl ns m).take k)))]) ?_ ?_ ?_
      ·rw[e2]
       exact V.wk
      ·exact⟨⟨h1.1,ji1 _⟩,by rw[jjK (by omega),jjK (by omega)]⟩
      rintro p ⟨⟨hp1,hp2⟩,hp3⟩
      obtain⟨p,rfl⟩:∃ q,p=q+1:=⟨p-1,by omega⟩
      obtain⟨x,hx⟩:∃ x,(ixl ns m)[p]? = some x:=⟨_,jju (by omega)⟩
      obtain⟨n,hn⟩:∃ n,ns[p]? = some n:=⟨ns[p],jju (by omega)⟩
      have hpx:=jcw hx (by omega:p<p+1) (by omega)
      have hpl:(lastL ns)[p]? = some ((n:Int)-1):=by simp[lastL,hn]
      have hpl2:=jcw (k:=4) hpl (by omega) (by omega)
      rw[jjI (by omega)] at hpl2
      have hp5:(pad4 ((ixl ns m).take (p+1))).length=4:=jaE (by simp;omega)
      have e3:((p+1:Nat):Int)-1=(p:Int):=by omega
      have e4:=jeQ hx (by omega)
      (conv=>whnf)
      refine V.st ?_
      refine⟨(V.tk [0,1,2,3,4,5,6] .done),[],V.pok,.go (jac ?_)⟩
      refine V.r0 (V.a4 zX45_1 e3 hpx hpl2) ?_
      refine V.br (fun hc=>?_) (fun hc=>?_)
      ·simp only[decide_eq_true_eq] at hc
       have hd:(ixl ns m).drop p=(lastL ns).drop p:=by
        rw[jjM (by omega:p<(ixl ns m).length),jjM (by omega:p<(lastL ns).length),hp3,(jjB.1 hx).2,(jjB.1 hpl).2,hc]
       have hp0:1≤p:=by
        rcases ji3 p with e|e
        ·subst e;exact absurd (by simpa using hd) hq2
        ·exact e
       refine V.r0 (V.a3 zX45_1 e3 e4) ?_
       exact⟨p,⟨⟨hp0,by omega⟩,hd⟩,by omega,V.wk⟩
      ·simp only[decide_eq_false_iff_not] at hc
       have hsu:=jgx ns hpos m p n hn x hx (by rw[hp3];simp[lastL]) hc
       have e5:=jdu (y:=x+1) hx (by omega) (by omega:(ixl ns m).length≤4)
       rw[hil,← hsu] at e5
       have hxb:=je4 hpos hn hx
       have hnb:=h2 n (jjw hn)
       have hm1:m+1<PR ns:=by
        rcases ji8 (m+1) (PR ns) with e|e
        ·exact e
        ·exfalso
         exact hq2 (jep ns hpos m (by rw[ji5 hm];omega))
       refine V.r0 (V.a4 zX45_1 e3 hpx e5) ?_
       exact⟨m+1,hm1,by omega,V.wk⟩
     ·have hq2:ixl ns m=lastL ns:=jgq (by rw[jaw];simp[lastL]) (by simpa using hq)
      have hq3:=jeo ns hpos m hq2
      rw[ji5 hm] at hq3
      have hq4:m+1=PR ns:=by omega
      rw[hq4]
      (conv=>whnf)
      refine V.st ?_
      rw[jjI (ji1 _)]
      exact Fin.of rfl
theorem jij:type_of% @jiX∧type_of% @tn0∧type_of% @tn1∧type_of% @tn2∧type_of% @tn3∧type_of% @xt4:=⟨@jiX,@tn0,@tn1,@tn2,@tn3,@xt4⟩
theorem wakes_t (Q:Nat→Tx)
  (o0:Cl 30 [.int .i64 1,.int .i64 2] (.agg [.str (Q 0).1,.str (Q 0).2]))
  (o1:Cl 30 [.int .i64 1,.int .i64 4] (.agg [.str (Q 1).1,.str (Q 1).2]))
  (o2:Cl 30 [.int .i64 7,.int .i64 20] (.agg [.str (Q 2).1,.str (Q 2).2]))
  (o3:Cl 30 [.int .i64 3,.int .i64 10] (.agg [.str (Q 3).1,.str (Q 3).2]))
  (o4:Cl 30 [.int .i64 1,.int .i64 1] (.agg [.str (Q 4).1,.str (Q 4).2]))
  (o5:Cl 30 [.int .i64 2,.int .i64 1] (.agg [.str (Q 5).1,.str (Q 5).2]))
  (fo:Cl 29 [] (.agg [.ints .i64 [2,2],.int .i64 1,.ints .i64 [0,13107,26214,65535]]))
  (ce:Cl 11 [.agg [.ints .i64 [2,2],.int .i64 1,.ints .i64 [0,13107,26214,65535]],V.sl2 2 [.str (Q 0).1,.str (Q 0).2,.str (Q 1).1,.str (Q 1).2]] (.tup [.ints .i64 [0,0],.ints .i64 [0,1],V.sl2 3 [.str (Q 0).1,.str (Q 0).2,.str (Q 1).1,.str (Q 1).2,.str (Q 1).1,.str (Q 1).2],.int .i64 0]))
  (st:Cl 22 [.agg [.ints .i64 [2,2],.int .i64 1,.ints .i64 [0,13107,26214,65535]]] (.tup [.slf 1 1 (fun j=>List.take 1 (List.drop (j*1) [.ints .i64 [52428,39321]])),.int .i64 0]))
  (b1:Cl 19 [.agg [.ints .i64 [2,2],.int .i64 1,.ints .i64 [0,13107,26214,65535]],V.sl2 2 [.int .i64 500000000000,.int .i64 500000000000,.int .i64 250000000000,.int .i64 250000000000]] (.tup [V.sl2 1 [.int .i64 350000000000,.int .i64 350000000000],.int .i64 0]))
  (b2:Cl 19 [.agg [.ints .i64 [2,2],.int .i64 1,.ints .i64 [0,13107,26214,65535]],V.sl2 2 [.int .i64 250000000000,.int .i64 750000000000,.int .i64 250000000000,.int .i64 250000000000]] (.tup [V.sl2 1 [.int .i64 150000000000,.int .i64 550000000000],.int .i64 0]))
  (re:Cl 26 [.agg [.ints .i64 [2,2],.int .i64 1,.ints .i64 [0,13107,26214,65535]],.ints .i64 [3,2]] (.tup [.agg [.ints .i64 [3,2],.int .i64 1,.ints .i64 [0,13107,13107,39321,26214,65535]],.int .i64 0]))
  (ee:Cl 13 [.agg [.ints .i64 [2,2],.int .i64 1,.ints .i64 [0,13107,26214,65535]],V.sl2 1 [.str (Q 0).1,.str (Q 0).2]] (.tup [.nil,.int .i64 2]))
  (v0:Cl 31 [.agg [.ints .i64 [2,2],.int .i64 1,.ints .i64 [0,13107,26214,65535]],.agg [.str (Q 2).1,.str (Q 2).2],V.sl2 2 [.str (Q 0).1,.str (Q 0).2,.str (Q 1).1,.str (Q 1).2]] (.bool true))
  (v1:Cl 31 [.agg [.ints .i64 [2,2],.int .i64 1,.ints .i64 [0,13107,26214,65535]],.agg [.str (Q 3).1,.str (Q 3).2],V.sl2 2 [.str (Q 1).1,.str (Q 1).2,.str (Q 0).1,.str (Q 0).2]] (.bool true))
  (v2:Cl 31 [.agg [.ints .i64 [2,2],.int .i64 1,.ints .i64 [0,13107,26214,65535]],.agg [.str (Q 4).1,.str (Q 4).2],V.sl2 2 [.str (Q 5).1,.str (Q 5).2,.str (Q 4).1,.str (Q 4).2]] (.bool true)) :
  Cl 6 [] (.bool true):=by
 have q0:=jfb [0,0] [0,0] (by decide) (by decide)
 have q1:=jfb [0,1] [0,1] (by decide) (by decide)
 have q2:=jfb [52428,39321] [52428,39321] (by decide) (by decide)
 have q3:=jfb [0,13107,13107,39321,26214,65535] [0,13107,13107,39321,26214,65535] (by decide) (by decide)
 have f3:=eqf3 (fun k=>if k=0 then Q 0 else Q 1)
 have g1:=eqb1 (fun _=>(350000000000,350000000000))
 have g2:=eqb1 (fun _=>(150000000000,550000000000))
 refine V.en tbOk Tryz.func6 ?_
 (conv=>whnf)
 (conv=>whnf)
 (try simp only[jij])
 repeat ((first|refine V.s1 ?_|((try ((with_reducible refine .ext ?_);(conv=>whnf);(try simp only[jij])));(with_reducible refine jaa (r:=?_) ?_ ?_);rotate_left;(focus (first|exact(o0)|exact(o1)|exact(o2)|exact(o3)|exact(o4)|exact(o5)|exact(fo)|exact(ce)|exact(st)|exact(b1)|exact(b2)|exact(re)|exact(ee)|exact(v0)|exact(v1)|exact(v2)|exact(q0)|exact(q1)|exact(q2)|exact(q3)|exact(f3)|exact(g1)|exact(g2)));(conv=>whnf)));(try simp only[jij]))
 refine⟨(V.tk [0] (V.e1 1 [0] (V.e1 2 [0] (V.e1 3 [0] (V.e1 4 [] (V.tk [5,6,7,8,9,10,11,12,13] .done)))))),[],V.pok,?_⟩
 refine jab [(2,.ints .i64 [0,0]),(3,.ints .i64 [0,1]),(4,V.sl2 3 [.str (Q 0).1,.str (Q 0).2,.str (Q 1).1,.str (Q 1).2,.str (Q 1).1,.str (Q 1).2]),(5,.int .i64 0)] [] ?_ ?_
 ·exact V.d3 jij o0 o1 ce
 (conv=>whnf)
 (try simp only[jij])
 repeat ((first|refine V.s1 ?_|((try ((with_reducible refine .ext ?_);(conv=>whnf);(try simp only[jij])));(with_reducible refine jaa (r:=?_) ?_ ?_);rotate_left;(focus (first|exact(o0)|exact(o1)|exact(o2)|exact(o3)|exact(o4)|exact(o5)|exact(fo)|exact(ce)|exact(st)|exact(b1)|exact(b2)|exact(re)|exact(ee)|exact(v0)|exact(v1)|exact(v2)|exact(q0)|exact(q1)|exact(q2)|exact(q3)|exact(f3)|exact(g1)|exact(g2)));(conv=>whnf)));(try simp only[jij]))
 refine⟨(V.tk [0] (V.e1 1 [0] (V.e1 2 [0] (V.e1 3 [] (V.tk [4,5,6,7,8] .done))))),[],V.pok,?_⟩
 refine jab [(17,.int .i64 2)] [] ?_ ?_
 ·exact V.d3 jij o0 o1 ee
 (conv=>whnf)
 (try simp only[jij])
 repeat ((first|refine V.s1 ?_|((try ((with_reducible refine .ext ?_);(conv=>whnf);(try simp only[jij])));(with_reducible refine jaa (r:=?_) ?_ ?_);rotate_left;(focus (first|exact(o0)|exact(o1)|exact(o2)|exact(o3)|exact(o4)|exact(o5)|exact(fo)|exact(ce)|exact(st)|exact(b1)|exact(b2)|exact(re)|exact(ee)|exact(v0)|exact(v1)|exact(v2)|exact(q0)|exact(q1)|exact(q2)|exact(q3)|exact(f3)|exact(g1)|exact(g2)));(conv=>whnf)));(try simp only[jij]))
 refine⟨(V.tk [0] (V.e1 1 [0] (V.e1 2 [] (V.tk [3,4] (V.e1 5 [4] (V.e1 6 [] (V.tk [7,8,9] (V.e1 10 [9] (V.e1 11 [9] (V.e1 12 [9] (V.e1 13 [9] (V.e1 14 [] (V.tk [15,16,17] (V.e1 18 [17] (V.e1 19 [17] (V.e1 20 [17] (V.e1 21 [17] (V.e1 22 [] (V.tk [23,24,25] (V.e1 26 [25] (V.e1 27 [25] (V.e1 28 [25] (V.e1 29 [25] (V.e1 30 [] (V.tk [31,32,33] (V.e1 34 [33] (V.e1 35 [33] (V.e1 36 [33] (V.e1 37 [33] (V.e1 38 [] (V.tk [39,40,41,42,43] (V.e1 44 [43,42,41] (V.e1 45 [] (V.tk [46,47,48,49] (V.e1 50 [48] (V.e1 51 [] (V.tk [52,53,54,55] (V.e1 56 [54] (V.e1 57 [] (V.tk [58,59,60,61] (V.e1 62 [61,60] (V.e1 63 [] (V.tk [64,65] .done))))))))))))))))))))))))))))))))))))))))))),[],V.pok,?_⟩
 refine jab [(0,.bool true)] [] ?_ ?_
 ·(conv=>whnf);(try simp only[jij])
  repeat' (first|exact V.wk|((with_reducible refine And.intro ?_ jaq);(conv=>whnf);(try simp only[jij]))|((with_reducible first|refine jam ?_ ?_|refine jao ?_ ?_)<;>(conv=>whnf);(try simp only[jij]))|((first|refine V.s1 ?_|((with_reducible refine jaf ?_ ?_);(focus ((conv=>whnf);(try simp only[jij]);(repeat ((first|refine V.s1 ?_);(try simp only[jij])));exact⟨rfl⟩));(conv=>whnf))|((try ((with_reducible refine .ext ?_);(conv=>whnf);(try simp only[jij])));(with_reducible refine jaa (r:=?_) ?_ ?_);rotate_left;(focus (first|exact(o0)|exact(o1)|exact(o2)|exact(o3)|exact(o4)|exact(o5)|exact(fo)|exact(ce)|exact(st)|exact(b1)|exact(b2)|exact(re)|exact(ee)|exact(v0)|exact(v1)|exact(v2)|exact(q0)|exact(q1)|exact(q2)|exact(q3)|exact(f3)|exact(g1)|exact(g2)));(conv=>whnf)));(try simp only[jij]))|(refine And.intro ?_ ?_<;>(conv=>whnf);(try simp only[jij])))
 refine V.r0 jij ?_
 exact Fin.of rfl
end Go.Proofs.YtbnghipgicmpdaaGreatDoor
end
section
namespace Go.Proofs.YtbnghipgicmpdaaGreatDoor
open Go Go.V Go.Nb
def flU (x:Rat):Int:=(x*1000000000000).floor
def clU (x:Rat):Int := -((-(x*1000000000000)).floor)
theorem jgI (m:Int):unit m=(m:Rat)/1000000000000:=by
 unfold unit
 rw[Rat.divInt_eq_div]
 rfl
theorem jeA {x:Rat}{m:Int} : unit m≤x↔(m:Rat)≤x*1000000000000:=by
 rw[jgI]
 constructor<;>intro h<;>grind
theorem je3 {x:Rat}{m:Int} : x≤unit m↔x*1000000000000≤(m:Rat):=by
 rw[jgI]
 constructor<;>intro h<;>grind
theorem jfU {x:Rat}{m:Int} : m≤flU x↔(m:Rat)≤x*1000000000000:=Rat.le_floor_iff
theorem jfZ {x:Rat}{m:Int} : clU x≤m↔x*1000000000000≤(m:Rat):=by
 unfold clU
 have:=Rat.le_floor_iff (x := -m) (a := -(x*1000000000000))
 rw[Rat.intCast_neg] at this
 constructor
 ·intro h
  have:=this.1 (by omega)
  grind
 ·intro h
  have:=this.2 (by grind)
  omega
theorem flU_mono {x y:Rat}(h:x≤y):flU x≤flU y:=jfU.2 (by
 have:=jfU.1 (Int.le_refl (flU x))
 grind)
theorem clU_mono {x y:Rat}(h:x≤y):clU x≤clU y:=jfZ.2 (by
 have:=jfZ.1 (Int.le_refl (clU y))
 grind)
theorem fl_cl {x y:Rat}(h:x≤y):flU x≤clU y:=by
 have h1:=jfU.1 (Int.le_refl (flU x))
 have h2:=jfZ.1 (Int.le_refl (clU y))
 have h3:((flU x:Int):Rat)≤((clU y:Int):Rat):=by grind
 exact Rat.intCast_le_intCast.1 h3
theorem around_fl {x:Rat}(h : -100000≤x∧x≤100000):jdh x=(flU x,clU x,0)∧(-100000000000000001≤nearZ x 1000000000000∧nearZ x 1000000000000≤100000000000000001):=by
 have hd:=x.den_pos
 have k1:x.num≤100000*x.den:=by
  have:=(Rat.le_iff (a:=x) (b:=100000)).1 h.2
  rw[show (100000:Rat).num=100000 from rfl,show (100000:Rat).den=1 from rfl] at this
  omega
 have k2 : -(100000*(x.den:Int))≤x.num:=by
  have:=(Rat.le_iff (a := -100000) (b:=x)).1 h.1
  rw[show (-100000:Rat).num = -100000 from rfl,show (-100000:Rat).den=1 from rfl] at this
  omega
 have nl:=near_le x 100000 ⟨k2,k1⟩
 refine⟨?_,by omega⟩
 obtain⟨p,q,e,hv,hq,hh,hu⟩:=around_law x (by omega)
 have hb:=(jgz x p q).1 hh
 have p1:unit p≤x:=Rat.not_lt.1 fun g=>by have:=(jhG p x).1 g;omega
 have q1:x≤unit q:=Rat.not_lt.1 fun g=>by have:=(jf7 q x).1 g;omega
 have vi:=jbJ.1 hv
 have f1:p≤flU x:=jfU.2 (jeA.1 p1)
 have c1:clU x≤q:=jfZ.2 (je3.1 q1)
 have f2:flU x≤p:=by
  have g1:=jfU.1 (Int.le_refl (flU x))
  rcases Int.lt_or_le p (flU x) with g|g
  ·have e2:flU x≤q:=Int.le_trans (fl_cl Rat.le_refl) c1
   have e3:flU x=q:=by omega
   have e4:unit q=x:=Rat.le_antisymm (jeA.2 (by rw[← e3];exact g1)) q1
   have e5:=jft q (jbJ.2 (by omega))
   rw[e4,e] at e5
   have:p=q:=congrArg Prod.fst e5
   omega
  ·exact g
 have c2:q≤clU x:=by
  have g1:=jfZ.1 (Int.le_refl (clU x))
  rcases Int.lt_or_le (clU x) q with g|g
  ·have e2:p≤clU x:=Int.le_trans f1 (fl_cl Rat.le_refl)
   have e3:clU x=p:=by omega
   have e4:unit p=x:=Rat.le_antisymm p1 (je3.2 (by rw[← e3];exact g1))
   have e5:=jft p (jbJ.2 (by omega))
   rw[e4,e] at e5
   have:q=p:=congrArg (fun r=>r.2.1) e5
   omega
  ·exact g
 rw[e,show p=flU x from by omega,show q=clU x from by omega]
theorem jew {n:Nat}{x:Rat}(h:Fq n x)(h0:0<n∧n≤600)(hb : -100000≤x∧x≤100000):Cl 107 [frT x] (.tup [.agg [.int .i64 (flU x),.int .i64 (clU x)],.int .i64 0]):=by
 have o:=jaB (h.ok h0.1 h0.2)
 have a:=around_fl hb
 have c:=around_b (decZ x.num) (dec x.den) o.1 (by rw[o.2];omega)
 rw[o.2,a.1] at c
 exact c
end Go.Proofs.YtbnghipgicmpdaaGreatDoor
end
