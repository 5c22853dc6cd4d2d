/- What functions of the program answer at given values, part 13. Conditions: those that each theorem names. -/
import Derived.Test.YtbnghipgicmpdaaGreatDoorSimplexRefinesH12
import Derived.Test.YtbnghipgicmpdaaGreatDoorSimplexRefinesH10
import Derived.Test.YtbnghipgicmpdaaGreatDoorSimplexRefinesH11
import Derived.Test.YtbnghipgicmpdaaGreatDoorSimplexRefinesH8
import Derived.Test.YtbnghipgicmpdaaGreatDoorSimplexRefinesH4
set_option linter.unusedSimpArgs false
set_option linter.unusedVariables false
set_option maxHeartbeats 8000000
set_option maxRecDepth 100000
section
namespace Go.Proofs.YtbnghipgicmpdaaGreatDoor
open Go Go.V Go.Nb Go.Gr
theorem sdM_bd {size data:List Int}{out:Int}{ns:List Nat}{i j:Nat}(hv:∀ v∈data,0≤v∧v≤65535):∀ m,0≤sdM size data out ns i j m∧sdM size data out ns i j m≤65535
 | 0=>by simp[sdM]
 | m+1=>by
  have ih:=sdM_bd (size:=size) (out:=out) (ns:=ns) (i:=i) (j:=j) hv m
  have a:∀ x,0≤atv size data out x j∧atv size data out x j≤65535:=fun x=>jaR hv _ _ _
  have a1:=a (ixl ns m)
  have a2:=a (nxt (ixl ns m) i)
  simp only[sdM]
  split<;>omega
theorem jiU:type_of% @jjb∧type_of% @ji9∧type_of% @ji8:=⟨@jjb,@ji9,@ji8⟩
theorem jiT:type_of% @jjb∧type_of% @jj1 ∧ type_of% @jjS ∧ type_of% @ji9∧type_of% @ji8:=⟨@jjb,@jj1,@jjS,@ji9,@ji8⟩
theorem rsteep_c {ns:List Nat}{out:Int}{data:List Int}{i j:Nat}(hg:jag (nz ns) out data=true)(hi:i<ns.length)(hj:j<out.toNat) :
  Cl 59 [.agg [.ints .i64 (nz ns),.int .i64 out,.ints .i64 data],.int .i64 j,.int .i64 i] (.int .i64 (sdM (nz ns) data out ns i j (PR ns)*((nz ns).getD i 0-1))):=by
 have hG:=jaZ hg
 have og:=jap hg
 have hlen:(nz ns).length=ns.length:=by simp[nz]
 have h2:∀ n∈ns,2≤n∧n≤9:=fun n hn=>by
  have:=og.2.1 (n:Int) (by unfold nz;exact List.mem_map_of_mem hn)
  omega
 have hpos:∀ n∈ns,0<n:=fun n hn=>by have:=h2 n hn;omega
 have l4:1≤ns.length∧ns.length≤4:=by omega
 have hp:=jcR hG.2.2.2.2.1
 have pc:Cl 62 [.ints .i64 (nz ns)] (.int .i64 (PR ns:Nat)):=by
  have c:=jeE (nz ns) (fun k _=>(hp k).2.2 hG.2.1) (by omega)
  rw[jcQ] at c
  exact c
 have hPR:PR ns≤6561:=PR_le l4.2 h2
 have oki:∀ m,okIdx (nz ns) (ixl ns m)=true:=fun m=>ja4.2 ⟨by rw[jak,hlen],fun k n x hn hx=>by
  simp only[nz,List.getElem?_map,Option.map_eq_some_iff] at hn
  obtain⟨n',h3,rfl⟩:=hn
  exact jb6 hpos h3 hx⟩
 have sb:=sdM_bd (size:=nz ns) (out:=out) (ns:=ns) (i:=i) (j:=j) og.2.2.2
 have zi:2≤(nz ns).getD i 0∧(nz ns).getD i 0≤9:=by
  rw[jjF,jjI (by omega)]
  exact og.2.1 _ (jjJ _)
 have il:(nz ns).length=ns.length:=hlen
 refine V.en tbOk Tryz.func59 ?_
 refine V.r0 jiU ?_
 refine jad ((0:Nat)) (fun k=>k≤PR ns) (fun k=>PR ns-k) (fun k=>[(8,.int .i64 k),(7,.int .i64 (sdM (nz ns) data out ns i j k))]) (fun k=>[]) ?_ ?_ ?_
 ·exact V.wk
 ·exact ji2 _
 intro m hm
 have sm:=sb m
 have sm1:=sb (m+1)
 have hmc:((m:Int)+1)=((m+1:Nat):Int):=by omega
 by_cases hmn:m<PR ns
 ·have hlt:decide ((m:Int)<(PR ns:Nat))=true:=decide_eq_true (by omega)
  have hil:=jak ns m
  have xb:0≤(ixl ns m).getD i 0∧(ixl ns m).getD i 0≤8:=by
   obtain⟨n,hn⟩:∃ n,ns[i]? = some n:=⟨_,jjI hi⟩
   have hx:=jcX ns m i n hn
   have b:=jb6 hpos hn hx
   have:=h2 n (jjK hn)
   rw[jjF,hx]
   simp only[Option.getD_some]
   omega
  refine V.r1 (V.a2 jiU hlt) pc ?_
  refine V.il Tryz.func63 ?_
  refine V.r0 (V.a2 jiU hlen) ?_
  have e0:List.replicate ns.length (0:Int)=List.replicate ns.length 0++(ixl ns m).drop ns.length:=by
   rw[jjX (by omega),List.append_nil]
  have e1:(m:Int)=((m/PR (ns.drop ns.length):Nat):Int):=by simp[PR]
  refine jad (ns.length) (fun k=>k≤ns.length) (fun k=>k) (fun k=>[(1,.int .i64 ((m/PR (ns.drop k):Nat):Int)),(6,.int .i64 ((k:Int)-1))]) (fun k=>[(83,.arr .i64 (List.replicate k 0++(ixl ns m).drop k))]) ?_ ?_ ?_
  ·rw[← e0,← e1]
   exact V.wk
  ·exact jjc _
  intro p hpl
  (conv=>whnf)
  refine V.st ?_
  refine V.br (fun hq=>?_) (fun hq=>?_)
  ·have hp0:0<p:=by simp at hq;omega
   obtain⟨p,rfl⟩:∃ q,p=q+1:=⟨p-1,by omega⟩
   have hp1:p<ns.length:=by omega
   obtain⟨n,hn⟩:∃ n,ns[p]? = some n:=⟨_,jjI hp1⟩
   have hn0:=h2 n (jjK hn)
   have en:(nz ns).getD p 0=n:=by simp[nz,jjF,hn]
   have e2:(((p+1:Nat):Int)-1)=(p:Int):=by omega
   have hst:=jf6 (m:=m) hn hp1
   have e3:((m/PR (ns.drop (p+1)):Nat):Int)%(n:Int)=((m/PR (ns.drop (p+1))%n:Nat):Int):=by simp
   have e4:((m/PR (ns.drop (p+1)):Nat):Int)/(n:Int)=((m/PR (ns.drop p):Nat):Int):=by rw[← hst.2];simp
   have hl2:(List.replicate (p+1) (0:Int)++(ixl ns m).drop (p+1)).length=ns.length:=by simp[jak];omega
   have hl3:m/PR (ns.drop (p+1))≤m:=jjt _ _
   generalize hqq:m/PR (ns.drop (p+1))=q at *
   refine V.r0 (V.a4 e2 @en @jjb @ji8) ?_
   rw[e3,hst.1]
   refine V.st ?_
   rw[e4]
   exact⟨p,by omega,by omega,V.wk⟩
  ·have hp0:p=0:=by simp at hq;omega
   subst hp0
   have h0:(List.replicate 0 (0:Int)++(ixl ns m).drop 0)=ixl ns m:=by simp
   rw[h0]
   have tk:List.take ns.length (ixl ns m)=ixl ns m:=jjW (by omega)
   obtain⟨pb,pd⟩:=jdG hg (oki m)
   have pl:Cl 91 [.agg [.ints .i64 (nz ns),.int .i64 out,.ints .i64 data],.ints .i64 (List.take ns.length (ixl ns m))] (.tup [.int .i64 (pz ((nz ns).zip (ixl ns m))*out),.int .i64 0]):=by
    have r:=jc6 (nz ns) out data (ixl ns m) (by omega) (by omega) (by omega)
    rw[hg,oki m] at r
    rw[tk]
    exact r
   obtain⟨u,eu⟩:∃ u,slot data (pz ((nz ns).zip (ixl ns m))*out) out=u:=⟨_,rfl⟩
   have pU:=jcL (data:=data) pb (show 0≤out by omega)
   rw[eu] at pU
   have uv:∀ k,0≤u.getD k 0∧u.getD k 0≤65535:=fun k=>by rw[← eu];exact jaR og.2.2.2 _ _ k
   have ul:u.length=out.toNat:=by rw[← eu];exact ja3 hg (oki m)
   have ea:atv (nz ns) data out (ixl ns m) j=u.getD j 0:=by rw[← eu];rfl
   generalize pz ((nz ns).zip (ixl ns m))*out=P at *
   refine V.r0 jiU ?_
   refine .inl ?_
   (conv=>whnf)
   refine⟨100,_,_,⟨Tryz.func44,rfl,rfl,ji1 rfl⟩,?_⟩
   refine V.r0 jiT ?_
   refine .len ?_
   (conv=>whnf)
   refine⟨83,?_⟩
   (conv=>whnf)
   refine jaa (r:=?_) ?_ ?_
   rotate_left
   ·exact pl
   refine V.r0 (V.a2 jiT pU) ?_
   have nx:(ixl ns m).set i ((ixl ns m).getD i 0+1)=nxt (ixl ns m) i:=rfl
   rw[nx]
   have nl:(nxt (ixl ns m) i).length=ns.length:=by unfold nxt;rw[jj3];omega
   have tk2:List.take ns.length (nxt (ixl ns m) i)=nxt (ixl ns m) i:=jjW (by omega)
   cases ok2:okIdx (nz ns) (nxt (ixl ns m) i) with
   | true=>
    obtain⟨pb2,pd2⟩:=jdG hg ok2
    have pl2:Cl 91 [.agg [.ints .i64 (nz ns),.int .i64 out,.ints .i64 data],.ints .i64 (List.take ns.length (nxt (ixl ns m) i))] (.tup [.int .i64 (pz ((nz ns).zip (nxt (ixl ns m) i))*out),.int .i64 0]):=by
     have r:=jc6 (nz ns) out data (nxt (ixl ns m) i) (by omega) (by omega) (by omega)
     rw[hg,ok2] at r
     rw[tk2]
     exact r
    obtain⟨w,ew⟩:∃ w,slot data (pz ((nz ns).zip (nxt (ixl ns m) i))*out) out=w:=⟨_,rfl⟩
    have pW:=jcL (data:=data) pb2 (show 0≤out by omega)
    rw[ew] at pW
    have wv:∀ k,0≤w.getD k 0∧w.getD k 0≤65535:=fun k=>by rw[← ew];exact jaR og.2.2.2 _ _ k
    have wl:w.length=out.toNat:=by rw[← ew];exact ja3 hg ok2
    have eb:atv (nz ns) data out (nxt (ixl ns m) i) j=w.getD j 0:=by rw[← ew];rfl
    generalize pz ((nz ns).zip (nxt (ixl ns m) i))*out=Q at *
    have es:sdM (nz ns) data out ns i j (m+1)=max (max (sdM (nz ns) data out ns i j m) (u.getD j 0-w.getD j 0)) (w.getD j 0-u.getD j 0):=by
     simp only[sdM]
     rw[if_pos ok2,ea,eb]
    have uj:=uv j
    have wj:=wv j
    refine .inl ?_
    (conv=>whnf)
    refine⟨200,_,_,⟨Tryz.func44,rfl,rfl,ji1 rfl⟩,?_⟩
    refine V.r0 jiT ?_
    refine .len ?_
    (conv=>whnf)
    refine⟨83,?_⟩
    (conv=>whnf)
    refine jaa (r:=?_) ?_ ?_
    rotate_left
    ·exact pl2
    refine V.r0 (V.a2 jiT pW) ?_
    refine⟨(V.tk [0,1,2,3,4,5,6,7,8,9,10,11,12,13,14,15,16,17,18,19] (V.e1 20 [] .done)),[],V.pok,.go (jac ?_)⟩
    refine V.r0 (V.a2 jiU hmc) ?_
    refine⟨m+1,by omega,by omega,?_⟩
    try dsimp only
    rw[es]
    exact V.wk
   | false=>
    have pl2:Cl 91 [.agg [.ints .i64 (nz ns),.int .i64 out,.ints .i64 data],.ints .i64 (List.take ns.length (nxt (ixl ns m) i))] (.tup [.int .i64 0,.int .i64 2]):=by
     have r:=jc6 (nz ns) out data (nxt (ixl ns m) i) (by omega) (by omega) (by omega)
     rw[hg,ok2] at r
     rw[tk2]
     exact r
    have es:sdM (nz ns) data out ns i j (m+1)=sdM (nz ns) data out ns i j m:=by
     simp only[sdM]
     rw[if_neg (by rw[ok2];decide)]
    refine .inl ?_
    (conv=>whnf)
    refine⟨200,_,_,⟨Tryz.func44,rfl,rfl,ji1 rfl⟩,?_⟩
    refine V.r0 (V.a2 jiT hmc) ?_
    refine .len ?_
    (conv=>whnf)
    refine⟨83,?_⟩
    (conv=>whnf)
    refine jaa (r:=?_) ?_ ?_
    rotate_left
    ·exact pl2
    refine V.r0 (V.a2 jiT hmc) ?_
    refine⟨m+1,by omega,by omega,?_⟩
    try dsimp only
    rw[es]
    exact V.wk
 ·have hlf:decide ((m:Int)<(PR ns:Nat))=false:=decide_eq_false (by omega)
  obtain rfl:m=PR ns:=by omega
  have sp:sdM (nz ns) data out ns i j (PR ns)*((nz ns).getD i 0-1)≤65535*8:=jjB sm.2 (by omega) (by omega) (by decide)
  have sp0:0≤sdM (nz ns) data out ns i j (PR ns)*((nz ns).getD i 0-1):=ji6 sm.1 (by omega)
  refine V.r1 (V.a2 jiU hlf) pc ?_
  exact Fin.of rfl
def sv4:Nat→D
 | 0 => .nil
 | k+1 => .bsl 34 0 (k+1) 1
def svH (U:Nat→List Int):Nat→Hp
 | 0=>[]
 | k+1=>[(34,.box (pce U (k+1)))]
theorem jfJ (f:Nat→Int)(k:Nat):(List.range k).map f++[f k]=(List.range (k+1)).map f:=by
 rw[List.range_succ,List.map_append]
 rfl
theorem jiP:type_of% @jjb∧type_of% @ji8:=⟨@jjb,@ji8⟩
theorem rsteep_w (zs data:List Int)(out:Int)(n:Nat)(f:Nat→Nat→Int)(hz:zs.length=n)(hn:n≤4)(ho:1≤out∧out≤4)(ck:Cl 35 [.agg [.ints .i64 zs,.int .i64 out,.ints .i64 data]] (.bool true))
  (st:∀ j i,j<out.toNat→i<n→Cl 59 [.agg [.ints .i64 zs,.int .i64 out,.ints .i64 data],.int .i64 (j:Nat),.int .i64 (i:Nat)] (.int .i64 (f j i))) :
  Cl 23 [.agg [.ints .i64 zs,.int .i64 out,.ints .i64 data]] (.tup [.slf 1 out.toNat (fun j=>List.take 1 (List.drop (j*1) (pce (fun j=>(List.range n).map (f j)) out.toNat))),.int .i64 0]):=by
 have hzi:((zs.length:Nat):Int)=n:=by omega
 obtain⟨U,eU⟩:∃ U:Nat→List Int,(fun j=>(List.range n).map (f j))=U:=⟨_,rfl⟩
 rw[eU]
 refine V.en tbOk Tryz.func23 ?_
 refine V.r1 @ji8 ck ?_
 refine jad (0:Nat) (fun j=>(j:Int)≤out) (fun j=>out.toNat-j) (fun j=>[(5,.int .i64 (j:Nat)),(4,sv4 j)]) (fun j=>svH U j) ?_ ?_ ?_
 ·exact V.wk
 ·show ((0:Nat):Int)≤out
  omega
 intro j hj
 try dsimp only at hj ⊢
 by_cases hjo:(j:Int)<out
 ·have hlt:decide ((j:Int)<out)=true:=decide_eq_true hjo
  have hj4:j=0∨j=1∨j=2∨j=3:=by omega
  have ji:j<out.toNat:=by omega
  obtain⟨F,eF⟩:∃ F,f j=F:=⟨_,rfl⟩
  have sj:∀ i,i<n→Cl 59 [.agg [.ints .i64 zs,.int .i64 out,.ints .i64 data],.int .i64 (j:Nat),.int .i64 (i:Nat)] (.int .i64 (F i)):=fun i hi=>by rw[← eF];exact st j i ji hi
  obtain⟨u,eu⟩:∃ u,U j=u:=⟨_,rfl⟩
  have uF:(List.range n).map F=u:=by rw[← eu,← eU,← eF]
  have ul:u.length=n:=by rw[← uF];simp
  obtain⟨E,eE⟩:∃ E:Nat→List Int,E=fun k=>(List.range k).map F:=⟨_,rfl⟩
  have E0:[]=E 0:=by rw[eE];rfl
  have En:E n=u:=by rw[eE];exact uF
  have Es:∀ k,E k++[F k]=E (k+1):=fun k=>by rw[eE];exact jfJ F k
  have El:∀ k,(E k).length=k:=fun k=>by rw[eE];simp
  clear eE uF eF eU
  rcases hj4 with rfl|rfl|rfl|rfl
  all_goals
   simp only[k0,k1,k2,k3,sv4,svH] at hlt sj ⊢
   refine V.r0 (V.a2 jiP hlt) ?_
   refine jbA (β:=Unit) 2 (fun _=>True) (fun _=>[(7,.any),(6,.ints .i64 u)]) (fun _=>[(30,.gone)]) ?_ ?_
   ·refine Lp.ghostSlot 30 6  .i64 (by decide) ?_
    (conv=>whnf)
    rw[E0]
    refine jad (0:Nat) (fun k=>k≤n) (fun k=>n-k) (fun k=>[(7,.int .i64 (k:Nat)),(6,.osl 30 0 k)]) (fun k=>[(30,.arr .i64 (E k))]) ?_ ?_ ?_
    ·exact V.wk
    ·exact ji2 _
    intro k hk
    try dsimp only at hk ⊢
    have hkc:((k:Int)+1)=((k+1:Nat):Int):=by omega
    have ek:=Es k
    have lk:=El k
    by_cases hkn:k<n
    ·have hlk:decide ((k:Int)<n)=true:=decide_eq_true (by omega)
     have sk:=sj k hkn
     have e1:List.take 1 (List.drop 0 [F k])=[F k]:=rfl
     have e2:k+[F k].length=k+1:=rfl
     (conv=>whnf)
     (try simp only[jiP,hzi,hlk,hkc,e1,e2,ek])
     repeat ((first|refine V.s1 ?_|((try ((with_reducible refine .ext ?_);(conv=>whnf);(try simp only[jiP,hzi,hlk,hkc,e1,e2,ek])));(with_reducible refine jaa (r:=?_) ?_ ?_);rotate_left;(focus (first|exact(sk)));(conv=>whnf)));(try simp only[jiP,hzi,hlk,hkc,e1,e2,ek]))
     exact⟨k+1,by omega,by omega,V.wk⟩
    ·have hlk:decide ((k:Int)<n)=false:=decide_eq_false (by omega)
     obtain rfl:k=n:=by omega
     refine V.r0 (V.a3 jiP hzi hlk) ?_
     rw[En]
     refine⟨(),trivial,?_⟩
     try dsimp only
     refine Wk.pub 30 ?_
     (conv=>whnf)
     have tu:List.take k u=u:=jjW (by omega)
     simp only[tu,ji8,jj1]
     exact V.wk
   intro _ _
   try dsimp only
   refine V.r0 jiP ?_
   rw[← eu]
   first|exact⟨1,by omega,by omega,V.wk⟩|exact⟨2,by omega,by omega,V.wk⟩|exact⟨3,by omega,by omega,V.wk⟩|exact⟨4,by omega,by omega,V.wk⟩
 ·have hlf:decide ((j:Int)<out)=false:=decide_eq_false hjo
  obtain rfl:out=(j:Int):=by omega
  rcases (show j=1∨j=2∨j=3∨j=4 by omega) with rfl|rfl|rfl|rfl
  all_goals
   simp only[sv4,svH]
   refine V.r0 (V.a2 jiP hlf) ?_
   exact Fin.of rfl
theorem rsteep_bad (zs data:List Int)(out:Int)(ck:Cl 35 [.agg [.ints .i64 zs,.int .i64 out,.ints .i64 data]] (.bool false)) :
  Cl 23 [.agg [.ints .i64 zs,.int .i64 out,.ints .i64 data]] (.tup [.nil,.int .i64 100]):=by
 refine V.en tbOk Tryz.func23 ?_
 refine V.r1 @ji8 ck ?_
 exact Fin.of rfl
theorem rsteep_t {zs data:List Int}{out:Int}(hg:jag zs out data=true)(hl:zs.length≤4) :
  Cl 23 [.agg [.ints .i64 zs,.int .i64 out,.ints .i64 data]] (.tup [.slf 1 out.toNat (fun j=>List.take 1 (List.drop (j*1) (pce (outS zs data out zs.length) out.toNat))),.int .i64 0]):=by
 have hG:=jaZ hg
 have og:=jap hg
 obtain⟨ns,hn0,hn1,hn2⟩:=nz_of hG.2.2.2.2.1
 subst hn0
 have hlen:(nz ns).length=ns.length:=by simp[nz]
 have ck:Cl 35 [.agg [.ints .i64 (nz ns),.int .i64 out,.ints .i64 data]] (.bool true):=by
  have c:=jcc (nz ns) out data (by omega) (by omega)
  rw[hg] at c
  exact c
 have hd:(data.length:Int)=(PR ns:Nat)*out:=by rw[og.2.2.1.2,jcQ]
 have w:=rsteep_w (nz ns) data out ns.length (fun j i=>sdM (nz ns) data out ns i j (PR ns)*((nz ns).getD i 0-1)) hlen (by omega) og.1 ck (fun j i hj hi=>rsteep_c hg hi hj)
 have e:∀ m,m≤out.toNat→pce (fun j=>(List.range ns.length).map (fun i=>sdM (nz ns) data out ns i j (PR ns)*((nz ns).getD i 0-1))) m=pce (outS (nz ns) data out (nz ns).length) m:=fun m=>by
  induction m with
  | zero=>intro _;rfl
  | succ m ih=>
   intro hm
   simp only[pce]
   rw[ih (by omega)]
   congr 2
   congr 1
   apply List.ext_getElem
   ·rw[jdN];simp[nz]
   ·intro i h1 h2
    have s:=steep_is hn2 og.1.1 hd (j:=m) (by omega) (i:=i) (by simpa using h1)
    rw[jjF,jjI (by rw[jdN,hlen];simpa using h1)] at s
    simp only[List.getElem_map,List.getElem_range]
    rw[← s]
    simp only[hlen,Option.getD_some]
 rw[e _ (jjc _)] at w
 exact w
end Go.Proofs.YtbnghipgicmpdaaGreatDoor
end
section
namespace Go.Proofs.YtbnghipgicmpdaaGreatDoor
open Go Go.V Go.Nb
theorem near_fl (x : Rat) (s : Nat) : (x * ((s : Int) : Rat) + Rat.divInt 1 2).num / ((x * ((s : Int) : Rat) + Rat.divInt 1 2).den : Int) = nearZ x s := by
  rw [← Rat.floor_def]
  have h1 := (near_half x s).1
  have b := (nearS_bd x s).2
  have e : ((2 * s : Nat) : Int) = 2 * (s : Int) := by omega
  have d2 : Rat.divInt 1 2 = 1 / 2 := by rw [Rat.divInt_eq_div]; rfl
  have hp : (0 : Rat) < ((x.den : Int) : Rat) := by exact_mod_cast (show (0 : Int) < (x.den : Int) from by have := x.den_pos; omega)
  rw [d2]
  obtain ⟨z, hz⟩ : ∃ z, nearZ x s = z := ⟨_, rfl⟩
  rw [hz] at h1 b ⊢
  rw [e, jjD, Rat.intCast_sub, jjD] at h1
  have hi : x * ((s : Int) : Rat) + 1 / 2 < ((z + 1 : Int) : Rat) := by
    rcases Rat.le_total (a := ((z + 1 : Int) : Rat)) (b := x * ((s : Int) : Rat) + 1 / 2) with g | g
    · exfalso
      rw [Rat.intCast_add] at g
      have g2 : ((2 * z + 1 : Int) : Rat) ≤ x * ((2 * (s : Int) : Int) : Rat) := by
        rw [Rat.intCast_add, jjD, jjD]
        grind
      have g3 := Rat.mul_le_mul_of_nonneg_right g2 (Rat.le_of_lt hp)
      have g4 : x * ((2 * (s : Int) : Int) : Rat) * ((x.den : Int) : Rat) = ((x.num * (2 * (s : Int)) : Int) : Rat) := by
        rw [jjD x.num, num_eq]
        grind
      rw [g4, ← jjD] at g3
      have g5 := Rat.intCast_le_intCast.1 g3
      have e1 : (2 * z + 1) * (x.den : Int) = 2 * (z * x.den) + x.den := by rw [jjx, jjy, jjp]
      have e2 : x.num * (2 * (s : Int)) = 2 * (x.num * s) := Int.mul_left_comm _ _ _
      rw [e1, e2] at g5
      omega
    · exact Rat.lt_of_le_of_ne g (fun h => by
        have g2 : ((2 * z + 1 : Int) : Rat) = x * ((2 * (s : Int) : Int) : Rat) := by
          rw [Rat.intCast_add] at h
          rw [Rat.intCast_add, jjD, jjD]
          grind
        have g4 : x * ((2 * (s : Int) : Int) : Rat) * ((x.den : Int) : Rat) = ((x.num * (2 * (s : Int)) : Int) : Rat) := by
          rw [jjD x.num, num_eq]
          grind
        rw [← g2, ← jjD] at g4
        have g5 := Rat.intCast_inj.1 g4
        have e1 : (2 * z + 1) * (x.den : Int) = 2 * (z * x.den) + x.den := by rw [jjx, jjy, jjp]
        have e2 : x.num * (2 * (s : Int)) = 2 * (x.num * s) := Int.mul_left_comm _ _ _
        rw [e1, e2] at g5
        omega)
  have lo : ((z : Int) : Rat) ≤ x * ((s : Int) : Rat) + 1 / 2 := by grind
  have a := Rat.le_floor_iff.2 lo
  rcases Int.lt_or_le z (x * ((s : Int) : Rat) + 1 / 2).floor with g | g
  · have := Rat.le_floor_iff.1 (show z + 1 ≤ (x * ((s : Int) : Rat) + 1 / 2).floor by omega)
    exact absurd hi (Rat.not_lt.2 this)
  · omega
theorem rnearest_c (y:Rat)(hy:Q4 160 y):Cl 121 [raD y] (plD ((y+Rat.divInt 1 2).num/((y+Rat.divInt 1 2).den:Int))):=by
 have q2:Q4 1 (Rat.divInt 1 2):=⟨Sm.lit (by decide +kernel),Sm.lit (by decide +kernel)⟩
 have q:=jhF 1 2 (by constructor<;>decide) (by constructor<;>decide) (by decide)
 have p:=jgz y (Rat.divInt 1 2) (hy.mono (by omega)) (q2.mono (by omega))
 have yq:Q4 1000 (y+Rat.divInt 1 2):=by
  rw[jfF]
  exact Q4.of ((((hy.1.mul q2.2).mono (show 160+1≤200 by omega)).add ((q2.1.mul hy.2).mono (show 1+160≤200 by omega))).mono (by omega)) ((hy.2.mul q2.2).mono (by omega)) (Int.mul_ne_zero (jcH y) (jcH _))
 have d:=down_c (y+Rat.divInt 1 2) (yq.mono (by omega))
 generalize y+Rat.divInt 1 2=w at *
 generalize Rat.divInt 1 2=h at *
 refine V.en tbOk Tryz.func121 ?_
 refine V.r0 @ji8 ?_
 refine⟨(V.tk [0] (V.e1 1 [0] (V.e1 2 [] (V.e1 3 [] (V.e1 4 [] .done))))),[],V.pok,.go (jac ?_)⟩
 refine V.r3 @ji8 q p d ?_
 exact Fin.of rfl
theorem jhC {n:Nat}{x:Rat}(h:Fq n x)(h0:0<n∧n≤600)(hb:0≤x∧x≤1):Cl 64 [frT x,.int .i64 65535] (.tup [.int .i64 (nearZ x 65535),.int .i64 0]):=by
 have ok:=h.ok h0.1 h0.2
 have r:=jeA ok
 have i:=rin_f ok
 have q:=jhF 65535 1 (by constructor<;>decide) (by constructor<;>decide) (by decide)
 have qx:Q4 151 x:=by
  obtain⟨o,e⟩:=jaD ok
  have c:=q4_qv o
  rw[e] at c
  exact c
 have q1:Q4 2 (Rat.divInt 65535 1):=⟨Sm.lit (by decide +kernel),Sm.lit (by decide +kernel)⟩
 have t:=jgV x (Rat.divInt 65535 1) (qx.mono (by omega)) (q1.mono (by omega))
 have qt:Q4 160 (x*Rat.divInt 65535 1):=(qx.mul q1).mono (by omega)
 have nr:=rnearest_c _ qt
 have f:=near_fl x 65535
 rw[← int_q] at f
 have f':(x*Rat.divInt 65535 1+Rat.divInt 1 2).num/((x*Rat.divInt 65535 1+Rat.divInt 1 2).den:Int)=nearZ x 65535:=f
 rw[f'] at nr
 have b:=nearU_bd hb.1 hb.2
 have ig:=integral_c (nearZ x 65535) ((Sm.lit (k:=2) (by omega)).mono (by omega))
 rw[if_pos (by omega),if_pos (by omega)] at ig
 clear f f' qt q1
 unfold frT at *
 generalize nearZ x 65535=z at *
 generalize x*Rat.divInt 65535 1=y at *
 generalize Rat.divInt 65535 1=w at *
 refine V.en tbOk Tryz.func64 ?_
 refine V.r6 @ji8 r i q t nr ig ?_
 exact Fin.of rfl
end Go.Proofs.YtbnghipgicmpdaaGreatDoor
end
section
namespace Go.Proofs.YtbnghipgicmpdaaGreatDoor
open Go Go.V Go.Nb Go.Gr
def rx10:Nat→D
 | 0 => .nil
 | k+1 => .bsl 87 0 (k+1) 2
def rxH (X:Nat→Tx):Nat→Hp
 | 0=>[]
 | k+1=>[(87,.box (wce X (k+1)))]
theorem argR {f:Nat}{g a a' r:D}(h:Cl f [g,a] r)(A:_root_.Go.V.Fin a a'):Cl f [g,a'] r:=Called.arg (show FinL [g,a] [g,a'] from ⟨Fin.same _,A,trivial⟩) h
theorem rrefine_b (zs data l:List Int)(out:Int)(ck:Cl 35 [.agg [.ints .i64 zs,.int .i64 out,.ints .i64 data]] (.bool false)) :
  Cl 27 [.agg [.ints .i64 zs,.int .i64 out,.ints .i64 data],.ints .i64 l] (.tup [.agg [.nil,.int .i64 0,.nil],.int .i64 100]):=by
 refine V.en tbOk Tryz.func27 ?_
 refine V.r1 @ji8 ck ?_
 exact Fin.of rfl
theorem rrefine_ln (zs data l:List Int)(out:Int)(h:l.length≠zs.length)(ck:Cl 35 [.agg [.ints .i64 zs,.int .i64 out,.ints .i64 data]] (.bool true)) :
  Cl 27 [.agg [.ints .i64 zs,.int .i64 out,.ints .i64 data],.ints .i64 l] (.tup [.agg [.nil,.int .i64 0,.nil],.int .i64 2]):=by
 refine V.en tbOk Tryz.func27 ?_
 refine V.r1 @ji8 ck ?_
 refine Cnd.yes (decide_eq_true (show ((l.length:Int)≠(zs.length:Int)) from by omega)) ?_
 refine V.r0 @ji8 ?_
 exact Fin.of rfl
theorem rrefine_sz (zs data l:List Int)(out:Int)(m:Nat)(h:l.length=zs.length)(hm:m<l.length)(hl:l.length≤4)(h1:∀ k,k<m→2≤l.getD k 0∧l.getD k 0≤9)(h2:¬ (2≤l.getD m 0∧l.getD m 0≤9))(ck:Cl 35 [.agg [.ints .i64 zs,.int .i64 out,.ints .i64 data]] (.bool true)) :
  Cl 27 [.agg [.ints .i64 zs,.int .i64 out,.ints .i64 data],.ints .i64 l] (.tup [.agg [.nil,.int .i64 0,.nil],.int .i64 2]):=by
 refine V.en tbOk Tryz.func27 ?_
 refine V.r1 @ji8 ck ?_
 refine Cnd.no (decide_eq_false (show ¬ ((l.length:Int)≠(zs.length:Int)) by omega)) ?_
 refine V.r0 @ji8 ?_
 refine jad ((0:Nat)) (fun k=>k≤m) (fun k=>m-k) (fun k=>[(6,.int .i64 k)]) (fun k=>[]) ?_ ?_ ?_
 ·exact V.wk
 ·exact ji2 _
 intro k hk
 have hkc:((k:Int)+1)=((k+1:Nat):Int):=by omega
 have hlt:decide ((k:Int)<l.length)=true:=decide_eq_true (by omega)
 by_cases hkm:k=m
 ·subst hkm
  by_cases hb:l.getD k 0<2
  ·have e1:decide (l.getD k 0<2)=true:=decide_eq_true hb
   (conv=>whnf)
   (try simp only[hlt,e1,jjb])
   repeat ((first|refine V.s1 ?_|((try ((with_reducible refine .ext ?_);(conv=>whnf);(try simp only[hlt,e1,jjb])));(with_reducible refine jaa (r:=?_) ?_ ?_);rotate_left;(focus (first|fail));(conv=>whnf))|((refine And.intro (fun _ h=>by cases h) ?_);(conv=>whnf)));(try simp only[hlt,e1,jjb]))
   refine Cnd.yes rfl ?_
   refine V.r0 @ji8 ?_
   exact Fin.of rfl
  ·have e1:decide (l.getD k 0<2)=false:=decide_eq_false hb
   have e2:decide (l.getD k 0>9)=true:=decide_eq_true (by omega)
   (conv=>whnf)
   (try simp only[hlt,e1,e2,jjb])
   repeat ((first|refine V.s1 ?_);(try simp only[hlt,e1,e2,jjb]))
   exact Fin.of rfl
 ·have h3:=h1 k (by omega)
  have e1:decide (l.getD k 0<2)=false:=decide_eq_false (by omega)
  have e2:decide (l.getD k 0>9)=false:=decide_eq_false (by omega)
  (conv=>whnf)
  (try simp only[hlt,e1,e2,hkc,jjb])
  repeat ((first|refine V.s1 ?_);(try simp only[hlt,e1,e2,hkc,jjb]))
  exact⟨k+1,by omega,by omega,V.wk⟩
theorem jin:type_of% @jjb∧type_of% @ji9∧type_of% @ji8∧type_of% @tn0∧type_of% @tn1∧type_of% @tn2∧type_of% @tn3:=⟨@jjb,@ji9,@ji8,@tn0,@tn1,@tn2,@tn3⟩
theorem zX112_1:type_of% @jjb∧type_of% @jjS ∧ type_of% @ji9∧type_of% @ji8∧type_of% @tn0∧type_of% @tn1∧type_of% @tn2∧type_of% @tn3:=⟨@jjb,@jjS,@ji9,@ji8,@tn0,@tn1,@tn2,@tn3⟩
theorem jeX (zs data:List Int)(out:Int)(ns:List Nat)(n:Nat)(X Y:Nat→Nat→Tx)(W:Nat→Nat→Int)(hn:1≤n∧n≤3)(hl:zs.length=n)(hns:ns.length=n)(h2:∀ n∈ns,2≤n∧n≤9)(ho:1≤out∧out≤4)(hc:(PR ns:Nat)*out≤4096)
  (ck:Cl 35 [.agg [.ints .i64 zs,.int .i64 out,.ints .i64 data]] (.bool true))
  (ov:∀ m i,m<PR ns→i<n→Cl 39 [.int .i64 ((ixl ns m).getD i 0),.int .i64 ((nz ns).getD i 0-1)] (.agg [.str (X m i).1,.str (X m i).2]))
  (ev:∀ m,m<PR ns→Cl 14 [.agg [.ints .i64 zs,.int .i64 out,.ints .i64 data],.slf 2 n (fun j=>[.str (X m j).1,.str (X m j).2])] (.tup [.slf 2 out.toNat (fun j=>[.str (Y m j).1,.str (Y m j).2]),.int .i64 0]))
  (nr:∀ m j,m<PR ns→j<out.toNat→Cl 64 [.agg [.str (Y m j).1,.str (Y m j).2],.int .i64 65535] (.tup [.int .i64 (W m j),.int .i64 0])) :
  Cl 27 [.agg [.ints .i64 zs,.int .i64 out,.ints .i64 data],.ints .i64 (nz ns)] (.tup [.agg [.ints .i64 (nz ns),.int .i64 out,.ints .i64 (flat ns (fun m=>(List.range out.toNat).map (W m)) (PR ns))],.int .i64 0]):=by
 have hlen:(nz ns).length=n:=by simp[nz,hns]
 have hli:(((nz ns).length:Nat):Int)=n:=by rw[hlen]
 have hpos:∀ n∈ns,0<n:=fun n hn=>by have:=h2 n hn;omega
 have hPR:=PR_le (show ns.length≤4 by omega) h2
 have pc:Cl 62 [.ints .i64 (nz ns)] (.int .i64 (PR ns:Nat)):=by
  have hall:(nz ns).all (fun n=>decide (2≤n∧n≤9))=true:=jjE.2 fun z hz=>by
   unfold nz at hz
   obtain⟨a,ha,rfl⟩:=List.mem_map.1 hz
   have:=h2 a ha
   exact decide_eq_true (by omega)
  have hp:=jcR hall
  have c:=jeE (nz ns) (fun k _=>(hp k).2.2 (by omega)) (by omega)
  rw[jcQ] at c
  exact c
 have p0:0≤(PR ns:Nat)*out:=ji6 (by omega) (by omega)
 refine V.en tbOk Tryz.func27 ?_
 refine V.r1 @ji8 ck ?_
 refine Cnd.no (decide_eq_false (show ¬ (((nz ns).length:Int)≠(zs.length:Int)) by omega)) ?_
 refine V.r0 @ji8 ?_
 refine jad ((0:Nat)) (fun k=>k≤n) (fun k=>n-k) (fun k=>[(6,.int .i64 k)]) (fun k=>[]) ?_ ?_ ?_
 ·exact V.wk
 ·exact ji2 _
 intro k hk
 have hkc:((k:Int)+1)=((k+1:Nat):Int):=by omega
 by_cases hkn:k<n
 ·have hlt:decide ((k:Int)<n)=true:=decide_eq_true (by omega)
  have hz:2≤(nz ns).getD k 0∧(nz ns).getD k 0≤9:=by
   have:=h2 ns[k] (jjJ _)
   simp[nz,jjF,show k<ns.length by omega]
   omega
  have e1:decide ((nz ns).getD k 0<2)=false:=decide_eq_false (by omega)
  have e2:decide ((nz ns).getD k 0>9)=false:=decide_eq_false (by omega)
  (conv=>whnf)
  (try simp only[hli,hlt,e1,e2,hkc,jjb])
  repeat ((first|refine V.s1 ?_);(try simp only[hli,hlt,e1,e2,hkc,jjb]))
  exact⟨k+1,by omega,by omega,V.wk⟩
 have hlt:decide ((k:Int)<n)=false:=decide_eq_false (by omega)
 obtain rfl:k=n:=by omega
 clear hkn hkc hk
 have h40:decide ((PR ns:Nat)*out>4096)=false:=decide_eq_false (by omega)
 refine V.r0 (V.a3 jin hli hlt) ?_
 refine⟨(V.tk [0,2,3] (V.e1 1 [3,2] (V.tk [4,5] .done))),[],V.pok,.go (jac ?_)⟩
 refine V.r1 (V.a3 jin h40 hlen) pc ?_
 refine⟨(V.tk [1,3,4] (.ev (.cons 0 [4,3,1] (.ev (.cons 2 [4,3] (V.tk [5] (V.e1 6 [5,4,3] (V.e1 7 [] .done))) (.cons 6 [4,3,1] (V.e1 2 [4,3] (V.tk [5] (V.e1 7 [] .done))) .nil))) (.cons 6 [4,3,1] (V.e1 0 [4,3,1] (V.e1 2 [4,3] (V.tk [5] (V.e1 7 [] .done)))) .nil)))),[],V.pok,?_⟩
 refine jab [(7,.box 7 0)] [(7,.box [.osl 56 0 k,.int .i64 out,.nil]),(56,.arr .i64 (nz ns))] ?_ ?_
 ·exact V.d0 (V.a2 zX112_1 hlen)
 refine V.r0 jin ?_
 refine Lp.ghostBox 112 7 2 .i64 (by decide) (by decide) ?_
 (conv=>whnf)
 obtain⟨FL,hF0,hFs,hFl⟩:∃ FL:Nat→List Int,FL 0=[]∧(∀ m,FL (m+1)=FL m++(List.range out.toNat).map (W m)) ∧ ∀ m,FL m=flat ns (fun m=>(List.range out.toNat).map (W m)) m:=⟨flat ns (fun m=>(List.range out.toNat).map (W m)),rfl,fun m=>jbZ _ _ _,fun m=>rfl⟩
 have hFn:∀ m,(FL m).length=m*out.toNat:=fun m=>by
  induction m with
  | zero=>rw[hF0];simp
  | succ m ih=>rw[hFs,jjL,ih,ji7];simp
 rw[← hFl]
 clear hFl
 refine jad (0:Nat) (fun m=>m≤PR ns) (fun m=>PR ns-m) (fun m=>[(8,.int .i64 (m:Nat))]) (fun m=>[(7,.box [.osl 56 0 k,.int .i64 out,.osl 112 0 (FL m).length]),(112,.arr .i64 (FL m))]) ?_ ?_ ?_
 ·rw[hF0]
  exact V.wk
 ·exact ji2 _
 intro m hm
 try dsimp only at hm ⊢
 have hmc:((m:Int)+1)=((m+1:Nat):Int):=by omega
 by_cases hmn:m<PR ns
 ·have hlm:decide ((m:Int)<(PR ns:Nat))=true:=decide_eq_true (by omega)
  have ix:=rindex_c ns m (fun n hn=>by have:=h2 n hn;omega) (by omega) (by omega)
  have il:=jak ns m
  have hFm:=hFn m
  have hFb:m*out.toNat≤6561*4:=Nat.mul_le_mul (by omega) (by omega)
  have evm:Cl 14 [.agg [.ints .i64 zs,.int .i64 out,.ints .i64 data],.slf 2 k (fun j=>List.take 2 (List.drop (j*2) (wce (X m) k)))] (.tup [.slf 2 out.toNat (fun j=>[.str (Y m j).1,.str (Y m j).2]),.int .i64 0]):=argR (ev m hmn) (jbO fun j hj=>jfV (X m) k j hj)
  have ovm:=fun i hi=>ov m i hmn hi
  have nrm':=fun j hj=>nr m j hmn hj
  have hFsm:=hFs m
  obtain⟨x,hx⟩:∃ x,X m=x:=⟨_,rfl⟩
  obtain⟨y,hy⟩:∃ y,Y m=y:=⟨_,rfl⟩
  obtain⟨w,hw⟩:∃ w,W m=w:=⟨_,rfl⟩
  obtain⟨q,hq⟩:∃ q,ixl ns m=q:=⟨_,rfl⟩
  rw[hx,hy] at evm
  rw[hq] at ix il
  rw[hw] at hFsm
  simp only[hx,hy,hw,hq] at ovm nrm'
  clear hx hy hw hq
  refine V.r2 (V.a3 jin hlen hlm) pc ix ?_
  refine jbA (β:=Unit) 4 (fun _=>True) (fun _=>[(11,.any),(10,V.sl2 k (wce x k))]) (fun _=>[(87,.gone)]) ?_ ?_
  rotate_left
  ·intro _ _
   try dsimp only
   refine V.r1 jin evm ?_
   obtain⟨E,hE0,hEs,hEn,hEl⟩:∃ E:Nat→List Int,E 0=FL m∧(∀ j,j<out.toNat→E j++[w j]=E (j+1))∧E out.toNat=FL (m+1) ∧ ∀ j,j≤out.toNat→(E j).length≤30000:=by
    refine⟨fun j=>FL m++((List.range out.toNat).map w).take j,by simp,fun j hj=>?_,?_,fun j hj=>?_⟩
    ·show FL m++((List.range out.toNat).map w).take j++[w j]=FL m++((List.range out.toNat).map w).take (j+1)
     rw[jbJ _ hj,jjN]
    ·show FL m++_=_
     rw[hFsm,jjW (by simp)]
    ·show (FL m++_).length≤_
     rw[jjL,jjM]
     omega
   rw[← hE0]
   refine jad (0:Nat) (fun j=>j≤out.toNat) (fun j=>out.toNat-j) (fun j=>[(14,.int .i64 (j:Nat))]) (fun j=>[(7,.box [.osl 56 0 k,.int .i64 out,.osl 112 0 (E j).length]),(112,.arr .i64 (E j))]) ?_ ?_ ?_
   ·exact V.wk
   ·exact ji2 _
   intro j hj
   try dsimp only at hj ⊢
   have hjc:((j:Int)+1)=((j+1:Nat):Int):=by omega
   by_cases hjo:j<out.toNat
   ·have hlj:decide ((j:Int)<(out.toNat:Nat))=true:=decide_eq_true (by omega)
    have nj:=nrm' j hjo
    have hEk:=hEs j hjo
    have hEl1:=hEl j hj
    have hEl2:(E j).length+1=(E (j+1)).length:=by rw[← hEk];simp
    have e1:List.take 1 (List.drop 0 [w j])=[w j]:=rfl
    have e2:(E j).length+[w j].length=(E (j+1)).length:=by rw[← hEk];simp
    (conv=>whnf)
    (try simp only[jin,hlj,hjc,e1,e2,hEk])
    repeat ((first|refine V.s1 ?_|((try ((with_reducible refine .ext ?_);(conv=>whnf);(try simp only[jin,hlj,hjc,e1,e2,hEk])));(with_reducible refine jaa (r:=?_) ?_ ?_);rotate_left;(focus (first|exact(nj)));(conv=>whnf)));(try simp only[jin,hlj,hjc,e1,e2,hEk]))
    exact⟨j+1,by omega,by omega,V.wk⟩
   ·have hlj:decide ((j:Int)<(out.toNat:Nat))=false:=decide_eq_false (by omega)
    obtain rfl:j=out.toNat:=by omega
    rw[hEn]
    refine V.r0 (V.a3 jin hlj hmc) ?_
    exact⟨m+1,by omega,by omega,V.wk⟩
  refine jad (0:Nat) (fun i=>i≤k) (fun i=>k-i) (fun i=>[(11,.int .i64 (i:Nat)),(10,rx10 i)]) (fun i=>rxH x i) ?_ ?_ ?_
  ·exact V.wk
  ·exact ji2 _
  intro i hi
  try dsimp only at hi ⊢
  by_cases hik:i<k
  ·have hlt2:decide ((i:Int)<k)=true:=decide_eq_true (by omega)
   have c:=ovm i hik
   have zi:2≤(nz ns).getD i 0∧(nz ns).getD i 0≤9:=by
    have:=h2 ns[i] (jjJ _)
    simp[nz,jjF,show i<ns.length by omega]
    omega
   rcases (show i=0∨i=1∨i=2 by omega) with rfl|rfl|rfl
   ·simp only[k0,rx10,rxH] at hlt2 ⊢
    refine V.r0 (V.a3 jin hli hlt2) ?_
    refine⟨Pq17z,[],V.pok,?_⟩
    refine jab [(87,.bsl 87 0 1 2),(10,.bsl 87 0 1 2)] [(87,.box (wce x 1))] ?_ ?_
    ·exact V.d1 jin c
    refine V.r0 jin ?_
    exact⟨1,by omega,by omega,V.wk⟩
   ·simp only[k1,rx10,rxH] at hlt2 ⊢
    refine V.r0 (V.a3 jin hli hlt2) ?_
    refine⟨Pq17z,[],V.pok,?_⟩
    refine jab [(87,.bsl 87 0 2 2),(10,.bsl 87 0 2 2)] [(87,.box (wce x 2))] ?_ ?_
    ·exact V.d1 jin c
    refine V.r0 jin ?_
    exact⟨2,by omega,by omega,V.wk⟩
   ·simp only[k2,rx10,rxH] at hlt2 ⊢
    refine V.r0 (V.a3 jin hli hlt2) ?_
    refine⟨Pq17z,[],V.pok,?_⟩
    refine jab [(87,.bsl 87 0 3 2),(10,.bsl 87 0 3 2)] [(87,.box (wce x 3))] ?_ ?_
    ·exact V.d1 jin c
    refine V.r0 jin ?_
    exact⟨3,by omega,by omega,V.wk⟩
  ·have hlt2:decide ((i:Int)<k)=false:=decide_eq_false (by omega)
   obtain rfl:i=k:=by omega
   rcases (show i=1∨i=2∨i=3 by omega) with rfl|rfl|rfl
   all_goals
    simp only[rx10,rxH] at hlt2 ⊢
    refine V.r0 (V.a3 jin hli hlt2) ?_
    refine⟨(),trivial,?_⟩
    try dsimp only
    refine Wk.pub 87 ?_
    (conv=>whnf)
    simp only[ji8]
    exact V.wk
 ·have hlm:decide ((m:Int)<(PR ns:Nat))=false:=decide_eq_false (by omega)
  obtain rfl:m=PR ns:=by omega
  refine V.r1 (V.a3 jin hlen hlm) pc ?_
  rw[jjW (show (nz ns).length≤k by omega),jjW (jjc _)]
  exact Fin.of rfl
theorem refine_b (zs data l:List Int)(out:Int)(ck:Cl 58 [.agg [.ints .i64 zs,.int .i64 out,.ints .i64 data]] (.int .i64 100)) :
  Cl 26 [.agg [.ints .i64 zs,.int .i64 out,.ints .i64 data],.ints .i64 l] (.tup [.agg [.nil,.int .i64 0,.nil],.int .i64 100]):=by
 refine V.en tbOk Tryz.func26 ?_
 refine V.r1 @ji8 ck ?_
 exact Fin.of rfl
theorem refine_ln (zs data l:List Int)(out:Int)(h:l.length≠zs.length)(ck:Cl 58 [.agg [.ints .i64 zs,.int .i64 out,.ints .i64 data]] (.int .i64 0)) :
  Cl 26 [.agg [.ints .i64 zs,.int .i64 out,.ints .i64 data],.ints .i64 l] (.tup [.agg [.nil,.int .i64 0,.nil],.int .i64 2]):=by
 refine V.en tbOk Tryz.func26 ?_
 refine V.r1 @ji8 ck ?_
 refine Cnd.yes (decide_eq_true (show ((l.length:Int)≠(zs.length:Int)) from by omega)) ?_
 refine V.r0 @ji8 ?_
 exact Fin.of rfl
def cnI (out:Int)(l:List Int):Nat→Int
 | 0=>out
 | k+1=>cnI out l k*l.getD k 0
theorem cnI_bd {out:Int}{l:List Int}(ho:1≤out∧out≤4):∀ k,(∀ j,j<k→2≤l.getD j 0∧l.getD j 0≤9)→1≤cnI out l k∧cnI out l k≤4*9^k
 | 0,_=>by simp only[cnI];omega
 | k+1,h=>by
  have ih:=cnI_bd (l:=l) ho k (fun j hj=>h j (by omega))
  have hb:=h k (by omega)
  simp only[cnI,Int.pow_succ]
  generalize l.getD k 0=b at hb
  generalize (9:Int)^k=p at ih
  have h1:cnI out l k*1≤cnI out l k*b:=jjq (by omega) (by omega)
  have h3:cnI out l k*b≤cnI out l k*9:=jjq (by omega) (by omega)
  omega
theorem refine_sz (zs data l:List Int)(out:Int)(m:Nat)(h:l.length=zs.length)(hm:m<l.length)(hl:l.length≤4)(ho:1≤out∧out≤4)(h1:∀ k,k<m→2≤l.getD k 0∧l.getD k 0≤9)(h2:¬ (2≤l.getD m 0∧l.getD m 0≤9))(ck:Cl 58 [.agg [.ints .i64 zs,.int .i64 out,.ints .i64 data]] (.int .i64 0)) :
  Cl 26 [.agg [.ints .i64 zs,.int .i64 out,.ints .i64 data],.ints .i64 l] (.tup [.agg [.nil,.int .i64 0,.nil],.int .i64 2]):=by
 refine V.en tbOk Tryz.func26 ?_
 refine V.r1 @ji8 ck ?_
 refine Cnd.no (decide_eq_false (show ¬ ((l.length:Int)≠(zs.length:Int)) by omega)) ?_
 refine V.r0 @ji8 ?_
 refine jad ((0:Nat)) (fun k=>k≤m) (fun k=>m-k) (fun k=>[(38,.int .i64 k),(7,.int .i64 (cnI out l k))]) (fun k=>[]) ?_ ?_ ?_
 ·exact V.wk
 ·exact ji2 _
 intro k hk
 have hkc:((k:Int)+1)=((k+1:Nat):Int):=by omega
 have hlt:decide ((k:Int)<l.length)=true:=decide_eq_true (by omega)
 have hck:=cnI_bd (l:=l) ho k (fun j hj=>h1 j (by omega))
 have hk9:(4:Int)*9^k≤26244:=rpow9 k (by omega)
 have hck2:1≤cnI out l k∧cnI out l k≤26244:=by omega
 clear hk9 hck
 by_cases hkm:k=m
 ·subst hkm
  by_cases hb:l.getD k 0<2
  ·have e1:decide (l.getD k 0<2)=true:=decide_eq_true hb
   (conv=>whnf)
   (try simp only[hlt,e1,jjb])
   repeat ((first|refine V.s1 ?_|((try ((with_reducible refine .ext ?_);(conv=>whnf);(try simp only[hlt,e1,jjb])));(with_reducible refine jaa (r:=?_) ?_ ?_);rotate_left;(focus (first|fail));(conv=>whnf))|((refine And.intro (fun _ h=>by cases h) ?_);(conv=>whnf)));(try simp only[hlt,e1,jjb]))
   refine Cnd.yes rfl ?_
   refine V.r0 @ji8 ?_
   exact Fin.of rfl
  ·have e1:decide (l.getD k 0<2)=false:=decide_eq_false hb
   have e2:decide (l.getD k 0>9)=true:=decide_eq_true (by omega)
   (conv=>whnf)
   (try simp only[hlt,e1,e2,jjb])
   repeat ((first|refine V.s1 ?_);(try simp only[hlt,e1,e2,jjb]))
   exact Fin.of rfl
 ·have h3:=h1 k (by omega)
  have e1:decide (l.getD k 0<2)=false:=decide_eq_false (by omega)
  have e2:decide (l.getD k 0>9)=false:=decide_eq_false (by omega)
  have e3:cnI out l k*l.getD k 0=cnI out l (k+1):=rfl
  have hck1:=cnI_bd (l:=l) ho (k+1) (fun j hj=>h1 j (by omega))
  have hk9:(4:Int)*9^(k+1)≤26244:=rpow9 (k+1) (by omega)
  have hck3:1≤cnI out l (k+1)∧cnI out l (k+1)≤26244:=by omega
  clear hk9 hck1
  have hck4:1≤cnI out l k*l.getD k 0∧cnI out l k*l.getD k 0≤26244:=hck3
  (conv=>whnf)
  (try simp only[hlt,e1,e2,hkc,jjb])
  repeat ((first|refine V.s1 ?_);(try simp only[hlt,e1,e2,hkc,jjb]))
  exact⟨k+1,by omega,by omega,V.wk⟩
theorem eqT_f (n:Nat)(T:Nat→List Int)(hn:n≤40)(hT:∀ j,(T j).length≤1000):Cl 24 [.slf 1 n (fun j=>[.ints .i64 (T j)]),.slf 1 n (fun j=>[.ints .i64 (T j)]),.fn 15 [] []] (.bool true):=by
 have eq:=fun j=>(jfm (T j) (T j) (by have:=hT j;omega) (by have:=hT j;omega))
 simp only[decide_true] at eq
 refine V.en tbOk Tryz.func24 ?_
 (conv=>whnf)
 (conv=>whnf)
 (try simp only[])
 repeat ((first|refine V.s1 ?_);(try simp only[]))
 refine Cnd.no (decide_eq_false (fun h=>h rfl)) ?_
 (conv=>whnf)
 (try simp only[])
 repeat ((first|refine V.s1 ?_);(try simp only[]))
 refine jad ((0:Nat)) (fun k=>k≤n) (fun k=>n-k) (fun k=>[(17,.int .i64 k)]) (fun k=>[]) ?_ ?_ ?_
 ·exact V.wk
 ·exact ji2 _
 intro k hk
 have hkc:((k:Int)+1)=((k+1:Nat):Int):=by omega
 by_cases hkn:k<n
 ·have hlt:decide ((k:Int)<n)=true:=decide_eq_true (by omega)
  have e:=eq k
  refine V.r1 (V.a3 hlt hkc @jjb) e ?_
  exact⟨k+1,by omega,by omega,V.wk⟩
 ·have hlt:decide ((k:Int)<n)=false:=decide_eq_false (by omega)
  refine V.r0 hlt ?_
  exact Fin.of rfl
def AlikeS (zs data:List Int)(out:Int):Prop:=
 ∃ (n:Nat) (T:Nat→List Int) (e:Int),Cl 22 [.agg [.ints .i64 zs,.int .i64 out,.ints .i64 data]] (.tup [.slf 1 n (fun j=>[.ints .i64 (T j)]),.int .i64 e])∧Cl 23 [.agg [.ints .i64 zs,.int .i64 out,.ints .i64 data]] (.tup [.slf 1 n (fun j=>[.ints .i64 (T j)]),.int .i64 e]) ∧
  Cl 24 [.slf 1 n (fun j=>[.ints .i64 (T j)]),.slf 1 n (fun j=>[.ints .i64 (T j)]),.fn 15 [] []] (.bool true)
theorem steep_any {zs data:List Int}{out:Int}(hg:jag zs out data=true)(ho3:out≤3)(hl:zs.length≤4):Cl 22 [.agg [.ints .i64 zs,.int .i64 out,.ints .i64 data]] (.tup [.slf 1 out.toNat (fun j=>List.take 1 (List.drop (j*1) (pce (outS zs data out zs.length) out.toNat))),.int .i64 0]):=by
 have og:=jap hg
 rcases (show out=1∨out=2∨out=3 by omega) with rfl|rfl|rfl
 ·exact jgq zs data _ hg hl rfl
 ·exact steep2_t zs data _ hg hl rfl
 ·exact steep3_t zs data _ hg hl rfl
theorem steep_b (zs data:List Int)(out:Int)(ck:Cl 58 [.agg [.ints .i64 zs,.int .i64 out,.ints .i64 data]] (.int .i64 100)):Cl 22 [.agg [.ints .i64 zs,.int .i64 out,.ints .i64 data]] (.tup [.nil,.int .i64 100]):=by
 refine V.en tbOk Tryz.func22 ?_
 refine V.r1 @ji8 ck ?_
 exact Fin.of rfl
theorem pce_a (U:Nat→List Int):∀ (n j:Nat),j<n→List.take 1 (List.drop (j*1) (pce U n))=[.ints .i64 (U j)]
 | n+1,j,h=>by
  have hl:∀ n,(pce U n).length=n:=fun n=>by
   induction n with
   | zero=>rfl
   | succ n ih=>simp only[pce,jjL,ih];simp
  rw[Nat.mul_one]
  simp only[pce]
  rcases jjk j n with g|g
  ·rw[jjU (by rw[hl];omega),jjT (by rw[jj0,hl];omega)]
   have:=pce_a U n j g
   rw[Nat.mul_one] at this
   exact this
  ·obtain rfl:j=n:=by omega
   rw[List.drop_append,jjX (by rw[hl];omega),hl,Nat.sub_self]
   rfl
theorem fin_nil1 (f:Nat→List D):_root_.Go.V.Fin (.slf 1 0 f) .nil:=⟨fun hp v hv=>by
 simp only[Den] at hv ⊢
 refine⟨none,0,hv,?_⟩
 simp⟩
theorem alikeS_c {zs data:List Int}{out:Int}(hs:zs.length≤4)(hd:data.length≤100000)(ho3:jag zs out data=true→out≤3):AlikeS zs data out:=by
 have k:=jcD zs out data (by omega) (by omega)
 have r:=jcc zs out data (by omega) (by omega)
 cases hg:jag zs out data with
 | false=>
  rw[hg] at k r
  have f:_root_.Go.V.Fin (.tup [.slf 1 0 (fun _=>[.ints .i64 []]),.int .i64 100]) (.tup [.nil,.int .i64 100]):=Fin.tup ⟨fin_nil1 _,Fin.of rfl,trivial⟩
  exact⟨_,_,_,(steep_b zs data out k).fin f,(rsteep_bad zs data out r).fin f,eqT_f 0 (fun _=>[]) (by omega) (fun _=>by simp)⟩
 | true=>
  have og:=jap hg
  have f:_root_.Go.V.Fin (.tup [.slf 1 out.toNat (fun j=>[.ints .i64 (outS zs data out zs.length j)]),.int .i64 0]) (.tup [.slf 1 out.toNat (fun j=>List.take 1 (List.drop (j*1) (pce (outS zs data out zs.length) out.toNat))),.int .i64 0]):=Fin.tup ⟨jbO fun j hj=>pce_a _ _ j hj,Fin.of rfl,trivial⟩
  exact⟨_,_,_,(steep_any hg (ho3 hg) hs).fin f,(rsteep_t hg hs).fin f,eqT_f out.toNat _ (by omega) (fun j=>by rw[jdN];omega)⟩
def jfH (zs data l:List Int)(out:Int):Prop:=
 ∃ (s:List Int) (p:Int) (d:List Int) (e:Int),Cl 26 [.agg [.ints .i64 zs,.int .i64 out,.ints .i64 data],.ints .i64 l] (.tup [.agg [.ints .i64 s,.int .i64 p,.ints .i64 d],.int .i64 e])∧Cl 27 [.agg [.ints .i64 zs,.int .i64 out,.ints .i64 data],.ints .i64 l] (.tup [.agg [.ints .i64 s,.int .i64 p,.ints .i64 d],.int .i64 e])∧Cl 28 [.agg [.ints .i64 s,.int .i64 p,.ints .i64 d],.agg [.ints .i64 s,.int .i64 p,.ints .i64 d]] (.bool true)
theorem same_g (s d:List Int)(o:Int)(hs:s.length≤100000)(hd:d.length≤100000):Cl 28 [gridD s o d,gridD s o d] (.bool true):=by
 have c:=rsame_c s o d s o d (by omega) (by omega) (by omega) (by omega)
 simpa using c
theorem jgT {zs data l:List Int}{out e:Int}(c:Cl 26 [.agg [.ints .i64 zs,.int .i64 out,.ints .i64 data],.ints .i64 l] (.tup [.agg [.nil,.int .i64 0,.nil],.int .i64 e]))(r:Cl 27 [.agg [.ints .i64 zs,.int .i64 out,.ints .i64 data],.ints .i64 l] (.tup [.agg [.nil,.int .i64 0,.nil],.int .i64 e])):jfH zs data l out:=by
 have f:_root_.Go.V.Fin (.tup [.agg [.ints .i64 [],.int .i64 0,.ints .i64 []],.int .i64 e]) (.tup [.agg [.nil,.int .i64 0,.nil],.int .i64 e]):=Fin.tup ⟨Fin.agg ⟨fin_nili _,Fin.of rfl,fin_nili _,trivial⟩,Fin.of rfl,trivial⟩
 exact⟨_,_,_,_,c.fin f,r.fin f,same_g [] [] 0 (by simp) (by simp)⟩
theorem bothR1 {z0 out : Int} {data : List Int} (hg : jag [z0] out data = true) (ts : List Nat) (ht : ts.length = 1) (h2 : ∀ n ∈ ts, 2 ≤ n ∧ n ≤ 9) (hc : cnP out ts 1 ≤ 4096) (hp : (PR ts : Nat) * out ≤ 4096) : jfH [z0] data (nz ts) out := by
  have og := jap hg
  have fx := fun m i => xR_fq h2 m i
  have p := refq1 hg ts ht h2 hc
  have ck : Cl 35 [.agg [.ints .i64 [z0], .int .i64 out, .ints .i64 data]] (.bool true) := by
    have c := jcc [z0] out data (by simp) (by omega)
    rw [hg] at c
    exact c
  have r := jeX [z0] data out ts 1 (fun m i => txq (xR ts m i)) (fun m j => txq (evQ [z0] out data (xR ts m 0) 0 0 j)) (rfW [z0] out data ts) (by omega) rfl ht h2 og.1 hp ck (fun m i hm hi => ?_) (fun m hm => ?_) (fun m j hm hj => ?_)
  · exact ⟨_, _, _, _, p, r, same_g _ _ _ (by simp [nz, ht]) (by
      have hl := jcB (ns := ts) (f := fun m => (List.range out.toNat).map (rfW [z0] out data ts m)) (m := PR ts) (fun j hj => by simp; omega)
      have := PR_le (show ts.length ≤ 4 by omega) h2
      show (flat _ _ _).length ≤ _
      omega)⟩
  · obtain ⟨n, hn⟩ : ∃ n, ts[i]? = some n := ⟨ts[i], jjI (by omega)⟩
    obtain ⟨a, e1, e2, ha, e3, e4⟩ := xR_at (m := m) h2 hn
    have hb := h2 n (jjK hn)
    have c := jgv (n := a) (m := (n : Int) - 1) (by omega) (by omega)
    rw [e2, e3]
    rw [← e4] at c
    exact c
  · have c := argR (revalq1 hg (fx m 0)) (jbO (g := fun j => [.str (txq (xR ts m j)).1, .str (txq (xR ts m j)).2]) (fun j hj => by
      rcases (show j = 0 by omega) with rfl <;> rfl))
    exact c.fin (Fin.tup ⟨jbO fun j hj => (jfV _ _ j hj), Fin.of rfl, trivial⟩)
  · rw [rfW1 ht]
    exact jhC (fq_ev1 hg (fx m 0) j) (by decide) (ev_unit1 hg (xR ts m 0) hj)
theorem bothR2 {z0 z1 out : Int} {data : List Int} (hg : jag [z0, z1] out data = true) (ts : List Nat) (ht : ts.length = 2) (h2 : ∀ n ∈ ts, 2 ≤ n ∧ n ≤ 9) (hc : cnP out ts 2 ≤ 4096) (hp : (PR ts : Nat) * out ≤ 4096) : jfH [z0, z1] data (nz ts) out := by
  have og := jap hg
  have fx := fun m i => xR_fq h2 m i
  have p := refq2 hg ts ht h2 hc
  have ck : Cl 35 [.agg [.ints .i64 [z0, z1], .int .i64 out, .ints .i64 data]] (.bool true) := by
    have c := jcc [z0, z1] out data (by simp) (by omega)
    rw [hg] at c
    exact c
  have r := jeX [z0, z1] data out ts 2 (fun m i => txq (xR ts m i)) (fun m j => txq (evQ [z0, z1] out data (xR ts m 0) (xR ts m 1) 0 j)) (rfW [z0, z1] out data ts) (by omega) rfl ht h2 og.1 hp ck (fun m i hm hi => ?_) (fun m hm => ?_) (fun m j hm hj => ?_)
  · exact ⟨_, _, _, _, p, r, same_g _ _ _ (by simp [nz, ht]) (by
      have hl := jcB (ns := ts) (f := fun m => (List.range out.toNat).map (rfW [z0, z1] out data ts m)) (m := PR ts) (fun j hj => by simp; omega)
      have := PR_le (show ts.length ≤ 4 by omega) h2
      show (flat _ _ _).length ≤ _
      omega)⟩
  · obtain ⟨n, hn⟩ : ∃ n, ts[i]? = some n := ⟨ts[i], jjI (by omega)⟩
    obtain ⟨a, e1, e2, ha, e3, e4⟩ := xR_at (m := m) h2 hn
    have hb := h2 n (jjK hn)
    have c := jgv (n := a) (m := (n : Int) - 1) (by omega) (by omega)
    rw [e2, e3]
    rw [← e4] at c
    exact c
  · have c := argR (revalq2 hg (fx m 0) (fx m 1)) (jbO (g := fun j => [.str (txq (xR ts m j)).1, .str (txq (xR ts m j)).2]) (fun j hj => by
      rcases (show j = 0 ∨ j = 1 by omega) with rfl | rfl <;> rfl))
    exact c.fin (Fin.tup ⟨jbO fun j hj => (jfV _ _ j hj), Fin.of rfl, trivial⟩)
  · rw [rfW2 ht]
    exact jhC (fq_ev2 hg (fx m 0) (fx m 1) j) (by decide) (ev_unit2 hg (xR ts m 0) (xR ts m 1) hj)
theorem bothR3 {z0 z1 z2 out : Int} {data : List Int} (hg : jag [z0, z1, z2] out data = true) (ts : List Nat) (ht : ts.length = 3) (h2 : ∀ n ∈ ts, 2 ≤ n ∧ n ≤ 9) (hc : cnP out ts 3 ≤ 4096) (hp : (PR ts : Nat) * out ≤ 4096) : jfH [z0, z1, z2] data (nz ts) out := by
  have og := jap hg
  have fx := fun m i => xR_fq h2 m i
  have p := refq3 hg ts ht h2 hc
  have ck : Cl 35 [.agg [.ints .i64 [z0, z1, z2], .int .i64 out, .ints .i64 data]] (.bool true) := by
    have c := jcc [z0, z1, z2] out data (by simp) (by omega)
    rw [hg] at c
    exact c
  have r := jeX [z0, z1, z2] data out ts 3 (fun m i => txq (xR ts m i)) (fun m j => txq (evQ [z0, z1, z2] out data (xR ts m 0) (xR ts m 1) (xR ts m 2) j)) (rfW [z0, z1, z2] out data ts) (by omega) rfl ht h2 og.1 hp ck (fun m i hm hi => ?_) (fun m hm => ?_) (fun m j hm hj => ?_)
  · exact ⟨_, _, _, _, p, r, same_g _ _ _ (by simp [nz, ht]) (by
      have hl := jcB (ns := ts) (f := fun m => (List.range out.toNat).map (rfW [z0, z1, z2] out data ts m)) (m := PR ts) (fun j hj => by simp; omega)
      have := PR_le (show ts.length ≤ 4 by omega) h2
      show (flat _ _ _).length ≤ _
      omega)⟩
  · obtain ⟨n, hn⟩ : ∃ n, ts[i]? = some n := ⟨ts[i], jjI (by omega)⟩
    obtain ⟨a, e1, e2, ha, e3, e4⟩ := xR_at (m := m) h2 hn
    have hb := h2 n (jjK hn)
    have c := jgv (n := a) (m := (n : Int) - 1) (by omega) (by omega)
    rw [e2, e3]
    rw [← e4] at c
    exact c
  · have c := argR (revalq3 hg (fx m 0) (fx m 1) (fx m 2)) (jbO (g := fun j => [.str (txq (xR ts m j)).1, .str (txq (xR ts m j)).2]) (fun j hj => by
      rcases (show j = 0 ∨ j = 1 ∨ j = 2 by omega) with rfl | rfl | rfl <;> rfl))
    exact c.fin (Fin.tup ⟨jbO fun j hj => (jfV _ _ j hj), Fin.of rfl, trivial⟩)
  · rw [rfW3 ht]
    exact jhC (fq_ev3 hg (fx m 0) (fx m 1) (fx m 2) j) (by decide) (ev_unit3 hg (xR ts m 0) (xR ts m 1) (xR ts m 2) hj)
theorem nz_get (l:List Int)(h:∀ k,k<l.length→2≤l.getD k 0∧l.getD k 0≤9):∃ ts:List Nat,nz ts=l∧ts.length=l.length ∧ ∀ n∈ts,2≤n∧n≤9:=by
 have hv:∀ v∈l,2≤v∧v≤9:=fun v hv=>by
  obtain⟨j,hj,rfl⟩:=List.mem_iff_getElem.1 hv
  have g:=h j hj
  rw[jjF,jjI hj] at g
  exact g
 obtain⟨ns,h1,_,h3⟩:=nz_of (size:=l) (jjE.2 fun v hv'=>decide_eq_true (hv v hv'))
 exact⟨ns,h1.symm,by rw[h1];simp[nz],h3⟩
theorem jdg {zs data l:List Int}{out:Int}(hz:jag zs out data=true→(zs.length=1∨zs.length=2∨zs.length=3)∧out≤3)(hs:zs.length≤4)(hd:data.length≤100000)(h5:∀ v∈l,2≤v∧v≤9→v≤5):jfH zs data l out:=by
 have k:=jcD zs out data (by omega) (by omega)
 have r:=jcc zs out data (by omega) (by omega)
 cases hg:jag zs out data with
 | false=>
  rw[hg] at k r
  exact jgT (refine_b zs data l out k) (rrefine_b zs data l out r)
 | true=>
  rw[hg] at k r
  have og:=jap hg
  by_cases hm:l.length=zs.length
  ·have h3:=(hz hg).1
   rcases jga (fun i=>2≤l.getD i 0∧l.getD i 0≤9) l.length with h|⟨i,h1,h2,h3'⟩
   ·obtain⟨ts,e1,e2,e3⟩:=nz_get l h
    subst e1
    have e5:∀ n∈ts,2≤n∧n≤5:=fun n hn=>by
     have a:=e3 n hn
     have b:=h5 (n:Int) (by unfold nz;exact List.mem_map_of_mem hn) (by omega)
     omega
    match zs,h3,hm,hg with
    | [z0],_,hm,hg=>
     have e2':ts.length=1:=e2.trans hm
     match ts,e2',e3,e5 with
     | [a],_,e3,e5=>
      have b0:=e5 a (by simp)
      have c1:out*(a:Int)≤4*5:=jjB og.1.2 (by omega) (by omega) (by omega)
      exact bothR1 hg [a] rfl e3 (by simp only[cnP,List.getD_cons_zero];omega) (by simp only[PR,Nat.mul_one];rw[jjo];omega)
    | [z0,z1],_,hm,hg=>
     have e2':ts.length=2:=e2.trans hm
     match ts,e2',e3,e5 with
     | [a,b],_,e3,e5=>
      have b0:=e5 a (by simp)
      have b1:=e5 b (by simp)
      have c1:out*(a:Int)≤4*5:=jjB og.1.2 (by omega) (by omega) (by omega)
      have c2:out*(a:Int)*(b:Int)≤4*5*5:=jjB c1 (by omega) (by omega) (by omega)
      exact bothR2 hg [a,b] rfl e3 (by simp only[cnP,List.getD_cons_zero,List.getD_cons_succ];omega) (by
       simp only[PR,Nat.mul_one]
       rw[jjm,jjo,← jjp]
       omega)
    | [z0,z1,z2],_,hm,hg=>
     have e2':ts.length=3:=e2.trans hm
     match ts,e2',e3,e5 with
     | [a,b,c],_,e3,e5=>
      have b0:=e5 a (by simp)
      have b1:=e5 b (by simp)
      have b2:=e5 c (by simp)
      have c1:out*(a:Int)≤4*5:=jjB og.1.2 (by omega) (by omega) (by omega)
      have c2:out*(a:Int)*(b:Int)≤4*5*5:=jjB c1 (by omega) (by omega) (by omega)
      have c3:out*(a:Int)*(b:Int)*(c:Int)≤4*5*5*5:=jjB c2 (by omega) (by omega) (by omega)
      exact bothR3 hg [a,b,c] rfl e3 (by simp only[cnP,List.getD_cons_zero,List.getD_cons_succ];omega) (by
       simp only[PR,Nat.mul_one]
       rw[jjm,jjm,jjo,← jjp,← jjp]
       omega)
   ·exact jgT (refine_sz zs data l out i hm h1 (by omega) og.1 h2 h3' k) (rrefine_sz zs data l out i hm h1 (by omega) h2 h3' r)
  ·exact jgT (refine_ln zs data l out hm k) (rrefine_ln zs data l out hm r)
end Go.Proofs.YtbnghipgicmpdaaGreatDoor
end
section
namespace Go.Proofs.YtbnghipgicmpdaaGreatDoor
open Go Go.V Go.Nb
def szL (c:Int)(s:Nat→Int):Nat→List Int
 | 0=>[]
 | k+1=>szL c s k++[2+s k%c]
def three3 {α:Type}(a b c:α):Nat→α
 | 0=>a
 | 1=>b
 | _=>c
theorem jeT (c:Int)(s:Nat→Int):∀ n,(szL c s n).length=n
 | 0=>rfl
 | n+1=>by simp only[szL,jjL,jeT c s n,jjV,List.length_nil]
theorem jcs {c:Int}{s:Nat→Int}(hc:0<c):∀ n, ∀ v∈szL c s n,2≤v∧v≤1+c
 | 0,v,h=>by cases h
 | n+1,v,h=>by
  rcases List.mem_append.1 h with h|h
  ·exact jcs hc n v h
  ·rw[List.mem_singleton.1 h]
   have:=ji4 (s n) (show c≠0 by omega)
   have:=jju (s n) hc
   omega
theorem zX114_0:type_of% @jjb∧type_of% @jj1 ∧ type_of% @ji9∧type_of% @ji8:=⟨@jjb,@jj1,@ji9,@ji8⟩
theorem jip:type_of% @jjb∧type_of% @ji8:=⟨@jjb,@ji8⟩
theorem jiB:type_of% @jjb∧type_of% @ji8∧type_of% @tn0:=⟨@jjb,@ji8,@tn0⟩
theorem srefines_w (R:List Int)(ds:List Int)(o:Int)(vals:List Int)(sm:Bool)(kb:Int)(s:Nat→Int)(zs data:List Int)(out:Int)(hR:R.length≤281474976710656)(hRv:∀ v∈R,InR .i64 v)(hk8:0≤kb∧kb≤255)(hzl:1≤zs.length∧zs.length≤3)(hg:jag zs out data=true)(ho3:out≤3)(hs:∀ i,0≤s i∧s i≤255)
  (wk:Cl 6 [] (.bool true)) (gd:Cl 7 [.agg [.ints .u8 ds,.int .u8 o,.ints .u16 vals,.bool sm]] (.agg [.ints .i64 zs,.int .i64 out,.ints .i64 data])) :
  Cl 5 [.agg [.ints .u8 ds,.int .u8 o,.ints .u16 vals,.bool sm],.int .u8 kb,.agg [.int .u8 (s 0),.int .u8 (s 1),.int .u8 (s 2),.int .u8 (s 3)],.ints .i64 R] (.bool true):=by
 have bn:=bent_c zs data out kb hk8 (by omega)
 obtain⟨m,hm⟩:∃ m:Nat,min (R.length:Int) 5=(m:Int):=⟨(min (R.length:Int) 5).toNat,by omega⟩
 have hml:m≤R.length:=by omega
 have hm5:m≤5:=by omega
 obtain⟨X,hX⟩:∃ X,List.take m R=X:=⟨_,rfl⟩
 have hXl:X.length=m:=by rw[← hX,jjM];omega
 refine V.en tbOk Tryz.func5 ?_
 refine V.r1 (V.a3 zX114_0 hm hX) wk ?_
 refine⟨(V.tk [0,2,4,7] (V.e1 1 [7,4,2] (V.e1 3 [7,4] (V.e1 5 [7] (V.tk [6] .done))))),[],V.pok,.go (jac ?_)⟩
 refine V.r2 (V.a3 zX114_0 hm hX) gd bn ?_
 obtain⟨gz,egz⟩:∃ gz,bentZ kb zs=gz:=⟨_,rfl⟩
 obtain⟨go,ego⟩:∃ go,bentO kb out=go:=⟨_,rfl⟩
 have gl:1≤gz.length∧gz.length≤4:=by
  rw[← egz]
  unfold bentZ
  split
  ·rw[jjV];omega
  ·omega
 have gz3:jag gz go data=true→(gz.length=1∨gz.length=2∨gz.length=3)∧go≤3:=fun h=>by
  rcases bent_bad (k:=kb) hg with⟨e1,e2⟩|e1
  ·rw[egz] at e1;rw[ego] at e2;rw[e1,e2];omega
  ·rw[egz,ego,h] at e1;cases e1
 have zz3:jag zs out data=true→(zs.length=1∨zs.length=2∨zs.length=3)∧out≤3:=fun _=>by omega
 have og:=jap hg
 rw[egz,ego]
 refine jad (0:Nat) (fun k=>k≤2) (fun k=>2-k) (fun k=>[(38,.int .i64 (k:Nat))]) (fun _=>[]) ?_ ?_ ?_
 ·exact V.wk
 ·exact ji2 _
 intro g hg2
 try dsimp only at hg2 ⊢
 have hg3:g=0∨g=1∨g=2:=by omega
 rcases hg3 with e|e|e
 all_goals subst e
 ·obtain⟨tn,T,e1,c1,c2,c3⟩:=alikeS_c (zs:=zs) (data:=data) (out:=out) (by omega) (by omega) (fun h=>(zz3 h).2)
  obtain⟨n,hn⟩:∃ n:Nat,zs.length=n:=⟨_,rfl⟩
  have hni:((zs.length:Nat):Int)=n:=by omega
  have hn4:min (n:Int) 4=(n:Int):=by omega
  (conv=>whnf)
  (try simp only[k0,jjb,ji8])
  repeat ((first|refine V.s1 ?_|((try ((with_reducible refine .ext ?_);(conv=>whnf);(try simp only[k0,jjb,ji8])));(with_reducible refine jaa (r:=?_) ?_ ?_);rotate_left;(focus (first|exact(c1)|exact(c2)));(conv=>whnf))|((refine⟨_,fun _=>c3,?_⟩);(conv=>whnf)));(try simp only[k0,jjb,ji8]))
  refine Cnd.no (by simp) ?_
  refine V.r0 (V.a3 jip hni hn4) ?_
  refine Lp.ghostSlot 75 15  .i64 (by decide) ?_
  (conv=>whnf)
  refine Lp.ghostSlot 84 16  .i64 (by decide) ?_
  (conv=>whnf)
  refine jad (0:Nat) (fun k=>k≤n) (fun k=>n-k) (fun k=>[(64,.int .i64 (k:Nat)),(15,.osl 75 0 k),(16,.osl 84 0 k)]) (fun k=>[(75,.arr .i64 (szL 3 s k)),(84,.arr .i64 (szL 4 s k))]) ?_ ?_ ?_
  ·exact V.wk
  ·exact ji2 _
  intro k hk
  try dsimp only at hk ⊢
  have l3:=jeT 3 s k
  have l4:=jeT 4 s k
  by_cases hkn:k<n
  ·have hlt:decide ((k:Int)<n)=true:=decide_eq_true (by omega)
   have hsk:=hs k
   have m3:(s k).tmod 3=s k%3:=Int.tmod_eq_emod_of_nonneg hsk.1
   have m4:(s k).tmod 4=s k%4:=Int.tmod_eq_emod_of_nonneg hsk.1
   have q3:szL 3 s k++[2+s k%3]=szL 3 s (k+1):=rfl
   have q4:szL 4 s k++[2+s k%4]=szL 4 s (k+1):=rfl
   have r3:∀ v:Int,List.take 1 (List.drop 0 [v])=[v]:=fun v=>rfl
   have r4:∀ v:Int,k+[v].length=k+1:=fun v=>rfl
   have hkc:((k:Int)+1)=((k+1:Nat):Int):=by omega
   rcases (show k=0∨k=1∨k=2∨k=3 by omega) with rfl|rfl|rfl|rfl
   all_goals
    simp only[k0,k1,k2,k3] at hlt ⊢
    refine V.r0 (V.a8 jip hlt m3 m4 @q3 @q4 @r3 @r4) ?_
    first|exact⟨1,by omega,by omega,V.wk⟩|exact⟨2,by omega,by omega,V.wk⟩|exact⟨3,by omega,by omega,V.wk⟩|exact⟨4,by omega,by omega,V.wk⟩
  have hlf:decide ((k:Int)<n)=false:=decide_eq_false (by omega)
  obtain rfl:k=n:=by omega
  obtain⟨x0,hx0⟩:∃ x0,X.getD 0 0=x0:=⟨_,rfl⟩
  (conv=>whnf)
  (try simp only[jiB,hlf,hx0])
  repeat ((first|refine V.s1 ?_|((try ((with_reducible refine .ext ?_);(conv=>whnf);(try simp only[jiB,hlf,hx0])));(with_reducible refine jaa (r:=?_) ?_ ?_);rotate_left;(focus (first|fail));(conv=>whnf))|((refine And.intro (fun h=>(by simp at h;omega)) ?_);(conv=>whnf))|((refine And.intro (fun h1 h2=>(by rw[h1,h2];rfl)) ?_);(conv=>whnf)));(try simp only[jiB,hlf,hx0]))
  obtain⟨i,hi⟩:∃ i:Nat,kb%(k:Int)=(i:Int):=⟨(kb%(k:Int)).toNat,by have:=ji4 kb (show (k:Int)≠0 by omega);omega⟩
  have hi2:i<k:=by have:=jju kb (show (0:Int)<k by omega);omega
  have hmod:kb.tmod (k:Int)=(i:Int):=by rw[Int.tmod_eq_emod_of_nonneg hk8.1,hi]
  obtain⟨M,hM,h0M,h1M,h5M⟩:∃ M:List Int,M.length=k∧(¬ (0<m∧(x0<2∨9<x0))→szL 4 s k=M)∧(0<m∧(x0<2∨9<x0)→(szL 4 s k).set i (x0)=M) ∧ ∀ v∈M,2≤v∧v≤9→v≤5:=by
   by_cases h:0<m∧(x0<2∨9<x0)
   ·refine⟨(szL 4 s k).set i (x0),by rw[jj3];exact l4,fun h2=>absurd h h2,fun _=>rfl,fun v hv h29=>?_⟩
    rcases List.mem_or_eq_of_mem_set hv with g|rfl
    ·exact(jcs (by omega) k v g).2
    ·omega
   ·exact⟨szL 4 s k,l4,fun _=>rfl,fun h2=>absurd h2 h,fun v hv _=>(jcs (by omega) k v hv).2⟩
  refine ja2 [] [(84,.arr .i64 M)] (CondB.mk (fun hc=>?_) (fun hc=>?_)) ?_
  ·have m0:0<m∧(x0<2∨9<x0):=by simp at hc;omega
   have hM1:=h1M m0
   have m1:=m0.1
   (conv=>whnf)
   (try simp only[jip,hmod,hi])
   repeat ((first|refine V.s1 ?_);(try simp only[jip,hmod,hi]))
   refine⟨(V.tk [0,1,2,3,4,5,6,7,8,9] (V.e1 10 [] .done)),[],V.pok,.go (jac ?_)⟩
   (conv=>whnf)
   (try simp only[jiB,hmod,hi,hx0])
   repeat ((first|refine V.s1 ?_);(try simp only[jiB,hmod,hi,hx0]))
   rw[hM1]
   exact V.wk
  ·have m0:¬ (0<m∧(x0<2∨9<x0)):=by simp at hc;omega
   have hM1:=h0M m0
   rw[hM1]
   refine V.r0 jip ?_
   exact V.wk
  refine V.r0 jip ?_
  refine V.il Tryz.func25 ?_
  (conv=>whnf)
  have t3:List.take k (szL 3 s k)=szL 3 s k:=jjW (by omega)
  have tM:List.take k M=M:=jjW (by omega)
  have r1:List.take 1 (List.drop 0 [(2:Int)])=[2]:=rfl
  have r2:k+[(2:Int)].length=k+1:=rfl
  have r5:List.take 1 [(2:Int)]=[2]:=rfl
  (conv=>whnf)
  (try simp only[l3,t3,r1,r2,r5,jjS,jj1,jjb,ji8])
  repeat ((first|refine V.s1 ?_);(try simp only[l3,t3,r1,r2,r5,jjS,jj1,jjb,ji8]))
  refine Lp.pub 75 ?_
  (conv=>whnf)
  refine Lp.pub 84 ?_
  (conv=>whnf)
  refine Lp.pub 121 ?_
  (conv=>whnf)
  obtain⟨Q,hQ⟩:∃ Q,szL 3 s k++[2]=Q:=⟨_,rfl⟩
  have Ql:Q.length=k+1:=by rw[← hQ,jjL,l3];rfl
  have tQ:List.take (k+1) Q=Q:=jjW (by omega)
  simp only[r1,r2,r5,hQ,t3,tM,tQ,jj1,ji8]
  have al:∀ v,v<3→jfH zs data (three3 (szL 3 s k) M Q v) out:=fun v hv=>by
   rcases (show v=0∨v=1∨v=2 by omega) with rfl|rfl|rfl
   ·exact jdg zz3 (by omega) (by omega) (fun v hv _=>by have:=(jcs (c:=3) (by omega) k v hv).2;omega)
   ·exact jdg zz3 (by omega) (by omega) h5M
   ·refine jdg zz3 (by omega) (by omega) (fun v hv _=>?_)
    rw[← hQ] at hv
    rcases List.mem_append.1 hv with g|g
    ·have:=(jcs (c:=3) (by omega) k v g).2;omega
    ·rw[List.mem_singleton.1 g];omega
  refine jad (0:Nat) (fun v=>v≤3) (fun v=>3-v) (fun v=>[(123,.int .i64 (v:Nat))]) (fun _=>[]) ?_ ?_ ?_
  ·exact V.wk
  ·exact ji2 _
  intro v hv
  try dsimp only at hv ⊢
  by_cases h3:v=3
  ·subst h3
   refine V.r0 @jjb ?_
   exact⟨1,by omega,by omega,V.wk⟩
  obtain⟨gs,go1,gd1,e,d1,d2,d3⟩:=al v (by omega)
  have e9:(decide (e≠e) || !true)=false:=by simp
  rcases (show v=0∨v=1∨v=2 by omega) with rfl|rfl|rfl
  all_goals
   (conv=>whnf)
   (try simp only[jip])
   repeat ((first|refine V.s1 ?_|((try ((with_reducible refine .ext ?_);(conv=>whnf);(try simp only[jip])));(with_reducible refine jaa (r:=?_) ?_ ?_);rotate_left;(focus (first|exact(d1)|exact(d2)));(conv=>whnf))|((refine⟨_,fun _=>d3,?_⟩);(conv=>whnf)));(try simp only[jip]))
   refine Cnd.no e9 ?_
   refine V.r0 @jjb ?_
  ·exact⟨1,by omega,by omega,V.wk⟩
  ·exact⟨2,by omega,by omega,V.wk⟩
  ·exact⟨3,by omega,by omega,V.wk⟩
 ·obtain⟨tn,T,e1,c1,c2,c3⟩:=alikeS_c (zs:=gz) (data:=data) (out:=go) (by omega) (by omega) (fun h=>(gz3 h).2)
  obtain⟨n,hn⟩:∃ n:Nat,gz.length=n:=⟨_,rfl⟩
  have hni:((gz.length:Nat):Int)=n:=by omega
  have hn4:min (n:Int) 4=(n:Int):=by omega
  (conv=>whnf)
  (try simp only[k1,jjb,ji8])
  repeat ((first|refine V.s1 ?_|((try ((with_reducible refine .ext ?_);(conv=>whnf);(try simp only[k1,jjb,ji8])));(with_reducible refine jaa (r:=?_) ?_ ?_);rotate_left;(focus (first|exact(c1)|exact(c2)));(conv=>whnf))|((refine⟨_,fun _=>c3,?_⟩);(conv=>whnf)));(try simp only[k1,jjb,ji8]))
  refine Cnd.no (by simp) ?_
  refine V.r0 (V.a3 jip hni hn4) ?_
  refine Lp.ghostSlot 75 15  .i64 (by decide) ?_
  (conv=>whnf)
  refine Lp.ghostSlot 84 16  .i64 (by decide) ?_
  (conv=>whnf)
  refine jad (0:Nat) (fun k=>k≤n) (fun k=>n-k) (fun k=>[(64,.int .i64 (k:Nat)),(15,.osl 75 0 k),(16,.osl 84 0 k)]) (fun k=>[(75,.arr .i64 (szL 3 s k)),(84,.arr .i64 (szL 4 s k))]) ?_ ?_ ?_
  ·exact V.wk
  ·exact ji2 _
  intro k hk
  try dsimp only at hk ⊢
  have l3:=jeT 3 s k
  have l4:=jeT 4 s k
  by_cases hkn:k<n
  ·have hlt:decide ((k:Int)<n)=true:=decide_eq_true (by omega)
   have hsk:=hs k
   have m3:(s k).tmod 3=s k%3:=Int.tmod_eq_emod_of_nonneg hsk.1
   have m4:(s k).tmod 4=s k%4:=Int.tmod_eq_emod_of_nonneg hsk.1
   have q3:szL 3 s k++[2+s k%3]=szL 3 s (k+1):=rfl
   have q4:szL 4 s k++[2+s k%4]=szL 4 s (k+1):=rfl
   have r3:∀ v:Int,List.take 1 (List.drop 0 [v])=[v]:=fun v=>rfl
   have r4:∀ v:Int,k+[v].length=k+1:=fun v=>rfl
   have hkc:((k:Int)+1)=((k+1:Nat):Int):=by omega
   rcases (show k=0∨k=1∨k=2∨k=3 by omega) with rfl|rfl|rfl|rfl
   all_goals
    simp only[k0,k1,k2,k3] at hlt ⊢
    refine V.r0 (V.a8 jip hlt m3 m4 @q3 @q4 @r3 @r4) ?_
    first|exact⟨1,by omega,by omega,V.wk⟩|exact⟨2,by omega,by omega,V.wk⟩|exact⟨3,by omega,by omega,V.wk⟩|exact⟨4,by omega,by omega,V.wk⟩
  have hlf:decide ((k:Int)<n)=false:=decide_eq_false (by omega)
  obtain rfl:k=n:=by omega
  obtain⟨x0,hx0⟩:∃ x0,X.getD 0 0=x0:=⟨_,rfl⟩
  (conv=>whnf)
  (try simp only[jiB,hlf,hx0])
  repeat ((first|refine V.s1 ?_|((try ((with_reducible refine .ext ?_);(conv=>whnf);(try simp only[jiB,hlf,hx0])));(with_reducible refine jaa (r:=?_) ?_ ?_);rotate_left;(focus (first|fail));(conv=>whnf))|((refine And.intro (fun h=>(by simp at h;omega)) ?_);(conv=>whnf))|((refine And.intro (fun h1 h2=>(by rw[h1,h2];rfl)) ?_);(conv=>whnf)));(try simp only[jiB,hlf,hx0]))
  obtain⟨i,hi⟩:∃ i:Nat,kb%(k:Int)=(i:Int):=⟨(kb%(k:Int)).toNat,by have:=ji4 kb (show (k:Int)≠0 by omega);omega⟩
  have hi2:i<k:=by have:=jju kb (show (0:Int)<k by omega);omega
  have hmod:kb.tmod (k:Int)=(i:Int):=by rw[Int.tmod_eq_emod_of_nonneg hk8.1,hi]
  obtain⟨M,hM,h0M,h1M,h5M⟩:∃ M:List Int,M.length=k∧(¬ (0<m∧(x0<2∨9<x0))→szL 4 s k=M)∧(0<m∧(x0<2∨9<x0)→(szL 4 s k).set i (x0)=M) ∧ ∀ v∈M,2≤v∧v≤9→v≤5:=by
   by_cases h:0<m∧(x0<2∨9<x0)
   ·refine⟨(szL 4 s k).set i (x0),by rw[jj3];exact l4,fun h2=>absurd h h2,fun _=>rfl,fun v hv h29=>?_⟩
    rcases List.mem_or_eq_of_mem_set hv with g|rfl
    ·exact(jcs (by omega) k v g).2
    ·omega
   ·exact⟨szL 4 s k,l4,fun _=>rfl,fun h2=>absurd h2 h,fun v hv _=>(jcs (by omega) k v hv).2⟩
  refine ja2 [] [(84,.arr .i64 M)] (CondB.mk (fun hc=>?_) (fun hc=>?_)) ?_
  ·have m0:0<m∧(x0<2∨9<x0):=by simp at hc;omega
   have hM1:=h1M m0
   have m1:=m0.1
   (conv=>whnf)
   (try simp only[jip,hmod,hi])
   repeat ((first|refine V.s1 ?_);(try simp only[jip,hmod,hi]))
   refine⟨(V.tk [0,1,2,3,4,5,6,7,8,9] (V.e1 10 [] .done)),[],V.pok,.go (jac ?_)⟩
   (conv=>whnf)
   (try simp only[jiB,hmod,hi,hx0])
   repeat ((first|refine V.s1 ?_);(try simp only[jiB,hmod,hi,hx0]))
   rw[hM1]
   exact V.wk
  ·have m0:¬ (0<m∧(x0<2∨9<x0)):=by simp at hc;omega
   have hM1:=h0M m0
   rw[hM1]
   refine V.r0 jip ?_
   exact V.wk
  refine V.r0 jip ?_
  refine V.il Tryz.func25 ?_
  (conv=>whnf)
  have t3:List.take k (szL 3 s k)=szL 3 s k:=jjW (by omega)
  have tM:List.take k M=M:=jjW (by omega)
  have r1:List.take 1 (List.drop 0 [(2:Int)])=[2]:=rfl
  have r2:k+[(2:Int)].length=k+1:=rfl
  have r5:List.take 1 [(2:Int)]=[2]:=rfl
  (conv=>whnf)
  (try simp only[l3,t3,r1,r2,r5,jjS,jj1,jjb,ji8])
  repeat ((first|refine V.s1 ?_);(try simp only[l3,t3,r1,r2,r5,jjS,jj1,jjb,ji8]))
  refine Lp.pub 75 ?_
  (conv=>whnf)
  refine Lp.pub 84 ?_
  (conv=>whnf)
  refine Lp.pub 121 ?_
  (conv=>whnf)
  obtain⟨Q,hQ⟩:∃ Q,szL 3 s k++[2]=Q:=⟨_,rfl⟩
  have Ql:Q.length=k+1:=by rw[← hQ,jjL,l3];rfl
  have tQ:List.take (k+1) Q=Q:=jjW (by omega)
  simp only[r1,r2,r5,hQ,t3,tM,tQ,jj1,ji8]
  have al:∀ v,v<3→jfH gz data (three3 (szL 3 s k) M Q v) go:=fun v hv=>by
   rcases (show v=0∨v=1∨v=2 by omega) with rfl|rfl|rfl
   ·exact jdg gz3 (by omega) (by omega) (fun v hv _=>by have:=(jcs (c:=3) (by omega) k v hv).2;omega)
   ·exact jdg gz3 (by omega) (by omega) h5M
   ·refine jdg gz3 (by omega) (by omega) (fun v hv _=>?_)
    rw[← hQ] at hv
    rcases List.mem_append.1 hv with g|g
    ·have:=(jcs (c:=3) (by omega) k v g).2;omega
    ·rw[List.mem_singleton.1 g];omega
  refine jad (0:Nat) (fun v=>v≤3) (fun v=>3-v) (fun v=>[(123,.int .i64 (v:Nat))]) (fun _=>[]) ?_ ?_ ?_
  ·exact V.wk
  ·exact ji2 _
  intro v hv
  try dsimp only at hv ⊢
  by_cases h3:v=3
  ·subst h3
   refine V.r0 @jjb ?_
   exact⟨2,by omega,by omega,V.wk⟩
  obtain⟨gs,go1,gd1,e,d1,d2,d3⟩:=al v (by omega)
  have e9:(decide (e≠e) || !true)=false:=by simp
  rcases (show v=0∨v=1∨v=2 by omega) with rfl|rfl|rfl
  all_goals
   (conv=>whnf)
   (try simp only[jip])
   repeat ((first|refine V.s1 ?_|((try ((with_reducible refine .ext ?_);(conv=>whnf);(try simp only[jip])));(with_reducible refine jaa (r:=?_) ?_ ?_);rotate_left;(focus (first|exact(d1)|exact(d2)));(conv=>whnf))|((refine⟨_,fun _=>d3,?_⟩);(conv=>whnf)));(try simp only[jip]))
   refine Cnd.no e9 ?_
   refine V.r0 @jjb ?_
  ·exact⟨1,by omega,by omega,V.wk⟩
  ·exact⟨2,by omega,by omega,V.wk⟩
  ·exact⟨3,by omega,by omega,V.wk⟩
 ·refine V.r0 (V.a2 @jjb @k2) ?_
  exact Fin.of rfl
end Go.Proofs.YtbnghipgicmpdaaGreatDoor
end
section
namespace Go.Proofs.YtbnghipgicmpdaaGreatDoor
open Go Go.V Go.Nb Go.Gr
theorem jis:type_of% @ji8∧type_of% @tn0∧type_of% @tn1∧type_of% @tn2∧type_of% @tn3∧type_of% @xt4:=⟨@ji8,@tn0,@tn1,@tn2,@tn3,@xt4⟩
theorem wakes_t (Q:Nat→Tx)
  (o0:Cl 30 [.int .i64 1,.int .i64 2] (.agg [.str (Q 0).1,.str (Q 0).2]))
  (o1:Cl 30 [.int .i64 1,.int .i64 4] (.agg [.str (Q 1).1,.str (Q 1).2]))
  (o2:Cl 30 [.int .i64 7,.int .i64 20] (.agg [.str (Q 2).1,.str (Q 2).2]))
  (o3:Cl 30 [.int .i64 3,.int .i64 10] (.agg [.str (Q 3).1,.str (Q 3).2]))
  (o4:Cl 30 [.int .i64 1,.int .i64 1] (.agg [.str (Q 4).1,.str (Q 4).2]))
  (o5:Cl 30 [.int .i64 2,.int .i64 1] (.agg [.str (Q 5).1,.str (Q 5).2]))
  (fo:Cl 29 [] (.agg [.ints .i64 [2,2],.int .i64 1,.ints .i64 [0,13107,26214,65535]]))
  (ce:Cl 11 [.agg [.ints .i64 [2,2],.int .i64 1,.ints .i64 [0,13107,26214,65535]],V.sl2 2 [.str (Q 0).1,.str (Q 0).2,.str (Q 1).1,.str (Q 1).2]] (.tup [.ints .i64 [0,0],.ints .i64 [0,1],V.sl2 3 [.str (Q 0).1,.str (Q 0).2,.str (Q 1).1,.str (Q 1).2,.str (Q 1).1,.str (Q 1).2],.int .i64 0]))
  (st:Cl 22 [.agg [.ints .i64 [2,2],.int .i64 1,.ints .i64 [0,13107,26214,65535]]] (.tup [.slf 1 1 (fun j=>List.take 1 (List.drop (j*1) [.ints .i64 [52428,39321]])),.int .i64 0]))
  (b1:Cl 19 [.agg [.ints .i64 [2,2],.int .i64 1,.ints .i64 [0,13107,26214,65535]],V.sl2 2 [.int .i64 500000000000,.int .i64 500000000000,.int .i64 250000000000,.int .i64 250000000000]] (.tup [V.sl2 1 [.int .i64 350000000000,.int .i64 350000000000],.int .i64 0]))
  (b2:Cl 19 [.agg [.ints .i64 [2,2],.int .i64 1,.ints .i64 [0,13107,26214,65535]],V.sl2 2 [.int .i64 250000000000,.int .i64 750000000000,.int .i64 250000000000,.int .i64 250000000000]] (.tup [V.sl2 1 [.int .i64 150000000000,.int .i64 550000000000],.int .i64 0]))
  (re:Cl 26 [.agg [.ints .i64 [2,2],.int .i64 1,.ints .i64 [0,13107,26214,65535]],.ints .i64 [3,2]] (.tup [.agg [.ints .i64 [3,2],.int .i64 1,.ints .i64 [0,13107,13107,39321,26214,65535]],.int .i64 0]))
  (ee:Cl 13 [.agg [.ints .i64 [2,2],.int .i64 1,.ints .i64 [0,13107,26214,65535]],V.sl2 1 [.str (Q 0).1,.str (Q 0).2]] (.tup [.nil,.int .i64 2]))
  (v0:Cl 31 [.agg [.ints .i64 [2,2],.int .i64 1,.ints .i64 [0,13107,26214,65535]],.agg [.str (Q 2).1,.str (Q 2).2],V.sl2 2 [.str (Q 0).1,.str (Q 0).2,.str (Q 1).1,.str (Q 1).2]] (.bool true))
  (v1:Cl 31 [.agg [.ints .i64 [2,2],.int .i64 1,.ints .i64 [0,13107,26214,65535]],.agg [.str (Q 3).1,.str (Q 3).2],V.sl2 2 [.str (Q 1).1,.str (Q 1).2,.str (Q 0).1,.str (Q 0).2]] (.bool true))
  (v2:Cl 31 [.agg [.ints .i64 [2,2],.int .i64 1,.ints .i64 [0,13107,26214,65535]],.agg [.str (Q 4).1,.str (Q 4).2],V.sl2 2 [.str (Q 5).1,.str (Q 5).2,.str (Q 4).1,.str (Q 4).2]] (.bool true)) :
  Cl 6 [] (.bool true):=by
 have q0:=jfm [0,0] [0,0] (by decide) (by decide)
 have q1:=jfm [0,1] [0,1] (by decide) (by decide)
 have q2:=jfm [52428,39321] [52428,39321] (by decide) (by decide)
 have q3:=jfm [0,13107,13107,39321,26214,65535] [0,13107,13107,39321,26214,65535] (by decide) (by decide)
 have f3:=eqf3 (fun k=>if k=0 then Q 0 else Q 1)
 have g1:=eqb1 (fun _=>(350000000000,350000000000))
 have g2:=eqb1 (fun _=>(150000000000,550000000000))
 refine V.en tbOk Tryz.func6 ?_
 (conv=>whnf)
 (conv=>whnf)
 (try simp only[jis])
 repeat ((first|refine V.s1 ?_|((try ((with_reducible refine .ext ?_);(conv=>whnf);(try simp only[jis])));(with_reducible refine jaa (r:=?_) ?_ ?_);rotate_left;(focus (first|exact(o0)|exact(o1)|exact(o2)|exact(o3)|exact(o4)|exact(o5)|exact(fo)|exact(ce)|exact(st)|exact(b1)|exact(b2)|exact(re)|exact(ee)|exact(v0)|exact(v1)|exact(v2)|exact(q0)|exact(q1)|exact(q2)|exact(q3)|exact(f3)|exact(g1)|exact(g2)));(conv=>whnf)));(try simp only[jis]))
 refine⟨(V.tk [0] (V.e1 1 [0] (V.e1 2 [0] (V.e1 3 [0] (V.e1 4 [] (V.tk [5,6,7,8,9,10,11,12,13] .done)))))),[],V.pok,?_⟩
 refine jab [(2,.ints .i64 [0,0]),(3,.ints .i64 [0,1]),(4,V.sl2 3 [.str (Q 0).1,.str (Q 0).2,.str (Q 1).1,.str (Q 1).2,.str (Q 1).1,.str (Q 1).2]),(5,.int .i64 0)] [] ?_ ?_
 ·exact V.d3 jis o0 o1 ce
 (conv=>whnf)
 (try simp only[jis])
 repeat ((first|refine V.s1 ?_|((try ((with_reducible refine .ext ?_);(conv=>whnf);(try simp only[jis])));(with_reducible refine jaa (r:=?_) ?_ ?_);rotate_left;(focus (first|exact(o0)|exact(o1)|exact(o2)|exact(o3)|exact(o4)|exact(o5)|exact(fo)|exact(ce)|exact(st)|exact(b1)|exact(b2)|exact(re)|exact(ee)|exact(v0)|exact(v1)|exact(v2)|exact(q0)|exact(q1)|exact(q2)|exact(q3)|exact(f3)|exact(g1)|exact(g2)));(conv=>whnf)));(try simp only[jis]))
 refine⟨(V.tk [0] (V.e1 1 [0] (V.e1 2 [0] (V.e1 3 [] (V.tk [4,5,6,7,8] .done))))),[],V.pok,?_⟩
 refine jab [(17,.int .i64 2)] [] ?_ ?_
 ·exact V.d3 jis o0 o1 ee
 (conv=>whnf)
 (try simp only[jis])
 repeat ((first|refine V.s1 ?_|((try ((with_reducible refine .ext ?_);(conv=>whnf);(try simp only[jis])));(with_reducible refine jaa (r:=?_) ?_ ?_);rotate_left;(focus (first|exact(o0)|exact(o1)|exact(o2)|exact(o3)|exact(o4)|exact(o5)|exact(fo)|exact(ce)|exact(st)|exact(b1)|exact(b2)|exact(re)|exact(ee)|exact(v0)|exact(v1)|exact(v2)|exact(q0)|exact(q1)|exact(q2)|exact(q3)|exact(f3)|exact(g1)|exact(g2)));(conv=>whnf)));(try simp only[jis]))
 refine⟨(V.tk [0] (V.e1 1 [0] (V.e1 2 [] (V.tk [3,4] (V.e1 5 [4] (V.e1 6 [] (V.tk [7,8,9] (V.e1 10 [9] (V.e1 11 [9] (V.e1 12 [9] (V.e1 13 [9] (V.e1 14 [] (V.tk [15,16,17] (V.e1 18 [17] (V.e1 19 [17] (V.e1 20 [17] (V.e1 21 [17] (V.e1 22 [] (V.tk [23,24,25] (V.e1 26 [25] (V.e1 27 [25] (V.e1 28 [25] (V.e1 29 [25] (V.e1 30 [] (V.tk [31,32,33] (V.e1 34 [33] (V.e1 35 [33] (V.e1 36 [33] (V.e1 37 [33] (V.e1 38 [] (V.tk [39,40,41,42,43] (V.e1 44 [43,42,41] (V.e1 45 [] (V.tk [46,47,48,49] (V.e1 50 [48] (V.e1 51 [] (V.tk [52,53,54,55] (V.e1 56 [54] (V.e1 57 [] (V.tk [58,59,60,61] (V.e1 62 [61,60] (V.e1 63 [] (V.tk [64,65] .done))))))))))))))))))))))))))))))))))))))))))),[],V.pok,?_⟩
 refine jab [(0,.bool true)] [] ?_ ?_
 ·(conv=>whnf);(try simp only[jis])
  repeat' (first|exact V.wk|((with_reducible refine And.intro ?_ jaA);(conv=>whnf);(try simp only[jis]))|((with_reducible first|refine jar ?_ ?_|refine jau ?_ ?_)<;>(conv=>whnf);(try simp only[jis]))|((first|refine V.s1 ?_|((with_reducible refine jan ?_ ?_);(focus ((conv=>whnf);(try simp only[jis]);(repeat ((first|refine V.s1 ?_);(try simp only[jis])));exact⟨rfl⟩));(conv=>whnf))|((try ((with_reducible refine .ext ?_);(conv=>whnf);(try simp only[jis])));(with_reducible refine jaa (r:=?_) ?_ ?_);rotate_left;(focus (first|exact(o0)|exact(o1)|exact(o2)|exact(o3)|exact(o4)|exact(o5)|exact(fo)|exact(ce)|exact(st)|exact(b1)|exact(b2)|exact(re)|exact(ee)|exact(v0)|exact(v1)|exact(v2)|exact(q0)|exact(q1)|exact(q2)|exact(q3)|exact(f3)|exact(g1)|exact(g2)));(conv=>whnf)));(try simp only[jis]))|(refine And.intro ?_ ?_<;>(conv=>whnf);(try simp only[jis])))
 refine V.r0 jis ?_
 exact Fin.of rfl
theorem bandq2_1 {z0 z1 out:Int}(ho:out=1){data:List Int}(hg:jag [z0,z1] out data=true)(X:Nat→Int×Int)(hX:∀ i,i<2→vb (X i).1 (X i).2=true) :
  Cl 19 [gridD [z0,z1] out data,slB X 2] (.tup [slB (fun j=>confB (evQ [z0,z1] out data (midB (X 0)) (midB (X 1)) 0 j) (sprQ [z0,z1] data out 2 X j) (Rat.divInt ((loL out data).getD j 0) 65535) (Rat.divInt ((hiL out data).getD j 0) 65535)) out.toNat,.int .i64 0]):=by
 have og:=jap hg
 have so:=jed (out:=out) og.2.2.2 og.2.1 2 (jjc _)
 have rl:=rng_ok hg
 have li:=blist2a (F:=49) (fun i=>(clI (X i).1,clI (X i).2)) (bands1_20 X (clI (X 0).1,clI (X 0).2) (clamp_q (hX 0 (by decide)))) (bands1_21 X (clI (X 1).1,clI (X 1).2) (clamp_q (hX 1 (by decide))))
 have fm0:=(fq_mid (X 0)).mono (show 14≤40 by decide)
 have fm1:=(fq_mid (X 1)).mono (show 14≤40 by decide)
 have om:∀ i,i<2→Cl 51 [.int .i64 (clI (X i).1+clI (X i).2),.int .i64 2000000000000] (frT (midB (X i))):=fun i _=>jeq (by have:=jca (X i).1;have:=jca (X i).2;omega) (by decide)
 have oh:∀ i,i<2→Cl 51 [.int .i64 (clI (X i).2-clI (X i).1),.int .i64 2000000000000] (frT (halB (X i))):=fun i _=>jeq (by have:=jca (X i).1;have:=jca (X i).2;omega) (by decide)
 have ev:=evalq2 hg fm0 fm1
 have b2:∀ j,j<out.toNat→Cl 54 [frT (evQ [z0,z1] out data (midB (X 0)) (midB (X 1)) 0 j),frT (sprQ [z0,z1] data out 2 X j),frT (Rat.divInt ((loL out data).getD j 0) 65535),frT (Rat.divInt ((hiL out data).getD j 0) 65535)] (.tup [.agg [.int .i64 ((fun j=>confB (evQ [z0,z1] out data (midB (X 0)) (midB (X 1)) 0 j) (sprQ [z0,z1] data out 2 X j) (Rat.divInt ((loL out data).getD j 0) 65535) (Rat.divInt ((hiL out data).getD j 0) 65535)) j).1,.int .i64 ((fun j=>confB (evQ [z0,z1] out data (midB (X 0)) (midB (X 1)) 0 j) (sprQ [z0,z1] data out 2 X j) (Rat.divInt ((loL out data).getD j 0) 65535) (Rat.divInt ((hiL out data).getD j 0) 65535)) j).2],.int .i64 0]):=fun j hj=>by
  have rb:=jdF hg hj
  have ei:=ev_in2 (x0:=midB (X 0)) (x1:=midB (X 1)) hg hj
  have sp:=spr_q2 (so j) (H:=fun i=>halB (X i)) (fun i _=>fq_hal (X i))
  have sb:=smF_bd (P:=fun i=>(((outS [z0,z1] data out [z0,z1].length j).getD i 0:Int):Rat)*halB (X i)) (n:=1) (fun i hi=>spr_term (so j) (hX i (by omega))) 1 (jjc _)
  have n3:(((1+1:Nat):Int):Rat)≤3:=by decide +kernel
  refine conf_q (fq_ev2 hg fm0 fm1 j) sp.2 (fq_full rb.1) (fq_full rb.2.1) ?_ ⟨?_,ei.1⟩ ⟨ei.2,?_⟩
  ·show 0≤smF _ _/65535∧smF _ _/65535≤50000
   constructor<;>grind
  ·rw[divF]
   have:(0:Rat)≤(((loL out data).getD j 0:Int):Rat):=by exact_mod_cast rb.1.1
   grind
  ·rw[divF]
   have:(((hiL out data).getD j 0:Int):Rat)≤((65535:Int):Rat):=Rat.intCast_le_intCast.2 rb.2.1.2
   rw[show ((65535:Int):Rat)=65535 from rfl] at this
   grind
 have o1:∀ j,j<out.toNat→Cl 51 [.int .i64 ((loL out data).getD j 0),.int .i64 65535] (frT (Rat.divInt ((loL out data).getD j 0) 65535)):=fun j hj=>jeq (by have:=jdF hg hj;omega) (by decide)
 have o2:∀ j,j<out.toNat→Cl 51 [.int .i64 ((hiL out data).getD j 0),.int .i64 65535] (frT (Rat.divInt ((hiL out data).getD j 0) 65535)):=fun j hj=>jeq (by have:=jdF hg hj;omega) (by decide)
 have sp:∀ j,Cl 53 [.ints .i64 (outS [z0,z1] data out [z0,z1].length j),slQ (fun i=>txq (halB (X i))) 2] (.tup [frT (sprQ [z0,z1] data out 2 X j),.int .i64 0]):=fun j=>(spr_q2 (so j) (H:=fun i=>halB (X i)) (fun i _=>fq_hal (X i))).1
 subst ho
 exact bands2_t [z0,z1] data _ _ 1 X (fun i=>(clI (X i).1,clI (X i).2)) (fun i=>txq (midB (X i))) (fun i=>txq (halB (X i))) _ _ _ _ _ _ rfl (fun i _=>⟨jca _,jca _⟩) (range_q hg (by simp)) li om oh ev (jgq [z0,z1] data (outS [z0,z1] data 1 [z0,z1].length) hg (by simp) rfl) (blist1c (F:=52) (fun j=>confB (evQ [z0,z1] 1 data (midB (X 0)) (midB (X 1)) 0 j) (sprQ [z0,z1] data 1 2 X j) (Rat.divInt ((loL 1 data).getD j 0) 65535) (Rat.divInt ((hiL 1 data).getD j 0) 65535)) (bands2_210 (outS [z0,z1] data 1 [z0,z1].length) (fun i=>txq (halB (X i))) (fun j=>txq (evQ [z0,z1] 1 data (midB (X 0)) (midB (X 1)) 0 j)) _ _ _ _ _ _ _ _ ((fun j=>confB (evQ [z0,z1] 1 data (midB (X 0)) (midB (X 1)) 0 j) (sprQ [z0,z1] data 1 2 X j) (Rat.divInt ((loL 1 data).getD j 0) 65535) (Rat.divInt ((hiL 1 data).getD j 0) 65535)) 0) rl.2.2.1 rl.2.2.2 (sp 0) (o1 0 (by decide)) (o2 0 (by decide)) (b2 0 (by decide))))
def wkQ:Nat→Rat
 | 0=>Rat.divInt 1 2
 | 1=>Rat.divInt 1 4
 | 2=>Rat.divInt 7 20
 | 3=>Rat.divInt 3 10
 | 4=>Rat.divInt 1 1
 | _=>Rat.divInt 2 1
theorem jem:∀ k,Fq 40 (wkQ k)
 | 0=>⟨by decide +kernel,by decide +kernel⟩
 | 1=>⟨by decide +kernel,by decide +kernel⟩
 | 2=>⟨by decide +kernel,by decide +kernel⟩
 | 3=>⟨by decide +kernel,by decide +kernel⟩
 | 4=>⟨by decide +kernel,by decide +kernel⟩
 | _+5=>by
  show Fq 40 (Rat.divInt 2 1)
  exact⟨by decide +kernel,by decide +kernel⟩
theorem jei:jag [2,2] 1 [0,13107,26214,65535]=true:=by decide +kernel
theorem wk_ev {x0 x1 y:Rat}(h0:Fq 40 x0)(h1:Fq 40 x1)(e:evQ [2,2] 1 [0,13107,26214,65535] x0 x1 0 0=y):Cl 31 [gridD [2,2] 1 [0,13107,26214,65535],frT y,slQ (fun i=>txq (rqN x0 x1 0 i)) 2] (.bool true):=by
 have v:Cl 31 [gridD [2,2] 1 [0,13107,26214,65535],frT (evQ [2,2] 1 [0,13107,26214,65535] x0 x1 0 0),slQ (fun i=>txq (rqN x0 x1 0 i)) 2] (.bool true):=value_t _ _ _ 2 _ (fun j=>txq (evQ [2,2] 1 [0,13107,26214,65535] x0 x1 0 j)) (evalq2 jei h0 h1)
 rw[e] at v
 exact v
theorem wk_cell:Cl 11 [gridD [2,2] 1 [0,13107,26214,65535],slQ (fun i=>txq (wkQ i)) 2] (.tup [.ints .i64 [0,0],.ints .i64 [0,1],V.sl2 3 [.str (txq (wkQ 0)).1,.str (txq (wkQ 0)).2,.str (txq (wkQ 1)).1,.str (txq (wkQ 1)).2,.str (txq (wkQ 1)).1,.str (txq (wkQ 1)).2],.int .i64 0]):=by
 have c:=cellq2 jei (jem 0) (jem 1)
 have e0:spB 2 (wkQ 0)=0:=by decide +kernel
 have e1:spB 2 (wkQ 1)=0:=by decide +kernel
 have e2:ord2 (spR 2 (wkQ 0)) (spR 2 (wkQ 1))=[0,1]:=by decide +kernel
 rw[e0,e1,e2] at c
 have w0:wqN (rqN (spR 2 (wkQ 0)) (spR 2 (wkQ 1)) 0) [0,1] 2 0=wkQ 0:=by decide +kernel
 have w1:wqN (rqN (spR 2 (wkQ 0)) (spR 2 (wkQ 1)) 0) [0,1] 2 1=wkQ 1:=by decide +kernel
 have w2:wqN (rqN (spR 2 (wkQ 0)) (spR 2 (wkQ 1)) 0) [0,1] 2 2=wkQ 1:=by decide +kernel
 have hw:wce (fun k=>txq (wqN (rqN (spR 2 (wkQ 0)) (spR 2 (wkQ 1)) 0) [0,1] 2 k)) 3=[.str (txq (wkQ 0)).1,.str (txq (wkQ 0)).2,.str (txq (wkQ 1)).1,.str (txq (wkQ 1)).2,.str (txq (wkQ 1)).1,.str (txq (wkQ 1)).2]:=by
  simp only[wce,w0,w1,w2]
  rfl
 unfold slQ at c
 rw[hw] at c
 exact c
theorem wk_steep:Cl 22 [gridD [2,2] 1 [0,13107,26214,65535]] (.tup [.slf 1 1 (fun j=>List.take 1 (List.drop (j*1) [.ints .i64 [52428,39321]])),.int .i64 0]):=by
 have c:=jgq [2,2] [0,13107,26214,65535] _ jei (by decide) rfl
 have e:outS [2,2] [0,13107,26214,65535] 1 ([2,2]:List Int).length 0=[52428,39321]:=by decide +kernel
 rw[e] at c
 exact c
def wkB (a b c d:Int)(k:Nat):Int×Int:=if k=0 then (a,b) else (c,d)
theorem slB1 {B:Nat→Int×Int}{y z:Int}(h:B 0=(y,z)):slB B 1=V.sl2 1 [.int .i64 y,.int .i64 z]:=by
 show V.sl2 1 [.int .i64 (B 0).1,.int .i64 (B 0).2]=_
 rw[h]
theorem wk_bands {a b c d y z:Int}(h:vb a b=true∧vb c d=true)(e:confB (evQ [2,2] 1 [0,13107,26214,65535] (midB (a,b)) (midB (c,d)) 0 0) (sprQ [2,2] [0,13107,26214,65535] 1 2 (wkB a b c d) 0) (Rat.divInt ((loL 1 [0,13107,26214,65535]).getD 0 0) 65535) (Rat.divInt ((hiL 1 [0,13107,26214,65535]).getD 0 0) 65535)=(y,z)) :
  Cl 19 [gridD [2,2] 1 [0,13107,26214,65535],V.sl2 2 [.int .i64 a,.int .i64 b,.int .i64 c,.int .i64 d]] (.tup [V.sl2 1 [.int .i64 y,.int .i64 z],.int .i64 0]):=by
 have q:=bandq2_1 rfl jei (wkB a b c d) (fun i hi=>by
  have:i=0∨i=1:=by omega
  rcases this with rfl|rfl
  ·exact h.1
  ·exact h.2)
 refine Called.cast q ?_
 rw[show (1:Int).toNat=1 from rfl,slB1 (y:=y) (z:=z)]
 exact e
theorem wk_refine:Cl 26 [gridD [2,2] 1 [0,13107,26214,65535],.ints .i64 [3,2]] (.tup [.agg [.ints .i64 [3,2],.int .i64 1,.ints .i64 [0,13107,13107,39321,26214,65535]],.int .i64 0]):=by
 have c:=refq2 jei [3,2] rfl (by decide) (by decide)
 have e:rfD [2,2] 1 [0,13107,26214,65535] [3,2]=[0,13107,13107,39321,26214,65535]:=by decide +kernel
 rw[e] at c
 exact c
theorem wk_len (X:Nat→List D):Cl 13 [gridD [2,2] 1 [0,13107,26214,65535],.slf 2 1 X] (.tup [.nil,.int .i64 2]):=by
 have ck:=Called.cast (jcD [2,2] 1 [0,13107,26214,65535] (by decide) (by decide)) (by rw[jei];first|done|rfl)
 exact eval_e _ _ _ 2 (by decide) 1 X (loc_len _ _ _ 1 X (by decide) ck)
theorem wakes_c:Cl 6 [] (.bool true):=by
 refine wakes_t (fun k=>txq (wkQ k)) (lof_c (by omega) (by omega)) (lof_c (by omega) (by omega)) (lof_c (by omega) (by omega)) (lof_c (by omega) (by omega)) (lof_c (by omega) (by omega)) (lof_c (by omega) (by omega)) lfour_c wk_cell wk_steep
  (wk_bands (by decide +kernel) (by decide +kernel)) (wk_bands (by decide +kernel) (by decide +kernel)) wk_refine (wk_len _) (wk_ev (y:=wkQ 2) (jem 0) (jem 1) (by decide +kernel)) (wk_ev (y:=wkQ 3) (jem 1) (jem 0) (by decide +kernel)) (wk_ev (y:=wkQ 4) (jem 5) (jem 4) (by decide +kernel))
end Go.Proofs.YtbnghipgicmpdaaGreatDoor
end
section
namespace Go.Proofs.YtbnghipgicmpdaaGreatDoor
open Go Go.V Go.Nb
theorem srefines_c (R:List Int)(ds:List Int)(o:Int)(vals:List Int)(sm:Bool)(kb:Int)(s:Nat→Int)(hR:R.length≤281474976710656)(hRv:∀ v∈R,InR .i64 v)(hk8:0≤kb∧kb≤255)(hd:∀ v∈ds,0≤v∧v≤255)(hdl:ds.length≤281474976710656)(ho:0≤o∧o≤255)(hv:∀ v∈vals,0≤v∧v≤65535)(hvl:vals.length≤281474976710656)(hs:∀ i,0≤s i∧s i≤255) :
  Cl 5 [.agg [.ints .u8 ds,.int .u8 o,.ints .u16 vals,.bool sm],.int .u8 kb,.agg [.int .u8 (s 0),.int .u8 (s 1),.int .u8 (s 2),.int .u8 (s 3)],.ints .i64 R] (.bool true):=by
 have gd:=draft_c ds o vals sm hd hdl ho hv hvl
 have hg:=draft_ok ds o vals sm hv
 have hbd:=nsD_bd ds
 have hwb:=wD_bd o
 have hl:(nz (nsD ds)).length=(nsD ds).length:=by simp[nz]
 exact srefines_w R ds o vals sm kb s _ _ _ hR hRv hk8 (by omega) hg (by omega) hs wakes_c gd
end Go.Proofs.YtbnghipgicmpdaaGreatDoor
end
