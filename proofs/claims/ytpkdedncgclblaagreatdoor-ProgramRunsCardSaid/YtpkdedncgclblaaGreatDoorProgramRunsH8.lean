/- What functions of the program answer at given values, part 8. Conditions: those that each theorem names. -/
import Derived.Test.YtpkdedncgclblaaGreatDoorProgramRunsH7
import Derived.Test.YtpkdedncgclblaaGreatDoorProgramRunsH6
set_option linter.unusedSimpArgs false
set_option linter.unusedVariables false
set_option maxHeartbeats 8000000
set_option maxRecDepth 100000
section
namespace Go.Proofs.YtpkdedncgclblaaGreatDoor
open Go Go.V Go.Nb
theorem cut_mg (n:Nat)(h:(mg 10000 n).length≤281474976710656):Cl 205 [.ints .i64 (mg 10000 n)] (.ints .i64 (mg 10000 n)):=by
 have:=cut_c _ (mg_dg (B:=10000) (by omega) n) h
 rw[jay (by omega),jiA] at this
 exact this
theorem parts_one (a b:Nat)(ha:(mg 10000 a).length≤100000000)(hb:0<b)(hb1:b<10000):Cl 149 [.ints .i64 (mg 10000 a),.ints .i64 (mg 10000 b)] (.tup [.ints .i64 (mg 10000 (a/b)),.ints .i64 (mg 10000 (a%b))]):=by
 have hmb:mg 10000 b=[(b:Int)]:=by
  rw[jcr (by omega) hb,Nat.mod_eq_of_lt hb1,Nat.div_eq_of_lt hb1];rfl
 have ho:=once_g (mg 10000 a) (b:Int) ha (mg_dg (by omega) a) (by omega) (by omega)
 rw[jay (by omega)] at ho
 have e1:((a:Int)/(b:Int)).toNat=a/b:=by rw[← Int.natCast_ediv,jiA]
 have e2:((a:Int)%(b:Int))=((a%b:Nat):Int):=by rw[Int.natCast_emod]
 rw[e1,e2] at ho
 have hlt:a%b<b:=jiF _ hb
 have hc:=cut_c [((a%b:Nat):Int)] (jar ⟨by omega,by omega⟩) (by simp)
 have e3:(val 10000 [((a%b:Nat):Int)]).toNat=a%b:=by rw[val,val,Int.mul_zero,Int.add_zero,jiA]
 rw[e3] at hc
 rw[hmb]
 refine V.en tbOk Tryz.func149 ?_
 (conv=>whnf)
 refine V.st ?_
 refine Cnd.yes (by simp) ?_
 (conv=>whnf)
 refine V.st ?_
 repeat ((try ((with_reducible refine .ext ?_);(conv=>whnf)));(with_reducible refine jaa (r:=?_) ?_ ?_);rotate_left;(focus (first|exact(ho)|exact(hc)));(conv=>whnf);refine V.st ?_)
 exact Fin.of rfl
theorem jhA (a b:Nat)(ha:(mg 10000 a).length<(mg 10000 b).length)(hb:(mg 10000 b).length≤100000000)(hb1:10000≤b):Cl 149 [.ints .i64 (mg 10000 a),.ints .i64 (mg 10000 b)] (.tup [.ints .i64 (mg 10000 (a/b)),.ints .i64 (mg 10000 (a%b))]):=by
 have hlt:a<b:=Nat.lt_of_not_le fun h=>by have:=jae (B:=10000) (by omega) h;omega
 have hl2:2≤(mg 10000 b).length:=by
  have:=jae (B:=10000) (by omega) hb1
  have e:mg 10000 10000=[0,1]:=by rfl
  rw[e] at this;exact this
 rw[Nat.div_eq_of_lt hlt,Nat.mod_eq_of_lt hlt,jcE]
 generalize mg 10000 a=xs at *
 generalize mg 10000 b=ys at *
 refine V.en tbOk Tryz.func149 ?_
 (conv=>whnf)
 refine V.st ?_
 refine Cnd.no (by simp;omega) ?_
 (conv=>whnf)
 refine V.st ?_
 refine Cnd.yes (by simp;omega) ?_
 (conv=>whnf)
 refine V.st ?_
 exact Fin.tup ⟨Fin.nil _,Fin.of (by rw[jjg,jiy,jjs]),trivial⟩
theorem zJ10_0:type_of% @jiA∧type_of% @jiy:=⟨@jiA,@jiy⟩
theorem parts_long (a b:Nat)(ha:(mg 10000 b).length≤(mg 10000 a).length)(hb:(mg 10000 a).length≤90000000)(hb1:10000≤b):Cl 149 [.ints .i64 (mg 10000 a),.ints .i64 (mg 10000 b)] (.tup [.ints .i64 (mg 10000 (a/b)),.ints .i64 (mg 10000 (a%b))]):=by
 obtain⟨n,hn⟩:∃ n,(mg 10000 b).length=n+2:=by
  have:=jae (B:=10000) (by omega) hb1
  have e:mg 10000 10000=[0,1]:=by rfl
  rw[e] at this
  exact⟨(mg 10000 b).length-2,by simp at this;omega⟩
 have hdx:=mg_dg (B:=10000) (by omega) a
 have hdy:=mg_dg (B:=10000) (by omega) b
 have hvx:=jay (B:=10000) (by omega) a
 have hvy:=jay (B:=10000) (by omega) b
 have hlx:=jdZ (B:=10000) (n:=a) (by omega)
 have hly:=jdZ (B:=10000) (n:=b) (by omega)
 generalize hxs:mg 10000 a=xs at *
 generalize hys:mg 10000 b=ys at *
 have e1:((ys.length:Int)-1)=((n+1:Nat):Int):=by omega
 have e2:(((n+1:Nat):Int)-1)=(n:Int):=by omega
 have e3:((xs.length:Int)-((n+1:Nat):Int))=((xs.length-(n+1):Nat):Int):=by omega
 refine V.en tbOk Tryz.func149 ?_
 (conv=>whnf)
 refine V.st ?_
 refine Cnd.no (by simp;omega) ?_
 (conv=>whnf)
 (try simp only[e1,e2,e3,jiA])
 repeat ((first|refine V.s1 ?_);(try simp only[e1,e2,e3,jiA]))
 refine Cnd.no (by simp;omega) ?_
 (conv=>whnf)
 (try simp only[e1,e2,e3,jiA])
 repeat ((first|refine V.s1 ?_);(try simp only[e1,e2,e3,jiA]))
 refine⟨(V.tk [0,1,2,3,4,5,6,7,8,9,10,11] .done),[],V.pok,.go (jab ?_)⟩
 have b1:=jaj (by omega) hdy (n+1)
 have b0:=jaj (by omega) hdy n
 have htop:val 10000 (ys.drop n)=ys.getD (n+1) 0*10000+ys.getD n 0:=by
  rw[jba,jba,jjt (by omega)];simp[val];omega
 have hy1:ys.getD (n+1) 0≠0:=by
  refine hly _ ?_
  rw[List.getLast?_eq_getElem?,hn,ji3]
  rw[show n+2-1=n+1 by omega,ji6 (by omega)];rfl
 have hvye:=jej (B:=10000) (by omega) hdy n
 rw[htop,hvy] at hvye
 have htop1:10000≤ys.getD (n+1) 0*10000+ys.getD n 0:=by omega
 have hbpos:0<b:=by omega
 have hPpos:(0:Int)<((10000:Nat):Int)^n:=jeo (by omega) n
 have hbB:b<10000^(n+2):=by rw[← hn,← hys];exact jaE (by omega)
 generalize hy1':ys.getD (n+1) 0=y1 at *
 generalize hy0':ys.getD n 0=y0 at *
 obtain⟨R0,hR0⟩:∃ R0:Nat,xs.drop (xs.length-(n+1))=mg 10000 R0:=⟨_,mg_of (by omega) (jbx hdx _) fun x hx=>hlx x (by
  rw[List.getLast?_drop] at hx
  split at hx
  ·cases hx
  ·exact hx)⟩
 have hR0v:=congrArg (val 10000) hR0
 rw[jay (by omega)] at hR0v
 have hR0b:R0<b:=by
  have h1:R0<10000^(n+1):=by
   have:=jaE (B:=10000) (n:=R0) (by omega)
   rw[← hR0,jjo] at this
   exact jiH this (jiR (by omega) (by omega))
  have h2:=jcS (B:=10000) (n:=b) (by omega) hbpos
  rw[hys,hn] at h2
  exact jiH h1 h2
 have hR0l:(mg 10000 R0).length=n+1:=by rw[← hR0,jjo];omega
 generalize hL:xs.length-(n+1)=L at *
 (conv=>whnf)
 (try simp only[e1,e2,e3,jiA,hy1',hy0',hR0,hR0l,jiy,jjg])
 repeat ((first|refine V.s1 ?_);(try simp only[e1,e2,e3,jiA,hy1',hy0',hR0,hR0l,jiy,jjg]))
 refine Lp.pub 66 ?_
 (conv=>whnf)
 have hR0t:List.take (n+1) (mg 10000 R0)=mg 10000 R0:=by rw[← hR0l,jjs]
 try simp only[hR0t,jjs]
 refine jaf ((L,List.replicate L 0,R0):Nat×List Int×Nat) (fun s=>s.1≤L∧s.2.1.length=L∧Dg 10000 s.2.1∧s.2.2<b∧val 10000 (xs.drop s.1)=val 10000 (s.2.1.drop s.1)*b+s.2.2) (fun s=>s.1)
  (fun s=>[(12,.int .i64 ((s.1:Int)-1)),(11,.ints .i64 (mg 10000 s.2.2)),(10,.osl 58 0 L)]) (fun s=>[(58,.arr .i64 s.2.1)]) ?_ ?_ ?_
 ·exact V.wk
 ·exact⟨jiB _,by simp,jch (by omega) _,hR0b,by rw[hR0v];simp[val]⟩
 rintro⟨k,q,R⟩ ⟨h1,h2,h3,h4,h5⟩
 dsimp only at h1 h2 h3 h4 h5 ⊢
 (conv=>whnf)
 refine V.st ?_
 refine V.br (fun hq=>?_) (fun hq=>?_)
 ·rw[decide_eq_true_eq] at hq
  obtain⟨j,rfl⟩:∃ j,k=j+1:=⟨k-1,by omega⟩
  have hj:j<xs.length:=by omega
  have bx:=jaj (by omega) hdx j
  generalize hx0:xs.getD j 0=x at *
  have f1:(((j+1:Nat):Int)-1)=(j:Int):=by omega
  have hRl:=jap (B:=10000) (n:=R) (k:=n+2) (by omega) (by omega)
  obtain⟨t,ht⟩:∃ t:Nat,x+10000*(R:Int)=t:=⟨(x+10000*(R:Int)).toNat,by omega⟩
  have hc1:=cut_c ([x]++mg 10000 R) (jag (jar bx) (mg_dg (by omega) R)) (by simp;omega)
  have hv1:val 10000 ([x]++mg 10000 R)=t:=by rw[List.singleton_append,val,jay (by omega)];exact ht
  rw[hv1,jiA] at hc1
  have hl1:([x]++mg 10000 R).length=1+(mg 10000 R).length:=by simp;omega
  rw[← jjs (l:=[x]++mg 10000 R),hl1] at hc1
  have htB:t<10000*b:=by omega
  have htl:=jap (B:=10000) (n:=t) (k:=n+3) (by omega) (by rw[Nat.pow_succ];omega)
  have hdt:=mg_dg (B:=10000) (by omega) t
  have hvt:=jay (B:=10000) (by omega) t
  have hst:=jeO (B:=10000) (d:=(b:Int)) hj (by omega) hx0 h5 (t:=(t:Int)) (by omega)
  generalize hts:mg 10000 t=ts at *
  refine V.r1 (V.a3 zJ10_0 f1 hx0) hc1 ?_
  have g1:((n+1:Nat):Int)+1=(n:Int)+((3:Nat):Int)-1:=by omega
  try simp only[g1]
  refine jaf (3:Nat) (fun m=>m≤3) (fun m=>m) (fun m=>[(14,.int .i64 ((n:Int)+(m:Int)-1)),(13,.int .i64 (val 10000 (ts.drop (n+m))))]) (fun _=>[]) ?_ ?_ ?_
  ·rw[show val 10000 (ts.drop (n+3))=0 by rw[jjt htl];rfl]
   exact V.wk
  ·exact jiB _
  intro m hm
  have hF:∀ k,n≤k→0≤val 10000 (ts.drop k)∧val 10000 (ts.drop k)<1000000000000:=fun k hk=>⟨jak (jbx hdt k),by
   have h8:=jcm (jbx hdt k)
   have h9:(10000:Nat)^(ts.drop k).length≤10000^3:=jiR (by omega) (by rw[jjo];omega)
   have h7:((10000^(ts.drop k).length:Nat):Int)≤((10000^3:Nat):Int):=by exact_mod_cast h9
   rw[jiU] at h7
   omega⟩
  (conv=>whnf)
  refine V.st ?_
  refine V.br (fun hq1=>?_) (fun hq1=>?_)
  ·rw[decide_eq_true_eq] at hq1
   obtain⟨m,rfl⟩:∃ m',m=m'+1:=⟨m-1,by omega⟩
   have g2:(n:Int)+((m+1:Nat):Int)-1=((n+m:Nat):Int):=by omega
   have g3:((n+m:Nat):Int)-1=(n:Int)+(m:Int)-1:=by omega
   have hF1:=hF (n+(m+1)) (by omega)
   have hF0:=hF (n+m) (by omega)
   have hd1:val 10000 (ts.drop (n+(m+1)))*10000+ts.getD (n+m) 0=val 10000 (ts.drop (n+m)):=by
    rw[jba 10000 ts (n+m),jiN,Int.add_comm];rfl
   refine V.r0 g2 ?_
   refine V.br (fun hq2=>?_) (fun hq2=>?_)
   ·rw[decide_eq_true_eq] at hq2
    have bt:=jaj (by omega) hdt (n+m)
    refine V.r0 (V.a4 g2 g3 @jiA hd1) ?_
    exact⟨m,by omega,by omega,V.wk⟩
   ·rw[decide_eq_false_iff_not] at hq2
    rw[jck (by omega),Int.add_zero] at hd1
    refine V.r0 (V.a4 g2 g3 @jiA hd1) ?_
    exact⟨m,by omega,by omega,V.wk⟩
  ·rw[decide_eq_false_iff_not] at hq1
   obtain rfl:m=0:=by omega
   have hte:=jej (B:=10000) (by omega) hdt n
   rw[hvt] at hte
   have hFn:=hF n (by omega)
   refine V.r0 @jiz ?_
   refine⟨(V.tk [0,1,2,3,4,5,6,7,8,9] .done),[],V.pok,.go (jab ?_)⟩
   have hends:=trial_ends (B:=10000) (F:=val 10000 (ts.drop n)) (top:=y1*10000+y0) (P:=((10000:Nat):Int)^n) (R:=(t:Int)) (b:=(b:Int)) (by omega) hPpos htop1 hFn.1 hvye.1 hvye.2 hte.1 hte.2 (by omega)
   generalize hFv:val 10000 (ts.drop n)=F at *
   refine V.r0 (V.a2 @jiz hFv) ?_
   have hFlo:0≤F/(y1*10000+y0):=Int.ediv_nonneg (by omega) (by omega)
   refine jaf ((F/(y1*10000+y0+1),F/(y1*10000+y0)+1):Int×Int) (fun s=>0≤s.1∧s.1*b≤t∧t<s.2*b∧s.2≤10001) (fun s=>(s.2-s.1).toNat) (fun s=>[(16,.int .i64 s.2),(15,.int .i64 s.1)]) (fun _=>[]) ?_ ?_ ?_
   ·exact V.wk
   ·exact⟨hends.1,hends.2.1,hends.2.2.1,by dsimp only;omega⟩
   rintro⟨low,high⟩ ⟨i1,i2,i3,i4⟩
   dsimp only at i1 i2 i3 i4 ⊢
   have hlh:low<high:=Int.lt_of_mul_lt_mul_right (Int.lt_of_le_of_lt i2 i3) (by omega)
   (conv=>whnf)
   refine V.st ?_
   refine V.br (fun hq3=>?_) (fun hq3=>?_)
   ·rw[decide_eq_true_eq] at hq3
    obtain⟨m,hm2⟩:∃ m:Nat,(low+high)/2=m:=⟨((low+high)/2).toNat,by omega⟩
    have hp:=jeM ys [(m:Int)] (by omega) (by simp) hdy (fun j=>by
     cases j with
     | zero=>simp;omega
     | succ j=>simp)
    have hpv:(val 10000 ys*val 10000 [(m:Int)]).toNat=b*m:=by
     rw[hvy,val,val,Int.mul_zero,Int.add_zero,← jiL,jiA]
    rw[hpv] at hp
    have hpl:=jap (B:=10000) (n:=b*m) (k:=n+4) (by omega) (by
     have h8:b*m≤b*10000:=Nat.mul_le_mul_left _ (by omega)
     rw[Nat.pow_succ,Nat.pow_succ];omega)
    have hcm:=cut_mg (b*m) (by omega)
    have ho:=order_c (mg 10000 (b*m)) ts (by omega) (by omega) (mg_dg (by omega) _) hdt
    have hsg:=jgS (b*m) t
    rw[hts] at hsg
    generalize ordV (mg 10000 (b*m)) ts=od at *
    have hbm:(m:Int)*(b:Int)=((b*m:Nat):Int):=by rw[Nat.mul_comm,jiL]
    refine V.r3 hm2 hp hcm ho ?_
    refine V.br (fun hq4=>?_) (fun hq4=>?_)
    ·rw[decide_eq_true_eq] at hq4
     (conv=>whnf)
     refine V.st ?_
     exact⟨((m:Int),high),⟨by dsimp only;omega,by dsimp only;omega,i3,i4⟩,by dsimp only;omega,V.wk⟩
    ·rw[decide_eq_false_iff_not] at hq4
     (conv=>whnf)
     refine V.st ?_
     exact⟨(low,(m:Int)),⟨i1,i2,by dsimp only;omega,by dsimp only;omega⟩,by dsimp only;omega,V.wk⟩
   ·rw[decide_eq_false_iff_not] at hq3
    have hout:=trial_out (R:=(t:Int)) (b:=(b:Int)) (by omega) i2 i3 (by omega)
    obtain⟨lw,rfl⟩:∃ lw:Nat,low=lw:=⟨low.toNat,by omega⟩
    have hlwB:lw<10000:=by
     have h8:(lw:Int)*b<10000*b:=by omega
     have:=Int.lt_of_mul_lt_mul_right h8 (by omega)
     omega
    have hp:=jeM ys [(lw:Int)] (by omega) (by simp) hdy (fun j=>by
     cases j with
     | zero=>simp;omega
     | succ j=>simp)
    have hpv:(val 10000 ys*val 10000 [(lw:Int)]).toNat=b*lw:=by
     rw[hvy,val,val,Int.mul_zero,Int.add_zero,← jiL,jiA]
    rw[hpv] at hp
    have hble:b*lw≤t:=by
     rw[← jiL] at i2
     have:=Int.ofNat_le.1 i2
     rw[Nat.mul_comm];exact this
    have hdf:=jcZ t (b*lw) hble (by rw[hts];omega)
    rw[hts] at hdf
    have hmod:((t%b:Nat):Int)=(t:Int)%(b:Int):=Int.natCast_emod _ _
    have hmod2:t-b*lw=t%b:=by
     have h8:=hout.2
     rw[← jiL] at h8
     omega
    rw[hmod2] at hdf
    refine V.r2 (V.a2 zJ10_0 f1) hp hdf ?_
    rw[← hout.1,← hmod] at hst
    exact⟨(j,q.set j (lw:Int),t%b),⟨by dsimp only;omega,by dsimp only;rw[jjq];exact h2,jdI h3 (by omega),jiF _ hbpos,hst⟩,by dsimp only;omega,V.wk⟩
 ·rw[decide_eq_false_iff_not] at hq
  obtain rfl:k=0:=by omega
  rw[List.drop_zero,List.drop_zero,hvx] at h5
  have hvq:=jak h3
  obtain⟨w,hw⟩:∃ w:Nat,val 10000 q=w:=⟨(val 10000 q).toNat,by omega⟩
  rw[hw,← jiL] at h5
  have h6:a=w*b+R:=by omega
  have e8:a/b=w:=by rw[h6,Nat.add_comm,Nat.add_mul_div_right _ _ hbpos,Nat.div_eq_of_lt h4,jiy]
  have e9:a%b=R:=by rw[h6,Nat.add_comm,Nat.add_mul_mod_self_right,Nat.mod_eq_of_lt h4]
  have hc:=cut_c q h3 (by omega)
  rw[hw,jiA,← jjs (l:=q),h2] at hc
  (conv=>whnf)
  refine V.st ?_
  repeat ((try ((with_reducible refine .ext ?_);(conv=>whnf)));(with_reducible refine jaa (r:=?_) ?_ ?_);rotate_left;(focus (first|exact(hc)));(conv=>whnf);refine V.st ?_)
  exact Fin.of (by rw[e8,e9])
theorem parts_c (a b:Nat)(ha:(mg 10000 a).length≤90000000)(hb:(mg 10000 b).length≤90000000)(hb0:0<b):Cl 149 [.ints .i64 (mg 10000 a),.ints .i64 (mg 10000 b)] (.tup [.ints .i64 (mg 10000 (a/b)),.ints .i64 (mg 10000 (a%b))]):=by
 rcases jiI b 10000 with h|h
 ·exact parts_one a b (by omega) hb0 h
 ·rcases jiI (mg 10000 a).length (mg 10000 b).length with h2|h2
  ·exact jhA a b h2 (by omega) h
  ·exact parts_long a b h2 ha h
def Sm (k:Nat)(z:Int):Prop:=(mg 10000 z.natAbs).length≤k
theorem jc3 {B:Nat}(hB:2≤B)(a b:Nat):(mg B (a+b)).length≤max (mg B a).length (mg B b).length+1:=by
 have h1:=jaE (B:=B) (n:=a) hB
 have h2:=jaE (B:=B) (n:=b) hB
 have h3:B^(mg B a).length≤B^max (mg B a).length (mg B b).length:=jiR (by omega) (by omega)
 have h4:B^(mg B b).length≤B^max (mg B a).length (mg B b).length:=jiR (by omega) (by omega)
 refine jap hB ?_
 rw[Nat.pow_succ]
 have h5:=Nat.mul_le_mul_left (B^max (mg B a).length (mg B b).length) hB
 omega
theorem jbX {B:Nat}(hB:2≤B)(a b:Nat):(mg B (a*b)).length≤(mg B a).length+(mg B b).length:=by
 have h1:=jaE (B:=B) (n:=a) hB
 have h2:=jaE (B:=B) (n:=b) hB
 refine jap hB ?_
 rw[Nat.pow_add]
 exact Nat.mul_lt_mul'' h1 h2
theorem Sm.mono {k l:Nat}{z:Int}(h:Sm k z)(hl:k≤l):Sm l z:=jiC h hl
theorem Sm.neg {k:Nat}{z:Int}(h:Sm k z):Sm k (-z):=by unfold Sm at *; rw[Int.natAbs_neg];exact h
theorem Sm.le {k:Nat}{y z:Int}(h:Sm k z)(hy:y.natAbs≤z.natAbs):Sm k y:=jiC (jae (by omega) hy) h
theorem Sm.mul {k l:Nat}{y z:Int}(h:Sm k y)(h2:Sm l z):Sm (k+l) (y*z):=by
 unfold Sm at *
 rw[Int.natAbs_mul]
 have:=jbX (B:=10000) (by omega) y.natAbs z.natAbs
 omega
theorem Sm.add {k:Nat}{y z:Int}(h:Sm k y)(h2:Sm k z):Sm (k+1) (y+z):=by
 unfold Sm at *
 have h3:=jc3 (B:=10000) (by omega) y.natAbs z.natAbs
 have h4:=jae (B:=10000) (by omega) (Int.natAbs_add_le y z)
 omega
theorem Sm.lit {k:Nat}{z:Int}(h:z.natAbs<10000^k):Sm k z:=jap (by omega) h
theorem jde (b:Bool)(n:Nat)(h:(mg 10000 n).length≤200000000):Cl 147 [.bool b,.ints .i64 (mg 10000 n)] (plD (if b then -(n:Int) else n)):=by
 have:=jeS b (mg 10000 n) (mg_dg (by omega) n) (by omega)
 rw[jay (by omega)] at this
 exact this
theorem jgR (x y:Int)(hx:Sm 90000000 x)(hy:Sm 90000000 y):Cl 72 [plD x,plD y] (plD (x+y)):=by
 unfold Sm at hx hy
 have hl:=jc3 (B:=10000) (by omega) x.natAbs y.natAbs
 have hs:=sum_c x.natAbs y.natAbs (by omega) (by omega)
 have ho:=order_c (mg 10000 x.natAbs) (mg 10000 y.natAbs) (by omega) (by omega) (mg_dg (by omega) _) (mg_dg (by omega) _)
 have hsg:=jgS x.natAbs y.natAbs
 generalize ordV (mg 10000 x.natAbs) (mg 10000 y.natAbs)=od at *
 rw[show plD x = .agg [.bool (decide (x<0)),.ints .i64 (mg 10000 x.natAbs)] from rfl,show plD y = .agg [.bool (decide (y<0)),.ints .i64 (mg 10000 y.natAbs)] from rfl]
 refine V.en tbOk Tryz.func72 ?_
 (conv=>whnf)
 refine V.st ?_
 refine V.br (fun hq=>?_) (fun hq=>?_)
 ·rw[beq_iff_eq,decide_eq_decide] at hq
  have hm:=jde (decide (x<0)) (x.natAbs+y.natAbs) (by omega)
  have e:(if decide (x<0)=true then -((x.natAbs+y.natAbs:Nat):Int) else ((x.natAbs+y.natAbs:Nat):Int))=x+y:=by
   by_cases h:x<0
   ·simp[h];omega
   ·simp[h];omega
  rw[e] at hm
  (conv=>whnf)
  refine V.st ?_
  refine⟨Pq21z,[],V.pok,.go (jab ?_)⟩
  (conv=>whnf)
  refine V.st ?_
  repeat ((try ((with_reducible refine .ext ?_);(conv=>whnf)));(with_reducible refine jaa (r:=?_) ?_ ?_);rotate_left;(focus (first|exact(hs)|exact(hm)));(conv=>whnf);refine V.st ?_)
  exact Fin.of rfl
 ·have hq':¬ (x<0↔y<0):=fun h=>by rw[beq_eq_false_iff_ne] at hq;exact hq (decide_eq_decide.2 h)
  (conv=>whnf)
  refine V.st ?_
  repeat ((try ((with_reducible refine .ext ?_);(conv=>whnf)));(with_reducible refine jaa (r:=?_) ?_ ?_);rotate_left;(focus (first|exact(ho)));(conv=>whnf);refine V.st ?_)
  refine V.br (fun hq2=>?_) (fun hq2=>?_)
  ·rw[decide_eq_true_eq] at hq2
   have hd:=jcZ x.natAbs y.natAbs (by omega) (by omega)
   have hl2:=jae (B:=10000) (by omega) (Nat.sub_le x.natAbs y.natAbs)
   have hm:=jde (decide (x<0)) (x.natAbs-y.natAbs) (by omega)
   have e:(if decide (x<0)=true then -((x.natAbs-y.natAbs:Nat):Int) else ((x.natAbs-y.natAbs:Nat):Int))=x+y:=by
    by_cases h:x<0
    ·simp[h];omega
    ·simp[h];omega
   rw[e] at hm
   (conv=>whnf)
   refine V.st ?_
   refine⟨Pq21z,[],V.pok,.go (jab ?_)⟩
   (conv=>whnf)
   refine V.st ?_
   repeat ((try ((with_reducible refine .ext ?_);(conv=>whnf)));(with_reducible refine jaa (r:=?_) ?_ ?_);rotate_left;(focus (first|exact(hd)|exact(hm)));(conv=>whnf);refine V.st ?_)
   exact Fin.of rfl
  ·rw[decide_eq_false_iff_not] at hq2
   have hd:=jcZ y.natAbs x.natAbs (by omega) (by omega)
   have hl2:=jae (B:=10000) (by omega) (Nat.sub_le y.natAbs x.natAbs)
   have hm:=jde (decide (y<0)) (y.natAbs-x.natAbs) (by omega)
   have e:(if decide (y<0)=true then -((y.natAbs-x.natAbs:Nat):Int) else ((y.natAbs-x.natAbs:Nat):Int))=x+y:=by
    by_cases h:y<0
    ·simp[h];omega
    ·simp[h];omega
   rw[e] at hm
   (conv=>whnf)
   refine V.st ?_
   refine⟨Pq21z,[],V.pok,.go (jab ?_)⟩
   (conv=>whnf)
   refine V.st ?_
   repeat ((try ((with_reducible refine .ext ?_);(conv=>whnf)));(with_reducible refine jaa (r:=?_) ?_ ?_);rotate_left;(focus (first|exact(hd)|exact(hm)));(conv=>whnf);refine V.st ?_)
   exact Fin.of rfl
theorem minus_c (x y:Int)(hx:Sm 90000000 x)(hy:Sm 90000000 y):Cl 197 [plD x,plD y] (plD (x-y)):=by
 have ht:=turn_c y (by unfold Sm at hy;omega)
 have hp:=jgR x (-y) hx hy.neg
 rw[show x + -y=x-y by omega] at hp
 rw[show plD x = .agg [.bool (decide (x<0)),.ints .i64 (mg 10000 x.natAbs)] from rfl,show plD y = .agg [.bool (decide (y<0)),.ints .i64 (mg 10000 y.natAbs)] from rfl] at *
 refine V.en tbOk Tryz.func197 ?_
 (conv=>whnf)
 refine V.st ?_
 refine⟨Pq49z,[],V.pok,.go (jab ?_)⟩
 (conv=>whnf)
 refine V.st ?_
 repeat ((try ((with_reducible refine .ext ?_);(conv=>whnf)));(with_reducible refine jaa (r:=?_) ?_ ?_);rotate_left;(focus (first|exact(ht)|exact(hp)));(conv=>whnf);refine V.st ?_)
 exact Fin.of rfl
theorem ja6 {a b X Y:Int}(hb:b≠0)(h:a=Y+b*X)(h0:0≤Y)(h1:Y<b.natAbs):a/b=X∧a%b=Y:=by
 have hm:a%b=Y:=by
  rw[h,Int.add_mul_emod_self_left]
  rcases Int.lt_or_lt_of_ne hb with h2|h2
  ·rw[← Int.emod_neg,Int.emod_eq_of_lt h0 (by omega)]
  ·exact Int.emod_eq_of_lt h0 (by omega)
 refine⟨?_,hm⟩
 have h3:=jiv a b
 rw[hm] at h3
 exact Int.eq_of_mul_eq_mul_left hb (by omega)
theorem jhB (a b:Int)(hb:b≠0)(x0 y0:Int)(hx:x0=if (decide (a<0) != decide (b<0))=true then -((a.natAbs/b.natAbs:Nat):Int) else ((a.natAbs/b.natAbs:Nat):Int))
  (hy:y0=if decide (a<0)=true then -((a.natAbs%b.natAbs:Nat):Int) else ((a.natAbs%b.natAbs:Nat):Int)) :
  (y0<0→a%b=y0+b.natAbs∧(b<0→a/b=x0+1)∧(¬ b<0→a/b=x0-1))∧(¬ y0<0→a%b=y0∧a/b=x0):=by
 have h1:=Nat.mod_add_div a.natAbs b.natAbs
 have h2:a.natAbs%b.natAbs<b.natAbs:=jiF _ (by omega)
 generalize a.natAbs%b.natAbs=r at *
 generalize a.natAbs/b.natAbs=q at *
 have h3:(a.natAbs:Int)=r+(b.natAbs:Int)*q:=by rw[← jiL,← Int.natCast_add,h1]
 have hmul1:b*((q:Int)+1)=b*q+b:=by rw[jiM,Int.mul_one]
 have hmul2:b*(-(q:Int)+1) = -(b*q)+b:=by rw[jiM,Int.mul_one,Int.mul_neg]
 have hmul3:b*((q:Int)-1)=b*q-b:=by rw[Int.mul_sub,Int.mul_one]
 have hmul4:b*(-(q:Int)-1) = -(b*q)-b:=by rw[Int.mul_sub,Int.mul_one,Int.mul_neg]
 have hmul5:b*(-(q:Int)) = -(b*q):=by rw[Int.mul_neg]
 by_cases ha:a<0<;>by_cases hbn:b<0
 ·have e1:(b.natAbs:Int) = -b:=by omega
  rw[e1,Int.neg_mul] at h3
  simp only[ha,hbn,decide_true,bne_self_eq_false,Bool.false_eq_true,if_false,if_true] at hx hy
  subst hx hy
  refine⟨fun h=>?_,fun h=>?_⟩
  ·have:=ja6 (a:=a) (b:=b) (X:=(q:Int)+1) (Y := -(r:Int)+b.natAbs) hb (by omega) (by omega) (by omega)
   exact⟨this.2,fun _=>this.1,fun h=>absurd hbn h⟩
  ·have:=ja6 (a:=a) (b:=b) (X:=(q:Int)) (Y := -(r:Int)) hb (by omega) (by omega) (by omega)
   exact⟨this.2,this.1⟩
 ·have e1:(b.natAbs:Int)=b:=by omega
  rw[e1] at h3
  simp only[ha,hbn,decide_true,decide_false,bne,beq_eq_false_iff_ne,ne_eq,Bool.true_eq_false,not_false_eq_true,if_true,Bool.not_false,beq_false] at hx hy
  have hx':x0 = -(q:Int):=by simpa using hx
  subst hx' hy
  refine⟨fun h=>?_,fun h=>?_⟩
  ·have:=ja6 (a:=a) (b:=b) (X := -(q:Int)-1) (Y := -(r:Int)+b.natAbs) hb (by omega) (by omega) (by omega)
   exact⟨this.2,fun h=>absurd h hbn,fun _=>this.1⟩
  ·have:=ja6 (a:=a) (b:=b) (X := -(q:Int)) (Y := -(r:Int)) hb (by omega) (by omega) (by omega)
   exact⟨this.2,this.1⟩
 ·have e1:(b.natAbs:Int) = -b:=by omega
  rw[e1,Int.neg_mul] at h3
  have hx':x0 = -(q:Int):=by simpa [ha,hbn] using hx
  have hy':y0=(r:Int):=by simpa [ha] using hy
  subst hx' hy'
  refine⟨fun h=>by omega,fun h=>?_⟩
  have:=ja6 (a:=a) (b:=b) (X := -(q:Int)) (Y:=(r:Int)) hb (by omega) (by omega) (by omega)
  exact⟨this.2,this.1⟩
 ·have e1:(b.natAbs:Int)=b:=by omega
  rw[e1] at h3
  have hx':x0=(q:Int):=by simpa [ha,hbn] using hx
  have hy':y0=(r:Int):=by simpa [ha] using hy
  subst hx' hy'
  refine⟨fun h=>by omega,fun h=>?_⟩
  have:=ja6 (a:=a) (b:=b) (X:=(q:Int)) (Y:=(r:Int)) hb (by omega) (by omega) (by omega)
  exact⟨this.2,this.1⟩
theorem jep (x y:Int)(hx:Sm 80000000 x)(hy:Sm 80000000 y)(hy0:y≠0):Cl 155 [plD x,plD y] (.tup [plD (x/y),plD (x%y)]):=by
 unfold Sm at hx hy
 have hp:=parts_c x.natAbs y.natAbs (by omega) (by omega) (by omega)
 have hq:=jae (B:=10000) (by omega) (jiS x.natAbs y.natAbs)
 have hr:=jae (B:=10000) (by omega) (Nat.mod_le x.natAbs y.natAbs)
 have hm1:=jde (decide (x<0) != decide (y<0)) (x.natAbs/y.natAbs) (by omega)
 have hm2:=jde (decide (x<0)) (x.natAbs%y.natAbs) (by omega)
 have hpl:=jhB x y hy0 _ _ rfl rfl
 have hsx:Sm 80000000 (if (decide (x<0) != decide (y<0))=true then -((x.natAbs/y.natAbs:Nat):Int) else ((x.natAbs/y.natAbs:Nat):Int)):=by
  unfold Sm;split<;>simp only[Int.natAbs_neg,jiQ]<;>omega
 have hsy:Sm 80000000 (if decide (x<0)=true then -((x.natAbs%y.natAbs:Nat):Int) else ((x.natAbs%y.natAbs:Nat):Int)):=by
  unfold Sm;split<;>simp only[Int.natAbs_neg,jiQ]<;>omega
 generalize (if (decide (x<0) != decide (y<0))=true then -((x.natAbs/y.natAbs:Nat):Int) else ((x.natAbs/y.natAbs:Nat):Int))=x0 at *
 generalize (if decide (x<0)=true then -((x.natAbs%y.natAbs:Nat):Int) else ((x.natAbs%y.natAbs:Nat):Int))=y0 at *
 rw[show plD x = .agg [.bool (decide (x<0)),.ints .i64 (mg 10000 x.natAbs)] from rfl,show plD y = .agg [.bool (decide (y<0)),.ints .i64 (mg 10000 y.natAbs)] from rfl] at *
 refine V.en tbOk Tryz.func155 ?_
 (conv=>whnf)
 refine V.st ?_
 repeat ((try ((with_reducible refine .ext ?_);(conv=>whnf)));(with_reducible refine jaa (r:=?_) ?_ ?_);rotate_left;(focus (first|exact(hp)));(conv=>whnf);refine V.st ?_)
 rw[show plD x0 = .agg [.bool (decide (x0<0)),.ints .i64 (mg 10000 x0.natAbs)] from rfl] at hm1
 rw[show plD y0 = .agg [.bool (decide (y0<0)),.ints .i64 (mg 10000 y0.natAbs)] from rfl] at hm2
 refine⟨(V.tk [0,1,2,3,4,5,7,8,9] (.ev (.cons 6 [9,8,7] (.ev (.cons 10 [] (.ev (.cons 11 [] (V.e1 12 [] (V.e1 13 [] (V.e1 14 [] .done))) (.cons 12 [] (V.e1 11 [] (V.e1 13 [] (V.e1 14 [] .done))) .nil))) (.cons 11 [9,8,7] (.ev (.cons 10 [] (V.e1 12 [] (V.e1 13 [] (V.e1 14 [] .done))) (.cons 12 [9,8,7] (V.e1 10 [] (V.e1 13 [] (V.e1 14 [] .done))) .nil))) (.cons 12 [9,8,7] (.ev (.cons 10 [] (V.e1 11 [] (V.e1 13 [] (V.e1 14 [] .done))) (.cons 11 [9,8,7] (V.e1 10 [] (V.e1 13 [] (V.e1 14 [] .done))) .nil))) .nil)))) (.cons 11 [9,8,7,5,4,3,2,1,0] (.ev (.cons 6 [9,8,7] (.ev (.cons 10 [] (V.e1 12 [] (V.e1 13 [] (V.e1 14 [] .done))) (.cons 12 [9,8,7] (V.e1 10 [] (V.e1 13 [] (V.e1 14 [] .done))) .nil))) (.cons 12 [9,8,7,5,4,3,2,1,0] (V.e1 6 [9,8,7] (V.e1 10 [] (V.e1 13 [] (V.e1 14 [] .done)))) .nil))) (.cons 12 [9,8,7,5,4,3,2,1,0] (.ev (.cons 6 [9,8,7] (.ev (.cons 10 [] (V.e1 11 [] (V.e1 13 [] (V.e1 14 [] .done))) (.cons 11 [9,8,7] (V.e1 10 [] (V.e1 13 [] (V.e1 14 [] .done))) .nil))) (.cons 11 [9,8,7,5,4,3,2,1,0] (V.e1 6 [9,8,7] (V.e1 10 [] (V.e1 13 [] (V.e1 14 [] .done)))) .nil))) .nil))))),[],V.pok,?_⟩
 refine jas [(8,.box 8 0),(9,.box 9 0)] [(8,.box [.bool (decide (x0<0)),.ints .i64 (mg 10000 x0.natAbs)]),(9,.box [.bool (decide (y0<0)),.ints .i64 (mg 10000 y0.natAbs)])] ?_ ?_
 ·exact V.d2 @jiy hm1 hm2
 (conv=>whnf)
 refine V.st ?_
 refine V.br (fun hq=>?_) (fun hq=>?_)
 ·rw[decide_eq_true_eq] at hq
  have hpl:=hpl.1 hq
  have hy1:y0+(y.natAbs:Int)=x%y:=by omega
  have hc1:=jgR y0 (y.natAbs:Int) (hsy.mono (by omega)) (by unfold Sm;rw[jiQ];omega)
  rw[hy1] at hc1
  rw[show plD y0 = .agg [.bool (decide (y0<0)),.ints .i64 (mg 10000 y0.natAbs)] from rfl,show plD (y.natAbs:Int) = .agg [.bool false,.ints .i64 (mg 10000 y.natAbs)] by unfold plD;rw[jiQ,decide_eq_false (by omega)],show plD (x%y) = .agg [.bool (decide (x%y<0)),.ints .i64 (mg 10000 (x%y).natAbs)] from rfl] at hc1
  have hi:=jbo 1 ⟨by decide,by decide⟩
  (conv=>whnf)
  refine V.st ?_
  repeat ((try ((with_reducible refine .ext ?_);(conv=>whnf)));(with_reducible refine jaa (r:=?_) ?_ ?_);rotate_left;(focus (first|exact(hc1)));(conv=>whnf);refine V.st ?_)
  refine V.br (fun hq2=>?_) (fun hq2=>?_)
  ·rw[decide_eq_true_eq] at hq2
   have hc2:=jgR x0 1 (hsx.mono (by omega)) ((Sm.lit (k:=1) (by decide)).mono (by omega))
   rw[← hpl.2.1 hq2,show plD x0 = .agg [.bool (decide (x0<0)),.ints .i64 (mg 10000 x0.natAbs)] from rfl,show plD (x/y) = .agg [.bool (decide (x/y<0)),.ints .i64 (mg 10000 (x/y).natAbs)] from rfl] at hc2
   (conv=>whnf)
   refine V.st ?_
   refine⟨(V.tk [0] (V.e1 1 [0] (V.e1 2 [] (V.e1 3 [] .done)))),[],V.pok,.go (jab ?_)⟩
   (conv=>whnf)
   refine V.st ?_
   repeat ((try ((with_reducible refine .ext ?_);(conv=>whnf)));(with_reducible refine jaa (r:=?_) ?_ ?_);rotate_left;(focus (first|exact(hi)|exact(hc2)));(conv=>whnf);refine V.st ?_)
   refine⟨Pq50z,[],V.pok,.go (jab ?_)⟩
   (conv=>whnf)
   refine V.st ?_
   exact Fin.of rfl
  ·rw[decide_eq_false_iff_not] at hq2
   have hc2:=minus_c x0 1 (hsx.mono (by omega)) ((Sm.lit (k:=1) (by decide)).mono (by omega))
   rw[← hpl.2.2 hq2,show plD x0 = .agg [.bool (decide (x0<0)),.ints .i64 (mg 10000 x0.natAbs)] from rfl,show plD (x/y) = .agg [.bool (decide (x/y<0)),.ints .i64 (mg 10000 (x/y).natAbs)] from rfl] at hc2
   (conv=>whnf)
   refine V.st ?_
   refine⟨(V.tk [0] (V.e1 1 [0] (V.e1 2 [] (V.e1 3 [] .done)))),[],V.pok,.go (jab ?_)⟩
   (conv=>whnf)
   refine V.st ?_
   repeat ((try ((with_reducible refine .ext ?_);(conv=>whnf)));(with_reducible refine jaa (r:=?_) ?_ ?_);rotate_left;(focus (first|exact(hi)|exact(hc2)));(conv=>whnf);refine V.st ?_)
   refine⟨Pq50z,[],V.pok,.go (jab ?_)⟩
   (conv=>whnf)
   refine V.st ?_
   exact Fin.of rfl
 ·rw[decide_eq_false_iff_not] at hq
  have hpl:=hpl.2 hq
  rw[← hpl.1,← hpl.2]
  (conv=>whnf)
  refine V.st ?_
  refine⟨Pq50z,[],V.pok,.go (jab ?_)⟩
  (conv=>whnf)
  refine V.st ?_
  exact Fin.of rfl
theorem je8 (x y:Int)(hx:Sm 80000000 x)(hy:Sm 80000000 y):Cl 70 [plD x,plD y] (plD (Int.gcd x y)):=by
 unfold Sm at hx hy
 rw[show plD x = .agg [.bool (decide (x<0)),.ints .i64 (mg 10000 x.natAbs)] from rfl,show plD y = .agg [.bool (decide (y<0)),.ints .i64 (mg 10000 y.natAbs)] from rfl]
 refine V.en tbOk Tryz.func70 ?_
 (conv=>whnf)
 refine V.st ?_
 refine⟨(V.tk [0,1,2,3,4,5] .done),[],V.pok,.go (jab ?_)⟩
 refine V.st ?_
 refine jaf ((x.natAbs,y.natAbs):Nat×Nat) (fun s=>Nat.gcd s.1 s.2=Int.gcd x y∧(mg 10000 s.1).length≤80000000∧(mg 10000 s.2).length≤80000000) (fun s=>s.2)
  (fun s=>[(6,.ints .i64 (mg 10000 s.2)),(5,.ints .i64 (mg 10000 s.1))]) (fun _=>[]) ?_ ?_ ?_
 ·exact V.wk
 ·exact⟨rfl,hx,hy⟩
 rintro⟨a,b⟩ ⟨h1,h2,h3⟩
 dsimp only at h1 h2 h3 ⊢
 have hnil:=jce (B:=10000) (n:=b) (by omega)
 rw[← ji4] at hnil
 (conv=>whnf)
 refine V.st ?_
 refine V.br (fun hq=>?_) (fun hq=>?_)
 ·rw[decide_eq_true_eq] at hq
  have hb:0<b:=by omega
  have hp:=parts_c a b (by omega) (by omega) hb
  have hr:=jae (B:=10000) (by omega) (Nat.le_of_lt (jiF a hb))
  (conv=>whnf)
  refine V.st ?_
  repeat ((try ((with_reducible refine .ext ?_);(conv=>whnf)));(with_reducible refine jaa (r:=?_) ?_ ?_);rotate_left;(focus (first|exact(hp)));(conv=>whnf);refine V.st ?_)
  exact⟨(b,a%b),⟨by dsimp only;rw[Nat.gcd_comm,← Nat.gcd_rec,Nat.gcd_comm];exact h1,h3,by dsimp only;omega⟩,jiF _ hb,V.wk⟩
 ·rw[decide_eq_false_iff_not] at hq
  obtain rfl:b=0:=hnil.1 (by omega)
  rw[Nat.gcd_zero_right] at h1
  (conv=>whnf)
  refine V.st ?_
  exact Fin.of (by unfold plD;rw[jiQ,h1,decide_eq_false (by omega)])
theorem jfH (k:Nat):∀ (l a b:Nat),b<10^l→pad k a++pad l b=pad (k+l) (a*10^l+b)
 | 0,a,b,h=>by
  obtain rfl:b=0:=by simp at h;omega
  simp[pad]
 | l+1,a,b,h=>by
  have hb:b/10<10^l:=Nat.div_lt_of_lt_mul (by rw[Nat.pow_succ,Nat.mul_comm] at h;exact h)
  have e:a*10^(l+1)+b=(a*10^l)*10+b:=by rw[Nat.pow_succ,Nat.mul_assoc]
  have e1:(a*10^(l+1)+b)/10=a*10^l+b/10:=by omega
  have e2:(a*10^(l+1)+b)%10=b%10:=by omega
  rw[show k+(l+1)=(k+l)+1 by omega,pad,pad,e1,e2,← jfH k l a _ hb,jja]
theorem dec_head (n:Nat)(h:0<n):(dec n).getD 0 0≠48:=by
 induction n using Nat.strongRecOn with
 | _ n ih=>
  by_cases h1:n<10
  ·rw[jbc h1]
   intro e
   have:=congrArg UInt8.toNat e
   simp only[List.getD_cons_zero] at this
   rw[jcY h1] at this
   simp at this
   omega
  ·rw[jcl (by omega),ji3,jjc (jbd _),← ji3]
   exact ih _ (by omega) (by omega)
theorem four_c (n:Nat)(h:n<10000):Cl 148 [.int .i64 n] (.str (pad 4 n)):=by
 refine V.en tbOk Tryz.func148 ?_
 (conv=>whnf)
 refine V.st ?_
 exact Fin.of (by
  have e:∀ m:Nat,(48+(m:Int)).toNat=48+m:=fun m=>by omega
  simp only[pad,jjg,jja,ji1,List.map_cons,List.map_nil]
  have e1:(48+(n:Int)/1000).toNat=48+n/10/10/10%10:=by omega
  have e2:(48+(n:Int)/100%10).toNat=48+n/10/10%10:=by omega
  have e3:(48+(n:Int)/10%10).toNat=48+n/10%10:=by omega
  have e4:(48+(n:Int)%10).toNat=48+n%10:=by omega
  rw[e1,e2,e3,e4])
theorem text_c (z:Int)(hz:Sm 90000000 z):Cl 69 [plD z] (.str (decZ z)):=by
 unfold Sm at hz
 have hdx:=mg_dg (B:=10000) (by omega) z.natAbs
 have hvx:=jay (B:=10000) (by omega) z.natAbs
 have hnil:=jce (B:=10000) (n:=z.natAbs) (by omega)
 have hltp:=jaE (B:=10000) (n:=z.natAbs) (by omega)
 rw[show plD z = .agg [.bool (decide (z<0)),.ints .i64 (mg 10000 z.natAbs)] from rfl]
 generalize mg 10000 z.natAbs=xs at *
 refine V.en tbOk Tryz.func69 ?_
 (conv=>whnf)
 refine V.st ?_
 refine jaf ((xs.length,0):Nat×Nat) (fun s=>s.1≤xs.length∧val 10000 (xs.drop s.1)=s.2) (fun s=>s.1)
  (fun s=>[(4,.int .i64 ((s.1:Int)-1)),(3,.str (pad (4*(xs.length-s.1)) s.2))]) (fun _=>[]) ?_ ?_ ?_
 ·rw[Nat.sub_self]
  exact V.wk
 ·exact⟨jiB _,by simp[val]⟩
 rintro⟨k,v⟩ ⟨h1,h2⟩
 dsimp only at h1 h2 ⊢
 have hpl:=jdV (4*(xs.length-k)) v
 (conv=>whnf)
 refine V.st ?_
 refine V.br (fun hq=>?_) (fun hq=>?_)
 ·rw[decide_eq_true_eq] at hq
  obtain⟨j,rfl⟩:∃ j,k=j+1:=⟨k-1,by omega⟩
  have hj:j<xs.length:=by omega
  have bx:=jaj (by omega) hdx j
  have hd:=jb9 (B:=10000) hj
  generalize hx0:xs.getD j 0=x at *
  obtain⟨d,rfl⟩:∃ d:Nat,x=d:=⟨x.toNat,by omega⟩
  have e2:(((j+1:Nat):Int)-1)=(j:Int):=by omega
  have hf:=four_c d (by omega)
  have hp4:=jdV 4 d
  have hpa:=jfH (4*(xs.length-(j+1))) 4 v d (by omega)
  have e4:4*(xs.length-(j+1))+4=4*(xs.length-j):=by omega
  rw[e4] at hpa
  refine V.r1 (V.a4 e2 @jiA hx0 hpa) hf ?_
  exact⟨(j,v*10^4+d),⟨by dsimp only;omega,by dsimp only;rw[hd,h2];omega⟩,by dsimp only;omega,V.wk⟩
 ·rw[decide_eq_false_iff_not] at hq
  obtain rfl:k=0:=by omega
  rw[List.drop_zero,hvx] at h2
  have hv:v=z.natAbs:=by omega
  subst hv
  have hK:z.natAbs<10^(4*xs.length):=by rw[Nat.pow_mul];exact hltp
  rw[Nat.sub_zero] at *
  generalize hs:pad (4*xs.length) z.natAbs=t at *
  obtain⟨Z,hZ,hZ1,hZ2⟩:∃ Z,Z≤t.length∧t.drop Z=(if z.natAbs=0 then [] else dec z.natAbs) ∧ ∀ k,k≤Z→(k<t.length∧t.getD k 0=48↔k<Z):=by
   by_cases h0:z.natAbs=0
   ·have:=hnil.2 h0
    subst this
    rw[if_pos h0]
    have ht:t=[]:=ji4.1 (by simpa using hpl)
    subst ht
    exact⟨0,by simp,rfl,fun k hk=>by simp⟩
   ·rw[if_neg h0]
    have hne:0<xs.length:=by
     rcases jiE xs.length with e|e
     ·exact absurd (hnil.1 (ji4.1 e)) h0
     ·exact e
    obtain⟨p1,p2⟩:=ja0 (4*xs.length) z.natAbs (by omega) hK
    rw[hs] at p2
    have hdl:=jbd z.natAbs
    refine⟨4*xs.length-(dec z.natAbs).length,by omega,?_,fun k hk=>?_⟩
    ·rw[p2,List.drop_append_of_le_length (by simp),List.drop_of_length_le (by simp)];rfl
    ·rw[p2]
     rcases jiI k (4*xs.length-(dec z.natAbs).length) with hlt|hge
     ·rw[ji3,jjc (by simpa using hlt),List.getElem?_replicate,if_pos hlt]
      simp[hlt];omega
     ·have hke:k=4*xs.length-(dec z.natAbs).length:=by omega
      rw[ji3,jjm (by simp;omega),List.length_replicate,hke,Nat.sub_self,← ji3]
      have:=dec_head z.natAbs (by omega)
      simp only[Nat.lt_irrefl,iff_false,not_and]
      exact fun _=>this
  refine V.r0 @jiA ?_
  refine jaf (0) (fun k=>k≤Z) (fun k=>Z-k) (fun k=>[(5,.int .i64 k)]) (fun k=>[]) ?_ ?_ ?_
  ·exact V.wk
  ·exact jit _
  intro k hk
  have hz2:=hZ2 k hk
  have hkc:((k:Int)+1)=((k+1:Nat):Int):=by omega
  have hu:(((t.getD k 0).toNat:Int)=48)↔t.getD k 0=48:=⟨fun h=>UInt8.toNat_inj.1 (by have e:(48:UInt8).toNat=48:=rfl;rw[e];omega),fun h=>by rw[h];rfl⟩
  refine V.r0 @jiA ?_
  refine V.br (fun hq2=>?_) (fun hq2=>?_)
  ·rw[jir,decide_eq_true_eq,decide_eq_true_eq,hu] at hq2
   have hkZ:=hz2.1 ⟨by omega,hq2.2⟩
   refine V.r0 hkc ?_
   exact⟨k+1,by omega,by omega,V.wk⟩
  ·have hkZ:k=Z:=by
    rcases jiI k Z with h|h
    ·have h3:=hz2.2 h
     rw[jiW,decide_eq_false_iff_not,decide_eq_false_iff_not,hu] at hq2
     rcases hq2 with h4|h4
     ·omega
     ·exact absurd h3.2 h4
    ·omega
   subst hkZ
   refine V.r0 (V.a2 @jiA hZ1) ?_
   by_cases h0:z.natAbs=0
   ·rw[if_pos h0] at hZ1 ⊢
    have hz0:z=0:=by omega
    (conv=>whnf)
    refine V.st ?_
    exact Fin.of (by rw[hz0];rfl)
   ·rw[if_neg h0] at hZ1 ⊢
    have hne:=jbd z.natAbs
    have hne2:dec z.natAbs≠[]:=fun e=>by rw[e] at hne;simp at hne
    have hdl:(dec z.natAbs).length≤t.length:=by rw[← hZ1,jjo];omega
    (conv=>whnf)
    refine V.st ?_
    refine Cnd.no (decide_eq_false hne2) ?_
    (conv=>whnf)
    refine V.st ?_
    refine V.br (fun hneg=>?_) (fun hneg=>?_)
    ·rw[decide_eq_true_eq] at hneg
     (conv=>whnf)
     refine V.st ?_
     exact Fin.of (by unfold decZ;rw[if_pos hneg];rfl)
    ·rw[decide_eq_false_iff_not] at hneg
     (conv=>whnf)
     refine V.st ?_
     exact Fin.of (by unfold decZ;rw[if_neg hneg])
theorem out_c (z:Int)(hz:Sm 90000000 z):Cl 71 [plD z] (.tup [.str (if 600<(dec z.natAbs).length then [] else decZ z),.int .i64 (if 600<(dec z.natAbs).length then 6 else 0)]):=by
 have ht:=text_c z hz
 rw[show plD z = .agg [.bool (decide (z<0)),.ints .i64 (mg 10000 z.natAbs)] from rfl] at *
 have hl:(decZ z).length=(dec z.natAbs).length+(if z<0 then 1 else 0):=by unfold decZ;split<;>simp
 generalize hzs:decZ z=s at *
 refine V.en tbOk Tryz.func71 ?_
 (conv=>whnf)
 refine V.st ?_
 repeat ((try ((with_reducible refine .ext ?_);(conv=>whnf)));(with_reducible refine jaa (r:=?_) ?_ ?_);rotate_left;(focus (first|exact(ht)));(conv=>whnf);refine V.st ?_)
 refine V.br (fun hq=>?_) (fun hq=>?_)
 ·rw[decide_eq_true_eq] at hq
  rw[if_pos hq] at hl
  (conv=>whnf)
  refine V.st ?_
  refine V.br (fun hq2=>?_) (fun hq2=>?_)
  ·rw[decide_eq_true_eq] at hq2
   rw[if_pos (by omega),if_pos (by omega)]
   (conv=>whnf)
   refine V.st ?_
   exact Fin.of rfl
  ·rw[decide_eq_false_iff_not] at hq2
   rw[if_neg (by omega),if_neg (by omega)]
   (conv=>whnf)
   refine V.st ?_
   exact Fin.of rfl
 ·rw[decide_eq_false_iff_not] at hq
  rw[if_neg hq] at hl
  (conv=>whnf)
  refine V.st ?_
  refine V.br (fun hq2=>?_) (fun hq2=>?_)
  ·rw[decide_eq_true_eq] at hq2
   rw[if_pos (by omega),if_pos (by omega)]
   (conv=>whnf)
   refine V.st ?_
   exact Fin.of rfl
  ·rw[decide_eq_false_iff_not] at hq2
   rw[if_neg (by omega),if_neg (by omega)]
   (conv=>whnf)
   refine V.st ?_
   exact Fin.of rfl
def okD (d:List UInt8)(neg:Bool):Bool := !(decide (d.length=0) || decide (600<d.length)) && d.all isDig && !(decide (d.getD 0 0=48) && (neg || decide (1<d.length)))
def okW (s:List UInt8):Bool:=okD (Go.Lib.trimPrefix s [45]) (Go.Lib.hasPrefix s [45])
theorem dig_lo (c:UInt8):(isDig c=true) ↔ ¬ (c.toNat:Int)<48 ∧ ¬ (57<(c.toNat:Int)):=by
 simp only[isDig,decide_eq_true_eq];omega
theorem Fin.any' (r:D):Fin .any r:=⟨fun _ _ _=>by simp[Den]⟩
theorem wread_g (s:List UInt8)(hs:s.length≤281474976710656):Cl 207 [.str s] (.tup [.agg [.any,.any],.bool (okW s)]):=by
 have hcp:=jfe s [45]
 unfold okW
 have hdl:(Go.Lib.trimPrefix s [45]).length≤s.length:=by unfold Go.Lib.trimPrefix;split<;>simp
 generalize Go.Lib.trimPrefix s [45]=d at *
 generalize Go.Lib.hasPrefix s [45]=neg at *
 refine V.en tbOk Tryz.func207 ?_
 (conv=>whnf)
 refine V.st ?_
 repeat ((try ((with_reducible refine .ext ?_);(conv=>whnf)));(with_reducible refine jaa (r:=?_) ?_ ?_);rotate_left;(focus (first|exact(hcp)));(conv=>whnf);refine V.st ?_)
 refine V.br (fun hq=>?_) (fun hq=>?_)
 ·simp only[jiJ,decide_eq_true_eq] at hq
  have hf:okD d neg=false:=by
   unfold okD
   rcases hq with h|h
   ·rw[decide_eq_true (show d.length=0 by omega)];rfl
   ·rw[decide_eq_true (show 600<d.length by omega),Bool.or_true];rfl
  rw[hf]
  (conv=>whnf)
  refine V.st ?_
  exact Fin.tup ⟨Fin.agg ⟨Fin.any' _,Fin.any' _,trivial⟩,Fin.of rfl,trivial⟩
 ·simp only[jiK,decide_eq_false_iff_not] at hq
  (conv=>whnf)
  refine V.st ?_
  refine jaf (0:Nat) (fun k=>k≤d.length ∧ ∀ i,i<k→isDig (d.getD i 0)=true) (fun k=>d.length-k) (fun k=>[(23,.int .i64 k)]) (fun _=>[]) ?_ ?_ ?_
  ·exact V.wk
  ·exact⟨jit _,fun i hi=>by omega⟩
  intro k hk
  have hkc:((k:Int)+1)=((k+1:Nat):Int):=by omega
  (conv=>whnf)
  refine V.st ?_
  refine V.br (fun hq2=>?_) (fun hq2=>?_)
  ·rw[decide_eq_true_eq] at hq2
   have hdl:=dig_lo (d.getD k 0)
   generalize hc:d.getD k 0=c at *
   refine V.r0 (V.a3 @jiA hc hkc) ?_
   refine V.br (fun hq3=>?_) (fun hq3=>?_)
   ·rw[jiJ,decide_eq_true_eq,decide_eq_true_eq] at hq3
    have hf:okD d neg=false:=by
     have h1:d.all isDig=false:=by
      rw[List.all_eq_false]
      refine⟨c,?_,fun h=>by have:=hdl.1 h;omega⟩
      rw[← hc,ji3,ji6 (by omega)]
      exact ji7 _
     unfold okD
     rw[h1,Bool.and_false,Bool.false_and]
    rw[hf]
    (conv=>whnf)
    refine V.st ?_
    exact Fin.tup ⟨Fin.agg ⟨Fin.any' _,Fin.any' _,trivial⟩,Fin.of rfl,trivial⟩
   ·rw[jiK,decide_eq_false_iff_not,decide_eq_false_iff_not] at hq3
    refine V.r0 hkc ?_
    refine⟨k+1,⟨by omega,fun i hi=>?_⟩,by omega,V.wk⟩
    rcases jiI i k with h|h
    ·exact hk.2 i h
    ·obtain rfl:i=k:=by omega
     rw[hc];exact hdl.2 (by omega)
  ·rw[decide_eq_false_iff_not] at hq2
   obtain rfl:k=d.length:=by omega
   have hall:∀ c∈d,isDig c=true:=fun c hc=>by
    obtain⟨i,hi,e⟩:=List.getElem_of_mem hc
    have:=hk.2 i hi
    rw[ji3,ji6 hi] at this
    rw[← e];exact this
   have hok:okD d neg = !(decide (d.getD 0 0=48) && (neg || decide (1<d.length))):=by
    unfold okD
    rw[ji2.2 hall,decide_eq_false (show ¬ d.length=0 by omega),decide_eq_false (show ¬ 600<d.length by omega)]
    rfl
   have hu:decide ((((d.getD 0 0).toNat:Nat):Int)=48)=decide (d.getD 0 0=48):=decide_eq_decide.2 ⟨fun h=>UInt8.toNat_inj.1 (by have e:(48:UInt8).toNat=48:=rfl;rw[e];omega),fun h=>by rw[h];rfl⟩
   have hl:decide ((d.length:Int)>1)=decide (1<d.length):=decide_eq_decide.2 (by omega)
   have hg:=wgather_c d hall (by omega)
   rw[hok]
   have e0:(0:Int).toNat=0:=rfl
   refine V.r0 (V.a3 e0 hu hl) ?_
   refine And.intro (fun h1 h2=>by rw[h1,h2];rfl) ?_
   refine V.r0 (V.a3 e0 hu hl) ?_
   refine V.br (fun hq4=>?_) (fun hq4=>?_)
   ·rw[hq4]
    (conv=>whnf)
    refine V.st ?_
    exact Fin.tup ⟨Fin.agg ⟨Fin.any' _,Fin.any' _,trivial⟩,Fin.of rfl,trivial⟩
   ·rw[hq4]
    (conv=>whnf)
    refine V.st ?_
    repeat ((try ((with_reducible refine .ext ?_);(conv=>whnf)));(with_reducible refine jaa (r:=?_) ?_ ?_);rotate_left;(focus (first|exact(hg)));(conv=>whnf);refine V.st ?_)
    exact Fin.tup ⟨Fin.agg ⟨Fin.any' _,Fin.any' _,trivial⟩,Fin.of rfl,trivial⟩
theorem jcx (s:List UInt8)(hs:s.length≤281474976710656):Cl 156 [.str s] (.int .i64 (if okW s then 0 else 10)):=by
 have h1:=wread_g s hs
 generalize okW s=b at *
 refine V.en tbOk Tryz.func156 ?_
 (conv=>whnf)
 refine V.st ?_
 repeat ((try ((with_reducible refine .ext ?_);(conv=>whnf)));(with_reducible refine jaa (r:=?_) ?_ ?_);rotate_left;(focus (first|exact(h1)));(conv=>whnf);refine V.st ?_)
 refine V.br (fun hq=>?_) (fun hq=>?_)
 ·obtain rfl:b=false:=by simpa using hq
  (conv=>whnf)
  refine V.st ?_
  exact Fin.of rfl
 ·obtain rfl:b=true:=by simpa using hq
  (conv=>whnf)
  refine V.st ?_
  exact Fin.of rfl
def itD (z:Int):D := .agg [.ints .u32 (mg 1000000000 z.natAbs),.bool (decide (z<0))]
def wval (s:List UInt8):Int:=if Go.Lib.hasPrefix s [45] then -(rdv (Go.Lib.trimPrefix s [45]):Nat) else (rdv (Go.Lib.trimPrefix s [45]):Nat)
theorem okD_nz {d:List UInt8}(h:okD d true=true):0<rdv d:=by
 unfold okD at h
 simp only[jir,Bool.not_eq_true',jiK,decide_eq_false_iff_not,Bool.true_or,Bool.and_true,ji2] at h
 obtain⟨⟨⟨h1,_⟩,h2⟩,h3⟩:=h
 cases d with
 | nil=>simp at h1
 | cons c r=>
  have h4:=h2 c (by simp)
  simp only[isDig,decide_eq_true_eq] at h4
  rw[List.getD_cons_zero] at h3
  have h5:c.toNat≠48:=fun e=>h3 (UInt8.toNat_inj.1 e)
  have h6:=ja4 [c] r
  rw[jdc] at h6
  rw[show c::r=[c]++r from rfl,h6]
  have:0<(c.toNat-48)*10^r.length:=Nat.mul_pos (by omega) (Nat.pow_pos (by omega))
  omega
theorem jc2 (s:List UInt8)(h:okW s=true):Cl 157 [.str s] (itD (wval s)):=by
 have hcp:=jfe s [45]
 unfold wval itD
 unfold okW at h
 have hl:(Go.Lib.trimPrefix s [45]).length≤600 ∧ ∀ c∈Go.Lib.trimPrefix s [45],isDig c=true:=by
  unfold okD at h
  simp only[jir,Bool.not_eq_true',jiK,decide_eq_false_iff_not,ji2] at h
  exact⟨by omega,h.1.2⟩
 have hg:=gather_c _ hl.2 (by omega)
 generalize Go.Lib.trimPrefix s [45]=d at *
 have e:(if Go.Lib.hasPrefix s [45]=true then -((rdv d:Nat):Int) else ((rdv d:Nat):Int)).natAbs=rdv d∧decide ((if Go.Lib.hasPrefix s [45]=true then -((rdv d:Nat):Int) else ((rdv d:Nat):Int))<0)=Go.Lib.hasPrefix s [45]:=by
  cases hn:Go.Lib.hasPrefix s [45] with
  | true=>
   rw[hn] at h
   have:=okD_nz h
   exact⟨by simp,by simp;omega⟩
  | false=>exact⟨by simp,by simp⟩
 rw[e.1,e.2]
 generalize Go.Lib.hasPrefix s [45]=neg at *
 refine V.en tbOk Tryz.func157 ?_
 (conv=>whnf)
 refine V.st ?_
 repeat ((try ((with_reducible refine .ext ?_);(conv=>whnf)));(with_reducible refine jaa (r:=?_) ?_ ?_);rotate_left;(focus (first|exact(hcp)|exact(hg)));(conv=>whnf);refine V.st ?_)
 exact Fin.of rfl
theorem jdK (z:Int):Go.Lib.hasPrefix (decZ z) [45]=decide (z<0)∧Go.Lib.trimPrefix (decZ z) [45]=dec z.natAbs:=by
 unfold decZ Go.Lib.trimPrefix Go.Lib.hasPrefix
 by_cases h:z<0
 ·simp[h,List.isPrefixOf]
 ·simp only[if_neg h,decide_eq_false h]
  have h1:=jfd z.natAbs
  have h2:=jbd z.natAbs
  cases hd:dec z.natAbs with
  | nil=>rw[hd] at h2;simp at h2
  | cons c r=>
   have h3:=h1 c (by rw[hd];simp)
   have h4:((45:UInt8) == c)=false:=by
    rw[beq_eq_false_iff_ne];intro e;subst e;exact absurd h3 (by decide)
   simp[List.isPrefixOf,h4]
theorem jbS (z:Int)(h:(dec z.natAbs).length≤600):okW (decZ z)=true:=by
 unfold okW okD
 rw[(jdK z).1,(jdK z).2]
 have h2:=jbd z.natAbs
 have h3:(dec z.natAbs).all isDig=true:=ji2.2 (jfd _)
 rw[h3,decide_eq_false (show ¬ (dec z.natAbs).length=0 by omega),decide_eq_false (show ¬ 600<(dec z.natAbs).length by omega)]
 by_cases h0:z.natAbs=0
 ·have:z=0:=by omega
  subst this
  rfl
 ·have:=dec_head z.natAbs (by omega)
  rw[decide_eq_false this];rfl
theorem jbk (z:Int):wval (decZ z)=z:=by
 unfold wval
 rw[(jdK z).1,(jdK z).2,jhz]
 by_cases h:z<0
 ·simp[h];omega
 ·simp[h];omega
theorem jd7 (n:Nat):Cl 210 [.ints .u32 (mg 1000000000 n)] (.bool (decide (n=0))):=by
 have hnil:=jce (B:=1000000000) (n:=n) (by omega)
 rw[← ji4] at hnil
 have e:decide (((mg 1000000000 n).length:Int)=0)=decide (n=0):=decide_eq_decide.2 (by rw[← hnil];omega)
 refine V.en tbOk Tryz.func210 ?_
 (conv=>whnf)
 refine V.st ?_
 exact Fin.of (by rw[e])
theorem ja2 (n:Nat)(neg:Bool):Cl 174 [.ints .u32 (mg 1000000000 n),.bool neg] (itD (if neg then -(n:Int) else n)):=by
 have h1:=jd7 n
 have e:(if neg=true then -(n:Int) else (n:Int)).natAbs=n:=by cases neg<;>simp
 have e2:decide ((if neg=true then -(n:Int) else (n:Int))<0)=(neg && !decide (n=0)):=by
  cases neg with
  | false=>simp
  | true=>
   by_cases h:n=0
   ·simp[h]
   ·rw[decide_eq_false h,if_pos rfl,decide_eq_true (by omega)];rfl
 unfold itD
 rw[e,e2]
 generalize decide (n=0)=z at *
 refine V.en tbOk Tryz.func174 ?_
 (conv=>whnf)
 refine V.st ?_
 repeat ((try ((with_reducible refine .ext ?_);(conv=>whnf)));(with_reducible refine jaa (r:=?_) ?_ ?_);rotate_left;(focus (first|exact(h1)));(conv=>whnf);refine V.st ?_)
 exact Fin.of rfl
theorem small_c (n:Nat)(h:n<1000000000000000000):Cl 211 [.ints .u32 (mg 1000000000 n)] (.int .u64 n):=by
 have hlen:=jap (B:=1000000000) (n:=n) (k:=2) (by omega) (by omega)
 have hdx:=mg_dg (B:=1000000000) (by omega) n
 have hvx:=jay (B:=1000000000) (by omega) n
 generalize mg 1000000000 n=xs at *
 refine V.en tbOk Tryz.func211 ?_
 (conv=>whnf)
 refine V.st ?_
 refine jaf (xs.length:Nat) (fun k=>k≤xs.length) (fun k=>k) (fun k=>[(4,.int .i64 ((k:Int)-1)),(3,.int .u64 (val 1000000000 (xs.drop k)))]) (fun _=>[]) ?_ ?_ ?_
 ·rw[List.drop_length]
  exact V.wk
 ·exact jiB _
 intro k hk
 (conv=>whnf)
 refine V.st ?_
 refine V.br (fun hq=>?_) (fun hq=>?_)
 ·rw[decide_eq_true_eq] at hq
  obtain⟨j,rfl⟩:∃ j,k=j+1:=⟨k-1,by omega⟩
  have hd:=jb9 (B:=1000000000) (l:=xs) (k:=j) (by omega)
  have bx:=jaj (by omega) hdx j
  have h0:=jak (jbx hdx (j+1))
  have h1:=jcm (jbx hdx (j+1))
  rw[jjo] at h1
  have h2:(1000000000:Nat)^(xs.length-(j+1))≤1000000000^1:=jiR (by omega) (by omega)
  have h3:((1000000000^(xs.length-(j+1)):Nat):Int)≤((1000000000^1:Nat):Int):=by exact_mod_cast h2
  rw[jiU] at h3
  have e2:(((j+1:Nat):Int)-1)=(j:Int):=by omega
  generalize hx0:xs.getD j 0=x at *
  have e3:val 1000000000 (xs.drop (j+1))*1000000000+x=val 1000000000 (xs.drop j):=by omega
  refine V.r0 (V.a4 e2 @jiA hx0 e3) ?_
  exact⟨j,by omega,by omega,V.wk⟩
 ·rw[decide_eq_false_iff_not] at hq
  obtain rfl:k=0:=by omega
  rw[List.drop_zero,hvx]
  (conv=>whnf)
  refine V.st ?_
  exact Fin.of rfl
theorem jdi (n:Nat)(hn:n<18446744073709551616):Cl 212 [.int .u64 n] (.ints .u32 (mg 1000000000 n)):=by
 have hlen:=jap (B:=1000000000) (n:=n) (k:=3) (by omega) (by omega)
 refine V.en tbOk Tryz.func212 ?_
 (conv=>whnf)
 refine V.st ?_
 refine Lp.ghostSlot 13 3 .u32 (by decide) ?_
 (conv=>whnf)
 refine jaf ((n,[]):Nat×List Int) (fun s=>val 1000000000 s.2+((1000000000:Nat):Int)^s.2.length*s.1=n∧Dg 1000000000 s.2∧s.1≤n∧s.2.length+(mg 1000000000 s.1).length=(mg 1000000000 n).length∧(s.1=0→s.2=mg 1000000000 n)) (fun s=>s.1) (fun s=>[(0,.int .u64 s.1),(3,.osl 13 0 s.2.length)]) (fun s=>[(13,.arr .u32 s.2)]) ?_ ?_ ?_
 ·exact V.wk
 ·exact⟨by simp[val],fun x hx=>by simp at hx,jiB _,by simp,fun h=>by dsimp only at h;rw[h];rfl⟩
 rintro⟨q,out⟩ ⟨h1,h2,h3,h4,h5⟩
 dsimp only at h1 h2 h3 h4 h5 ⊢
 (conv=>whnf)
 refine V.st ?_
 refine V.br (fun hq=>?_) (fun hq=>?_)
 ·rw[decide_eq_true_eq] at hq
  have hq0:0<q:=by omega
  have hmg:=jcr (B:=1000000000) (by omega) hq0
  have hst:=jet (B:=1000000000) (by omega) h1
  have hlt:q/1000000000<q:=Nat.div_lt_self hq0 (by omega)
  have hdg:Dg 1000000000 (out++[((q%1000000000:Nat):Int)]):=jag h2 (jar ⟨by omega,by have:=jiF q (by omega:1000000000>0);omega⟩)
  have e1:(q:Int)%1000000000=((q%1000000000:Nat):Int):=by omega
  have e2:(q:Int)/1000000000=((q/1000000000:Nat):Int):=by omega
  have hl2:(out++[((q%1000000000:Nat):Int)]).length=out.length+1:=by simp
  have hl3:out.length+(List.take 1 (List.drop 0 [((q%1000000000:Nat):Int)])).length=(out++[((q%1000000000:Nat):Int)]).length:=by simp
  rw[hmg,jji] at h4
  have hmr:=jiF q (by omega:1000000000>0)
  (conv=>whnf)
  (try simp only[e1,e2,hl3])
  repeat ((first|refine V.s1 ?_);(try simp only[e1,e2,hl3]))
  try refine And.intro (fun _=>⟨trivial,by omega⟩) ?_
  (conv=>whnf)
  (try simp only[e1,e2,hl3])
  repeat ((first|refine V.s1 ?_);(try simp only[e1,e2,hl3]))
  refine⟨(q/1000000000,out++[((q%1000000000:Nat):Int)]),⟨hst,hdg,by dsimp only;omega,by dsimp only;omega,fun h0=>?_⟩,hlt,V.wk⟩
  dsimp only at h0 ⊢
  rw[h0,Int.natCast_zero,Int.mul_zero,Int.add_zero] at hst
  have:=mg_of (B:=1000000000) (by omega) hdg (fun x hx=>by
   rw[List.getLast?_append] at hx
   simp at hx
   omega)
  rw[hst,jiA] at this
  exact this
 ·rw[decide_eq_false_iff_not] at hq
  obtain rfl:q=0:=by omega
  (conv=>whnf)
  refine V.st ?_
  exact Fin.of (by rw[jjs,h5 rfl])
theorem isNaNi_c (n:Int):Cl 241 [.int .i64 n] (.bool false):=by
 refine V.en tbOk Tryz.func241 ?_
 (conv=>whnf)
 refine V.st ?_
 exact Fin.of (by simp)
theorem isNaNu_c (n:Int):Cl 242 [.int .u32 n] (.bool false):=by
 refine V.en tbOk Tryz.func242 ?_
 (conv=>whnf)
 refine V.st ?_
 exact Fin.of (by simp)
theorem cmpi_c (m n:Int):Cl 214 [.int .i64 m,.int .i64 n] (.int .i64 (m-n).sign):=by
 have h1:=isNaNi_c m
 have h2:=isNaNi_c n
 refine V.en tbOk Tryz.func214 ?_
 (conv=>whnf)
 refine V.st ?_
 repeat ((try ((with_reducible refine .ext ?_);(conv=>whnf)));(with_reducible refine jaa (r:=?_) ?_ ?_);rotate_left;(focus (first|exact(h1)|exact(h2)));(conv=>whnf);refine V.st ?_)
 refine V.br (fun hq=>?_) (fun hq=>?_)
 ·rw[decide_eq_true_eq] at hq
  (conv=>whnf)
  refine V.st ?_
  exact Fin.of (by rw[jiX (by omega)])
 ·rw[decide_eq_false_iff_not] at hq
  (conv=>whnf)
  refine V.st ?_
  refine V.br (fun hq2=>?_) (fun hq2=>?_)
  ·rw[decide_eq_true_eq] at hq2
   (conv=>whnf)
   refine V.st ?_
   exact Fin.of (by rw[jiY (by omega)])
  ·rw[decide_eq_false_iff_not] at hq2
   (conv=>whnf)
   refine V.st ?_
   exact Fin.of (by rw[show m-n=0 by omega];rfl)
theorem cmpu_c (m n:Int):Cl 215 [.int .u32 m,.int .u32 n] (.int .i64 (m-n).sign):=by
 have h1:=isNaNu_c m
 have h2:=isNaNu_c n
 refine V.en tbOk Tryz.func215 ?_
 (conv=>whnf)
 refine V.st ?_
 repeat ((try ((with_reducible refine .ext ?_);(conv=>whnf)));(with_reducible refine jaa (r:=?_) ?_ ?_);rotate_left;(focus (first|exact(h1)|exact(h2)));(conv=>whnf);refine V.st ?_)
 refine V.br (fun hq=>?_) (fun hq=>?_)
 ·rw[decide_eq_true_eq] at hq
  (conv=>whnf)
  refine V.st ?_
  exact Fin.of (by rw[jiX (by omega)])
 ·rw[decide_eq_false_iff_not] at hq
  (conv=>whnf)
  refine V.st ?_
  refine V.br (fun hq2=>?_) (fun hq2=>?_)
  ·rw[decide_eq_true_eq] at hq2
   (conv=>whnf)
   refine V.st ?_
   exact Fin.of (by rw[jiY (by omega)])
  ·rw[decide_eq_false_iff_not] at hq2
   (conv=>whnf)
   refine V.st ?_
   exact Fin.of (by rw[show m-n=0 by omega];rfl)
theorem jcw (a b:Nat)(ha:(mg 1000000000 a).length≤100000000)(hb:(mg 1000000000 b).length≤100000000):Cl 160 [.ints .u32 (mg 1000000000 a),.ints .u32 (mg 1000000000 b)] (.int .i64 ((a:Int)-b).sign):=by
 have hdx:=mg_dg (B:=1000000000) (by omega) a
 have hdy:=mg_dg (B:=1000000000) (by omega) b
 have hsg:=jfI (B:=1000000000) (by omega) a b
 generalize mg 1000000000 a=xs at *
 generalize mg 1000000000 b=ys at *
 have hsn:((a:Int)-b).sign=(ordV xs ys).sign:=by
  rcases Nat.lt_trichotomy a b with h|h|h
  ·rw[jiX (by omega),jiX (by omega)]
  ·rw[show (a:Int)-b=0 by omega,show ordV xs ys=0 by omega]
  ·rw[jiY (by omega),jiY (by omega)]
 rw[hsn]
 have hc1:=cmpi_c (xs.length:Int) (ys.length:Int)
 refine V.en tbOk Tryz.func160 ?_
 (conv=>whnf)
 refine V.st ?_
 refine V.br (fun hq=>?_) (fun hq=>?_)
 ·rw[decide_eq_true_eq] at hq
  (conv=>whnf)
  refine V.st ?_
  repeat ((try ((with_reducible refine .ext ?_);(conv=>whnf)));(with_reducible refine jaa (r:=?_) ?_ ?_);rotate_left;(focus (first|exact(hc1)));(conv=>whnf);refine V.st ?_)
  exact Fin.of (by unfold ordV;rw[if_neg (by omega)])
 ·rw[decide_eq_false_iff_not] at hq
  have hq':xs.length=ys.length:=by omega
  have hov:ordV xs ys=ordR xs ys xs.length:=by unfold ordV;rw[if_pos hq']
  rw[hov]
  (conv=>whnf)
  refine V.st ?_
  refine jaf (xs.length) (fun k=>k≤xs.length∧ordR xs ys k=ordR xs ys xs.length) (fun k=>k) (fun k=>[(5,.int .i64 ((k:Int)-1))]) (fun k=>[]) ?_ ?_ ?_
  ·exact V.wk
  ·exact⟨jiB _,rfl⟩
  intro k hk
  have bx:=jaj (by omega) hdx (k-1)
  have by':=jaj (by omega) hdy (k-1)
  (conv=>whnf)
  refine V.st ?_
  refine V.br (fun hz=>?_) (fun hz=>?_)
  ·rw[decide_eq_true_eq] at hz
   obtain⟨j,rfl⟩:∃ j,k=j+1:=⟨k-1,by omega⟩
   have e2:(((j+1:Nat):Int)-1)=(j:Int):=by omega
   have hr:=hk.2
   rw[ordR] at hr
   rw[Nat.add_sub_cancel] at bx by'
   refine V.r0 (V.a2 e2 @jiA) ?_
   refine⟨Pq11z,[],V.pok,.go (jab ?_)⟩
   have hc2:=cmpu_c (xs.getD j 0) (ys.getD j 0)
   refine V.r0 (V.a2 e2 @jiA) ?_
   refine V.br (fun hn=>?_) (fun hn=>?_)
   ·rw[decide_eq_true_eq] at hn
    refine V.r0 (V.a2 e2 @jiA) ?_
    refine⟨(V.tk [0,1,2,3,4,5,6,7] (V.e1 8 [] (V.tk [9] .done))),[],V.pok,.go (jab ?_)⟩
    refine V.r1 (V.a2 e2 @jiA) hc2 ?_
    exact Fin.of (by rw[← hr,if_neg hn])
   ·rw[decide_eq_false_iff_not] at hn
    rw[if_pos (by omega)] at hr
    refine V.r0 e2 ?_
    exact⟨j,⟨by omega,hr⟩,by omega,V.wk⟩
  ·rw[decide_eq_false_iff_not] at hz
   obtain rfl:k=0:=by omega
   (conv=>whnf)
   refine V.st ?_
   exact Fin.of (by rw[← hk.2];rfl)
theorem jcO (a b:Nat)(ha:(mg 1000000000 a).length≤100000000)(hb:(mg 1000000000 b).length≤100000000):Cl 220 [.ints .u32 (mg 1000000000 a),.ints .u32 (mg 1000000000 b)] (.ints .u32 (mg 1000000000 (a*b))):=by
 have hdx:=mg_dg (B:=1000000000) (by omega) a
 have hdy:=mg_dg (B:=1000000000) (by omega) b
 have hvx:=jay (B:=1000000000) (by omega) a
 have hvy:=jay (B:=1000000000) (by omega) b
 generalize mg 1000000000 a=xs at *
 generalize mg 1000000000 b=ys at *
 have hmn:((xs.length:Int)+(ys.length:Int)).toNat=xs.length+ys.length:=by omega
 refine V.en tbOk Tryz.func220 ?_
 refine V.r0 hmn ?_
 refine jaf ((0,List.replicate (xs.length+ys.length) 0):Nat×List Int) (fun s=>s.1≤xs.length∧s.2.length=xs.length+ys.length∧Dg 1000000000 s.2∧(∀ k,s.1+ys.length≤k→s.2.getD k 0=0)∧val 1000000000 s.2=val 1000000000 (xs.take s.1)*val 1000000000 ys) (fun s=>xs.length-s.1)
  (fun s=>[(19,.int .i64 s.1),(5,.osl 16 0 (xs.length+ys.length))]) (fun s=>[(16,.arr .u32 s.2)]) ?_ ?_ ?_
 ·exact V.wk
 ·exact⟨jit _,by simp,jch (by omega) _,fun k _=>by simp[ji3,List.getElem?_replicate];split<;>simp,by simp[val,jez]⟩
 rintro⟨i,out⟩ ⟨h1,h2,h3,h4,h5⟩
 dsimp only at h1 h2 h3 h4 h5 ⊢
 have vx:=jah 1000000000 xs i
 have bx:=jaj (by omega) hdx i
 generalize hx0:xs.getD i 0=x at *
 (conv=>whnf)
 refine V.st ?_
 refine V.br (fun hq=>?_) (fun hq=>?_)
 ·rw[decide_eq_true_eq] at hq
  refine V.r0 (V.a2 @jiA hx0) ?_
  refine jaf ((0,out,0):Nat×List Int×Int) (fun s=>s.1≤ys.length∧s.2.1.length=xs.length+ys.length∧Dg 1000000000 s.2.1∧(∀ k,i+ys.length≤k→s.2.1.getD k 0=0)∧(0≤s.2.2∧s.2.2<1000000000)∧val 1000000000 s.2.1+((1000000000:Nat):Int)^(i+s.1)*s.2.2=val 1000000000 (xs.take i)*val 1000000000 ys+((1000000000:Nat):Int)^i*x*val 1000000000 (ys.take s.1)) (fun s=>ys.length-s.1)
   (fun s=>[(26,.int .i64 s.1),(8,.int .u64 s.2.2),(5,.osl 16 0 (xs.length+ys.length))]) (fun s=>[(16,.arr .u32 s.2.1)]) ?_ ?_ ?_
  ·exact V.wk
  ·exact⟨jit _,h2,h3,h4,by simp,by simp[val,h5]⟩
  rintro⟨j,o,c⟩ ⟨g1,g2,g3,g4,g5,g6⟩
  dsimp only at g1 g2 g3 g4 g5 g6 ⊢
  have vy:=jah 1000000000 ys j
  have by':=jaj (by omega) hdy j
  have bo:=jaj (by omega) g3 (i+j)
  generalize hy0:ys.getD j 0=y at *
  generalize ho0:o.getD (i+j) 0=q at *
  have eij:((i:Int)+(j:Int)).toNat=i+j:=by omega
  have hxy:0≤x*y∧x*y≤999999999*999999999:=⟨jiw (by omega) (by omega),Int.mul_le_mul (by omega) (by omega) (by omega) (by omega)⟩
  have hkj:((j:Int)+1)=((j+1:Nat):Int):=by omega
  have hki:((i:Int)+1)=((i+1:Nat):Int):=by omega
  have ein:((i:Int)+(ys.length:Int)).toNat=i+ys.length:=by omega
  (conv=>whnf)
  refine V.st ?_
  refine V.br (fun hw=>?_) (fun hw=>?_)
  ·rw[decide_eq_true_eq] at hw
   have hm:0≤(c+(q+x*y))%1000000000∧(c+(q+x*y))%1000000000<1000000000:=⟨jiu _ (by omega),jiT _ (by omega)⟩
   have hc9:0≤(c+(q+x*y))/1000000000∧(c+(q+x*y))/1000000000<1000000000:=by omega
   have hst:=jgQ (B:=1000000000) (x:=x) (y:=y) (q:=q) (c:=c) (d:=(c+(q+x*y))%1000000000) (c':=(c+(q+x*y))/1000000000) (by omega) ho0 g6 (by have:=jiv (c+(q+x*y)) 1000000000;omega)
   rw[← vy] at hst
   refine V.r0 (V.a7 eij @jiy @jiA hx0 hy0 ho0 hkj) ?_
   exact⟨(j+1,o.set (i+j) ((c+(q+x*y))%1000000000),(c+(q+x*y))/1000000000),⟨by dsimp only;omega,by dsimp only;rw[jjq];exact g2,jdI g3 hm,fun k hk=>by dsimp only;rw[jcI (by omega)];exact g4 k hk,⟨hc9.1,hc9.2⟩,hst⟩,by dsimp only;omega,V.wk⟩
  ·rw[decide_eq_false_iff_not] at hw
   have hj:j=ys.length:=by omega
   subst hj
   rw[jjs] at g6
   have hst:=prod_end (B:=1000000000) (by omega) (g4 _ (jiB _)) g6 hx0
   refine V.r0 (V.a3 ein @jiy hki) ?_
   exact⟨(i+1,o.set (i+ys.length) c),⟨by dsimp only;omega,by dsimp only;rw[jjq];exact g2,jdI g3 ⟨g5.1,g5.2⟩,fun k hk=>by dsimp only at hk ⊢; rw[jcI (by omega)];exact g4 k (by omega),hst⟩,by dsimp only;omega,V.wk⟩
 ·rw[decide_eq_false_iff_not] at hq
  rw[jjl (by omega),hvx,hvy,← jiL] at h5
  have hc:=jfv out h3 (by omega)
  rw[h5,jiA,← jjs (l:=out),h2] at hc
  (conv=>whnf)
  refine V.st ?_
  repeat ((try ((with_reducible refine .ext ?_);(conv=>whnf)));(with_reducible refine jaa (r:=?_) ?_ ?_);rotate_left;(focus (first|exact(hc)));(conv=>whnf);refine V.st ?_)
  exact Fin.of rfl
theorem short_c (a d:Nat)(ha:(mg 1000000000 a).length≤100000000)(hd0:0<d)(hd1:d≤1000000000):Cl 239 [.ints .u32 (mg 1000000000 a),.int .u32 d] (.tup [.ints .u32 (mg 1000000000 (a/d)),.int .u32 (a%d:Nat)]):=by
 have hdx:=mg_dg (B:=1000000000) (by omega) a
 have hvx:=jay (B:=1000000000) (by omega) a
 generalize mg 1000000000 a=xs at *
 have hmn:((xs.length:Int)).toNat=xs.length:=by omega
 refine V.en tbOk Tryz.func239 ?_
 refine V.r0 hmn ?_
 refine jaf ((xs.length,List.replicate xs.length 0,0):Nat×List Int×Int) (fun s=>s.1≤xs.length∧s.2.1.length=xs.length∧Dg 1000000000 s.2.1∧(0≤s.2.2∧s.2.2<d)∧val 1000000000 (xs.drop s.1)=val 1000000000 (s.2.1.drop s.1)*d+s.2.2) (fun s=>s.1)
  (fun s=>[(8,.int .i64 ((s.1:Int)-1)),(7,.int .u64 s.2.2),(6,.osl 11 0 xs.length)]) (fun s=>[(11,.arr .u32 s.2.1)]) ?_ ?_ ?_
 ·exact V.wk
 ·exact⟨jiB _,by simp,jch (by omega) _,⟨by simp,by dsimp only;omega⟩,by simp[val]⟩
 rintro⟨k,out,r⟩ ⟨h1,h2,h3,h4,h5⟩
 dsimp only at h1 h2 h3 h4 h5 ⊢
 (conv=>whnf)
 refine V.st ?_
 refine V.br (fun hq=>?_) (fun hq=>?_)
 ·rw[decide_eq_true_eq] at hq
  obtain⟨j,rfl⟩:∃ j,k=j+1:=⟨k-1,by omega⟩
  have hj:j<xs.length:=by omega
  have bx:=jaj (by omega) hdx j
  generalize hx0:xs.getD j 0=x at *
  have e2:(((j+1:Nat):Int)-1)=(j:Int):=by omega
  have hb:0≤(r*1000000000+x)/(d:Int)∧(r*1000000000+x)/(d:Int)<1000000000∧0≤(r*1000000000+x)%(d:Int)∧(r*1000000000+x)%(d:Int)<d:=jeP (B:=1000000000) (by omega:(0:Int)<d) h4 bx
  have hst:=jeO (B:=1000000000) hj (by omega) hx0 h5 (t:=r*1000000000+x) rfl
  have hr0:0≤r*1000000000+x:=by omega
  refine V.r0 (V.a4 e2 @jiy @jiA hx0) ?_
  exact⟨(j,out.set j ((r*1000000000+x)/d),(r*1000000000+x)%d),⟨by dsimp only;omega,by dsimp only;rw[jjq];exact h2,jdI h3 ⟨hb.1,hb.2.1⟩,⟨hb.2.2.1,hb.2.2.2⟩,hst⟩,by dsimp only;omega,V.wk⟩
 ·rw[decide_eq_false_iff_not] at hq
  obtain rfl:k=0:=by omega
  rw[List.drop_zero,List.drop_zero,hvx] at h5
  have hvq:=jak h3
  obtain⟨w,hw⟩:∃ w:Nat,val 1000000000 out=w:=⟨(val 1000000000 out).toNat,by omega⟩
  obtain⟨r',rfl⟩:∃ r':Nat,r=r':=⟨r.toNat,by omega⟩
  rw[hw,← jiL] at h5
  have h6:a=w*d+r':=by omega
  have e8:a/d=w:=by rw[h6,Nat.add_comm,Nat.add_mul_div_right _ _ hd0,Nat.div_eq_of_lt (by omega),jiy]
  have e9:a%d=r':=by rw[h6,Nat.add_comm,Nat.add_mul_mod_self_right,Nat.mod_eq_of_lt (by omega)]
  have hc:=jfv out h3 (by omega)
  rw[hw,jiA,← jjs (l:=out),h2] at hc
  (conv=>whnf)
  refine V.st ?_
  repeat ((try ((with_reducible refine .ext ?_);(conv=>whnf)));(with_reducible refine jaa (r:=?_) ?_ ?_);rotate_left;(focus (first|exact(hc)));(conv=>whnf);refine V.st ?_)
  exact Fin.of (by rw[e8,e9])
theorem length_c (n:Nat)(hn:(mg 1000000000 n).length≤100000000):Cl 222 [.ints .u32 (mg 1000000000 n)] (.int .i64 (dec n).length):=by
 have hz:=jd7 n
 have hdx:=mg_dg (B:=1000000000) (by omega) n
 have hvx:=jay (B:=1000000000) (by omega) n
 have hlx:=jdZ (B:=1000000000) (n:=n) (by omega)
 have hnil:=jce (B:=1000000000) (n:=n) (by omega)
 generalize mg 1000000000 n=xs at *
 refine V.en tbOk Tryz.func222 ?_
 (conv=>whnf)
 refine V.st ?_
 repeat ((try ((with_reducible refine .ext ?_);(conv=>whnf)));(with_reducible refine jaa (r:=?_) ?_ ?_);rotate_left;(focus (first|exact(hz)));(conv=>whnf);refine V.st ?_)
 refine V.br (fun hq=>?_) (fun hq=>?_)
 ·rw[decide_eq_true_eq] at hq
  subst hq
  (conv=>whnf)
  refine V.st ?_
  exact Fin.of rfl
 ·rw[decide_eq_false_iff_not] at hq
  obtain⟨j,hj⟩:∃ j,xs.length=j+1:=⟨xs.length-1,by
   have:xs≠[]:=fun e=>hq (hnil.1 e)
   have:=List.length_pos_iff.2 this
   omega⟩
  have bx:=jaj (by omega) hdx j
  have hd:=jb9 (B:=1000000000) (l:=xs) (k:=j) (by omega)
  have hnil2:xs.drop (j+1)=[]:=jjt (by omega)
  rw[hnil2] at hd
  have hsp:=jb2 1000000000 xs j (by omega)
  have hlo:=jcm (jbq hdx j)
  have hlo0:=jak (jbq hdx j)
  rw[ji9,jix (by omega)] at hlo
  have hx1:xs.getD j 0≠0:=by
   refine hlx _ ?_
   rw[List.getLast?_eq_getElem?,hj,ji3,show j+1-1=j by omega,ji6 (by omega)];rfl
  generalize hx0:xs.getD j 0=x at *
  obtain⟨d,rfl⟩:∃ d:Nat,x=d:=⟨x.toNat,by omega⟩
  rw[hd,hvx] at hsp
  obtain⟨w,hw⟩:∃ w:Nat,val 1000000000 (xs.take j)=w:=⟨(val 1000000000 (xs.take j)).toNat,by omega⟩
  have hnw:n=d*10^(9*j)+w:=by
   have e:((10^(9*j):Nat):Int)=((1000000000:Nat):Int)^j:=by rw[Nat.pow_mul,jiU]
   simp only[val,Int.mul_zero,Int.add_zero] at hsp
   rw[hw,← e,← jiL,Nat.mul_comm] at hsp
   omega
  have hwl:w<10^(9*j):=by
   rw[Nat.pow_mul]
   rw[hw,← jiU] at hlo
   exact_mod_cast hlo
  have hdp:=jh1 (a:=d) (by omega) (9*j) w hwl
  rw[← hnw] at hdp
  have hlen:(dec n).length=(dec d).length+9*j:=by rw[hdp,ji8,jdV]
  have hi:=itoa_c (d:Int)
  have hdz:decZ (d:Int)=dec d:=by unfold decZ;rw[if_neg (by omega),jiQ]
  rw[hdz] at hi
  have e1:((xs.length:Int)-1)=(j:Int):=by omega
  have hdl:=jfc d 9 (by omega) (by omega)
  (conv=>whnf)
  (try simp only[e1,jiA,hx0])
  repeat ((first|refine V.s1 ?_|((try ((with_reducible refine .ext ?_);(conv=>whnf);(try simp only[e1,jiA,hx0])));(with_reducible refine jaa (r:=?_) ?_ ?_);rotate_left;(focus (first|exact(hi)));(conv=>whnf)));(try simp only[e1,jiA,hx0]))
  exact Fin.of (by rw[hlen];congr 1;omega)
end Go.Proofs.YtpkdedncgclblaaGreatDoor
end
section
namespace Go.Nb
structure Kn (B top v2 vr u2 ur head U V P:Int):Prop where
 hB:2≤B
 hP:1≤P
 ht:1≤top
 hv:V=(top*B+v2)*P+vr
 hu:U=(head*B+u2)*P+ur
 v20:0≤v2
 v2B:v2<B
 u20:0≤u2
 u2B:u2<B
 vr0:0≤vr
 vrP:vr<P
 ur0:0≤ur
 urP:ur<P
 hh:0≤head
 htB:top<B
 lt:U<B*V
section
variable {B top v2 vr u2 ur head U V P : Int}
theorem Kn.vpos (K:Kn B top v2 vr u2 ur head U V P):0<V:=by
 have h1:0≤top*B:=jiw (by have:=K.ht;omega) (by have:=K.hB;omega)
 have h2:1*2≤top*B:=Int.mul_le_mul K.ht K.hB (by omega) (by have:=K.ht;omega)
 have h3:1*1≤(top*B+v2)*P:=Int.mul_le_mul (by have:=K.v20;omega) K.hP (by omega) (by have:=K.v20;omega)
 have:=K.hv
 have:=K.vr0
 omega
theorem Kn.ulo (K:Kn B top v2 vr u2 ur head U V P):head*B*P≤U∧U<(head+1)*B*P:=by
 have e:(head*B+u2)*P=head*B*P+u2*P:=jiV _ _ _
 have e2:(head+1)*B*P=head*B*P+B*P:=by rw[jiV,Int.one_mul,jiV]
 have h1:0≤u2*P:=jiw K.u20 (by have:=K.hP;omega)
 have h2:(u2+1)*P≤B*P:=jiG (by have:=K.u2B;omega) (by have:=K.hP;omega)
 rw[jiV,Int.one_mul] at h2
 have:=K.hu
 have:=K.ur0
 have:=K.urP
 omega
theorem Kn.vlo (K:Kn B top v2 vr u2 ur head U V P):top*B*P≤V∧V<(top+1)*B*P:=by
 have e:(top*B+v2)*P=top*B*P+v2*P:=jiV _ _ _
 have e2:(top+1)*B*P=top*B*P+B*P:=by rw[jiV,Int.one_mul,jiV]
 have h1:0≤v2*P:=jiw K.v20 (by have:=K.hP;omega)
 have h2:(v2+1)*P≤B*P:=jiG (by have:=K.v2B;omega) (by have:=K.hP;omega)
 rw[jiV,Int.one_mul] at h2
 have:=K.hv
 have:=K.vr0
 have:=K.vrP
 omega
theorem Kn.bp (K:Kn B top v2 vr u2 ur head U V P):0<B*P:=Int.mul_pos (by have:=K.hB;omega) (by have:=K.hP;omega)
theorem Kn.qlt (K:Kn B top v2 vr u2 ur head U V P){Q:Int}(h:Q*V≤U):Q<B:=
 Int.lt_of_mul_lt_mul_right (Int.lt_of_le_of_lt h K.lt) (Int.le_of_lt K.vpos)
theorem Kn.init (K:Kn B top v2 vr u2 ur head U V P){Q:Int}(hQ:0≤Q)(h:Q*V≤U):Q≤head/top:=by
 have ht:=K.ht
 refine(Int.le_ediv_iff_mul_le (by omega)).2 ?_
 rcases Int.lt_or_le head (Q*top) with hc|hc
 ·exfalso
  have h1:(head+1)*(B*P)≤Q*top*(B*P):=jiG (by omega) (Int.le_of_lt K.bp)
  have h2:Q*(top*B*P)≤Q*V:=jiP K.vlo.1 hQ
  have h3:=K.ulo.2
  have e1:(head+1)*(B*P)=(head+1)*B*P:=(jiO _ _ _).symm
  have e2:Q*top*(B*P)=Q*(top*B*P):=by simp only[jiO]
  omega
 ·exact hc
theorem Kn.step (K:Kn B top v2 vr u2 ur head U V P){Q q r:Int}(hQ:0≤Q)(h:Q*V≤U)(hq:Q≤q)(hr:head=q*top+r)(hc:B≤q∨r*B+u2<q*v2):Q≤q-1:=by
 rcases hc with hc|hc
 ·have:=K.qlt h
  omega
 ·have hq0:0≤q:=by omega
  have h1:head*B+u2+1≤q*(top*B+v2):=by
   rw[hr,jiV,jiM,jiO]
   omega
  have h2:(head*B+u2+1)*P≤q*(top*B+v2)*P:=jiG h1 (by have:=K.hP;omega)
  rw[jiV,Int.one_mul] at h2
  have h3:q*((top*B+v2)*P)≤q*V:=jiP (by have:=K.hv;have:=K.vr0;omega) hq0
  rw[← jiO] at h3
  have h4:Q*V<q*V:=by
   have:=K.hu
   have:=K.urP
   omega
  have:=Int.lt_of_mul_lt_mul_right h4 (Int.le_of_lt K.vpos)
  omega
theorem Kn.out1 (K:Kn B top v2 vr u2 ur head U V P){q r:Int}(hq0:0≤q)(hr:head=q*top+r)(h1:q<B)(h2:q*v2≤r*B+u2):(q-1)*V≤U:=by
 have h3:q*(top*B+v2)≤head*B+u2:=by
  rw[hr,jiV,jiM,jiO]
  omega
 have h4:q*(top*B+v2)*P≤(head*B+u2)*P:=jiG h3 (by have:=K.hP;omega)
 have e1:q*V=q*(top*B+v2)*P+q*vr:=by rw[K.hv,jiM,jiO]
 have h5:q*vr≤B*P:=by
  have h6:q*vr≤B*vr:=jiG (by omega) K.vr0
  have h7:B*vr≤B*P:=jiP (by have:=K.vrP;omega) (by have:=K.hB;omega)
  omega
 have h8:1*(B*P)≤top*(B*P):=jiG K.ht (Int.le_of_lt K.bp)
 have e2:top*(B*P)=top*B*P:=(jiO _ _ _).symm
 have h9:=K.vlo.1
 have:=K.hu
 have:=K.ur0
 rw[Int.sub_mul,Int.one_mul]
 omega
theorem Kn.out2 (K:Kn B top v2 vr u2 ur head U V P){q r:Int}(hq0:0≤q)(hr:head=q*top+r)(h1:B≤r):q<B∧(q-1)*V≤U:=by
 have hlo:=K.ulo
 have vlo:=K.vlo
 have hbp:=K.bp
 -- the head is at most top * B + B - 1
 have h2:head<(top+1)*B:=by
  rcases Int.lt_or_le head ((top+1)*B) with h|h
  ·exact h
  ·exfalso
   have h3:(top+1)*B*(B*P)≤head*(B*P):=jiG h (Int.le_of_lt hbp)
   have h4:B*V<B*((top+1)*B*P):=Int.mul_lt_mul_of_pos_left vlo.2 (by have:=K.hB;omega)
   have e1:(top+1)*B*(B*P)=B*((top+1)*B*P):=by ac_rfl
   have e2:head*(B*P)=head*B*P:=(jiO _ _ _).symm
   have:=K.lt
   omega
 rw[jiV,Int.one_mul] at h2
 have hqB:q<B:=by
  rcases Int.lt_or_le q B with h|h
  ·exact h
  ·exfalso
   have h3:B*top≤q*top:=jiG h (by have:=K.ht;omega)
   rw[jiN B top] at h3
   omega
 refine⟨hqB,?_⟩
 have h5:q*top≤head-B:=by omega
 have h6:q*top*(B*P)≤(head-B)*(B*P):=jiG h5 (Int.le_of_lt hbp)
 have h7:q*V≤q*((top+1)*B*P):=jiP (Int.le_of_lt vlo.2) hq0
 have h8:q*(B*P)≤B*(B*P):=jiG (Int.le_of_lt hqB) (Int.le_of_lt hbp)
 have e1:q*((top+1)*B*P)=q*top*(B*P)+q*(B*P):=by
  rw[jiV,Int.one_mul,jiV,jiM]
  simp only[jiO]
 rw[Int.sub_mul] at h6
 have e2:head*(B*P)=head*B*P:=(jiO _ _ _).symm
 have:=K.vpos
 rw[Int.sub_mul,Int.one_mul]
 omega
end
end Go.Nb
end
section
namespace Go.Proofs.YtpkdedncgclblaaGreatDoor
open Go Go.V Go.Nb
theorem red_a {P W V q c b mid wlo un:Int}(hP:0<P)(hV0:0<V)(hVP:V≤P)(hW:W=wlo+un*P)(hmid:mid-(c+b)*P=wlo-q*V)(hm0:0≤mid)(hq:W/V≤q)(h:c+b≤un):q=W/V∧mid=W%V:=by
 have h1:=jiv W V
 have h2:=jiT W hV0
 have h3:W-q*V=mid+(un-(c+b))*P:=by rw[Int.sub_mul];omega
 have h4:0≤(q-W/V)*V:=jiw (by omega) (by omega)
 rw[Int.sub_mul,jiN (W/V)] at h4
 have h5:un-(c+b)=0:=by
  rcases Int.lt_or_le 0 (un-(c+b)) with h6|h6
  ·have h7:1*P≤(un-(c+b))*P:=jiG (by omega) (by omega)
   omega
  ·omega
 rw[h5,Int.zero_mul,Int.add_zero] at h3
 have h8:q≤W/V:=(Int.le_ediv_iff_mul_le hV0).2 (by omega)
 have h9:q=W/V:=by omega
 refine⟨h9,?_⟩
 rw[h9,jiN] at h3
 omega
theorem red_b {P W V q c b mid mid2 over wlo un:Int}(hP:0<P)(hV0:0<V)(hVP:V≤P)(hW:W=wlo+un*P)(hmid:mid-(c+b)*P=wlo-q*V)(hm1:mid<P)(hq1:(q-1)*V≤W)(h:un<c+b)
  (h2:mid2+over*P=mid+V) (h20:0≤mid2) (h21:mid2<P):q-1=W/V∧mid2=W%V:=by
 have h1:=jiv W V
 have h3:=jiT W hV0
 have h30:=jiu W (by omega:V≠0)
 have h4:W-q*V=mid+(un-(c+b))*P:=by rw[Int.sub_mul];omega
 have h5:1*P≤(c+b-un)*P:=jiG (by omega) (by omega)
 have h6:(un-(c+b))*P = -((c+b-un)*P):=by rw[← Int.neg_mul];congr 1;omega
 have h7:q-1≤W/V:=(Int.le_ediv_iff_mul_le hV0).2 hq1
 have h8:W/V<q:=(Int.ediv_lt_iff_lt_mul hV0).2 (by omega)
 have h9:q-1=W/V:=by omega
 refine⟨h9,?_⟩
 have e1:W%V=mid2+(over+un-(c+b))*P:=by
  have e2:W%V=W-(q-1)*V:=by rw[h9,jiN];omega
  rw[e2,Int.sub_mul,Int.one_mul]
  have e3:(over+un-(c+b))*P=over*P+(un-(c+b))*P:=by rw[← jiV];congr 1;omega
  rw[e3];omega
 have e4:over+un-(c+b)=0:=by
  rcases Int.lt_trichotomy (over+un-(c+b)) 0 with g|g|g
  ·have:(over+un-(c+b))*P≤(-1)*P:=jiG (by omega) (by omega)
   omega
  ·exact g
  ·have:1*P≤(over+un-(c+b))*P:=jiG (by omega) (by omega)
   omega
 rw[e4,Int.zero_mul,Int.add_zero] at e1
 exact e1.symm
theorem red_step {B:Nat}{mid ul vl:List Int}{c b u d r c' b' q:Int}{i:Nat}(hi:mid.length=i)(h:val B mid-(c+b)*(B:Int)^i=val B ul-q*val B vl)(hs:r-B*(c'+b')=u-q*d-(c+b)) :
  val B (mid++[r])-(c'+b')*(B:Int)^(i+1)=(val B ul+(B:Int)^i*u)-q*(val B vl+(B:Int)^i*d):=by
 rw[jaV,hi,Int.pow_succ,jiM]
 generalize (B:Int)^i=P at *
 have e1:P*(r-B*(c'+b'))=P*r-(c'+b')*(P*B):=by rw[Int.mul_sub];congr 1;ac_rfl
 have e2:P*(u-q*d-(c+b))=P*u-q*(P*d)-(c+b)*P:=by rw[Int.mul_sub,Int.mul_sub];congr 1;congr 1;ac_rfl;ac_rfl
 rw[hs,e2] at e1
 omega
theorem jgk {u A mid:List Int}{k:Nat}{r:Int}(hk:A.length+mid.length=k)(h:k<u.length):(A++mid++u.drop k).set k r=A++(mid++[r])++u.drop (k+1):=by
 have e:(A++mid).length=k:=by rw[ji8];exact hk
 rw[List.set_append_right _ _ (by omega),e,Nat.sub_self,List.drop_eq_getElem_cons h,List.set_cons_zero]
 simp
theorem mid_get {u A mid:List Int}{k:Nat}(hk:A.length+mid.length=k):(A++mid++u.drop k).getD k 0=u.getD k 0:=by
 have e:(A++mid).length=k:=by rw[ji8];exact hk
 rw[ji3,jjm (by omega),e,Nat.sub_self,List.getElem?_drop,ji3]
 rfl
theorem mid_drop {u A mid:List Int}{k:Nat}(hk:A.length+mid.length=k):(A++mid++u.drop k).drop k=u.drop k:=by
 have e:(A++mid).length=k:=by rw[ji8];exact hk
 rw[List.drop_append,e,Nat.sub_self,List.drop_of_length_le (by omega)]
 simp
theorem getD_drop {u:List Int}{j i:Nat} : (u.drop j).getD i 0=u.getD (j+i) 0:=by
 rw[ji3,List.getElem?_drop,ji3]
theorem kn_of {B p j:Nat}{u v:List Int}{W V:Int}(hB:2≤B)(hu:Dg B u)(hv:Dg B v)(hlv:v.length=p+2)(hV:val B v=V)(hW:val B (u.drop j)=W)(hz:val B (u.drop (j+(p+2)+1))=0)(htop:1≤v.getD (p+1) 0)(hlt:W<B*V) :
  Kn B (v.getD (p+1) 0) (v.getD p 0) (val B (v.take p)) (u.getD (j+p) 0) (val B ((u.drop j).take p)) (u.getD (j+(p+2)) 0*B+u.getD (j+(p+1)) 0) W V ((B:Int)^p):=by
 have e1:V=(v.getD (p+1) 0*B+v.getD p 0)*(B:Int)^p+val B (v.take p):=by
  rw[← hV]
  conv=>lhs;rw[← jjs (l:=v),hlv,jah,jah]
  rw[Int.pow_succ]
  generalize (B:Int)^p=P
  rw[jiV]
  have e:v.getD (p+1) 0*B*P=P*B*v.getD (p+1) 0:=by ac_rfl
  have e':v.getD p 0*P=P*v.getD p 0:=jiN _ _
  omega
 have e2:W=((u.getD (j+(p+2)) 0*B+u.getD (j+(p+1)) 0)*B+u.getD (j+p) 0)*(B:Int)^p+val B ((u.drop j).take p):=by
  have h1:val B (u.drop j)=val B ((u.drop j).take p)+(B:Int)^p*val B (u.drop (j+p)):=by
   rcases Nat.le_total p (u.drop j).length with h|h
   ·rw[jb2 B (u.drop j) p h,List.drop_drop]
   ·have hz2:u.drop (j+p)=[]:=jjt (by rw[jjo] at h;omega)
    rw[jjl h,hz2];simp[val]
  rw[← hW,h1,jba B u (j+p),jba B u (j+p+1),jba B u (j+p+1+1)]
  rw[show j+p+1+1+1=j+(p+2)+1 by omega,hz,show j+p+1+1=j+(p+2) by omega,show j+p+1=j+(p+1) by omega]
  rw[Int.mul_zero,Int.add_zero]
  generalize (B:Int)^p=P
  rw[Int.add_comm,jiN P]
  congr 2
  rw[jiN (B:Int),jiN (B:Int),Int.add_comm,Int.add_comm (u.getD (j+(p+1)) 0)]
 have b1:=jaj (by omega) hv (p+1)
 have b2:=jaj (by omega) hv p
 have b3:=jaj (by omega) hu (j+p)
 have b4:=jaj (by omega) hu (j+(p+1))
 have b5:=jaj (by omega) hu (j+(p+2))
 have l1:=jcz hB hv p
 have l2:=jcz hB (jbx hu j) p
 have l3:=jak (jbq hv p)
 have l4:=jak (jbq (jbx hu j) p)
 have l5:=jeo hB p
 have l6:0≤u.getD (j+(p+2)) 0*(B:Int):=jiw b5.1 (by omega)
 exact { hB:=by omega,hP:=by omega,ht:=htop,hv:=e1,hu:=e2,v20:=b2.1,v2B:=b2.2,u20:=b3.1,u2B:=b3.2,vr0:=l3,vrP:=l1,ur0:=l4,urP:=l2,hh:=by omega,htB:=b1.2,lt:=hlt }
theorem div_inv {B p j:Nat}{u q mid:List Int}{Qd W VV M:Int}(hB:2≤B)(hj:j<q.length)(hju:j+(p+2)<u.length)(hmid:mid.length=p+2)(hdu:Dg B u)(hdm:Dg B mid)(h6:val B (u.drop (j+(p+2)+1))=0)
  (hW:val B (u.drop j)=W) (hV0:0<VV) (hm:val B mid=W%VV) (hQ:Qd=W/VV) (h8:M=val B (q.drop (j+1))*(B:Int)^(j+1)*VV+val B u) :
  (u.take j++(mid++[0])++u.drop (j+(p+2)+1)).length=u.length∧Dg B (u.take j++(mid++[0])++u.drop (j+(p+2)+1))∧val B ((u.take j++(mid++[0])++u.drop (j+(p+2)+1)).drop (j+(p+2)))=0 ∧
  val B ((u.take j++(mid++[0])++u.drop (j+(p+2)+1)).drop j)<VV∧M=val B ((q.set j Qd).drop j)*(B:Int)^j*VV+val B (u.take j++(mid++[0])++u.drop (j+(p+2)+1)):=by
 have hA:(u.take j).length=j:=by rw[ji9];omega
 have hl:(u.take j++(mid++[0])++u.drop (j+(p+2)+1)).length=u.length:=by
  simp only[ji8,ji9,jjo,List.length_singleton,hmid];omega
 have hd:Dg B (u.take j++(mid++[0])++u.drop (j+(p+2)+1)):=jag (jag (jbq hdu _) (jag hdm (jar (by omega)))) (jbx hdu _)
 have hz:∀ P:Int,val B (mid++[0]++u.drop (j+(p+2)+1))=val B mid:=fun _=>by
  rw[jbV,h6,Int.mul_zero,Int.add_zero,jaV,Int.mul_zero,Int.add_zero]
 have e1:(u.take j++(mid++[0])++u.drop (j+(p+2)+1)).drop j=mid++[0]++u.drop (j+(p+2)+1):=by
  rw[jja,List.drop_append,hA,Nat.sub_self,List.drop_of_length_le (by omega)];rfl
 have e2:(u.take j++(mid++[0])++u.drop (j+(p+2)+1)).drop (j+(p+2))=[0]++u.drop (j+(p+2)+1):=by
  rw[← List.drop_drop,e1,jja,List.drop_append,hmid,Nat.sub_self,List.drop_of_length_le (by omega)];rfl
 have hr:=jiT W hV0
 refine⟨hl,hd,?_,?_,?_⟩
 ·rw[e2,jbV,h6];simp[val]
 ·rw[e1,hz 0,hm];exact hr
 ·have v1:=jb2 B u j (by omega)
  rw[hW] at v1
  have v2:val B (u.take j++(mid++[0])++u.drop (j+(p+2)+1))=val B (u.take j)+(B:Int)^j*(W%VV):=by
   rw[jja,jbV,hA,hz 0,hm]
  have v3:=jb9 (B:=B) (l:=q.set j Qd) (k:=j) (by rw[jjq];exact hj)
  rw[je0 hj,je5 (l:=q) (i:=j) (k:=j+1) (by omega)] at v3
  rw[h8,v2,v3,v1,hQ,Int.pow_succ]
  have v4:=jiv W VV
  generalize W/VV=Q at *
  generalize W%VV=R at *
  generalize (B:Int)^j=P
  generalize val B (q.drop (j+1))=q1
  rw[← v4,jiM,jiV,jiV]
  have w1:q1*(P*(B:Int))*VV=(B:Int)*q1*P*VV:=by ac_rfl
  have w2:P*(VV*Q)=Q*P*VV:=by ac_rfl
  rw[w1,w2]
  omega
end Go.Proofs.YtpkdedncgclblaaGreatDoor
end
