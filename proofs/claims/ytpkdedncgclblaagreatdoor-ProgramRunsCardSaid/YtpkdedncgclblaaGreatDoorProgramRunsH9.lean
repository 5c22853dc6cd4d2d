/- What functions of the program answer at given values, part 9. Conditions: those that each theorem names. -/
import Derived.Test.YtpkdedncgclblaaGreatDoorProgramRunsH8
import Derived.Test.YtpkdedncgclblaaGreatDoorProgramRunsH7
import Derived.Shelf.Strconv.ParseIntPublic10
import Derived.Test.YtpkdedncgclblaaGreatDoorProgramRunsH6
set_option linter.unusedSimpArgs false
set_option linter.unusedVariables false
set_option maxHeartbeats 8000000
set_option maxRecDepth 100000
section
namespace Go.Proofs.YtpkdedncgclblaaGreatDoor
open Go Go.V Go.Nb
theorem jhV (a b:Nat)(h:a<b)(ha:(mg 1000000000 a).length≤100000000)(hb:(mg 1000000000 b).length≤100000000):Cl 213 [.ints .u32 (mg 1000000000 a),.ints .u32 (mg 1000000000 b)] (.tup [.ints .u32 (mg 1000000000 (a/b)),.ints .u32 (mg 1000000000 (a%b))]):=by
 have hc:=jcw a b ha hb
 rw[jiX (by omega)] at hc
 rw[Nat.div_eq_of_lt h,Nat.mod_eq_of_lt h,jcE]
 refine V.en tbOk Tryz.func213 ?_
 (conv=>whnf)
 refine V.st ?_
 repeat ((try ((with_reducible refine .ext ?_);(conv=>whnf)));(with_reducible refine jaa (r:=?_) ?_ ?_);rotate_left;(focus (first|exact(hc)));(conv=>whnf);refine V.st ?_)
 exact Fin.tup ⟨Fin.nil _,Fin.of rfl,trivial⟩
theorem divide_one (a b:Nat)(h:b≤a)(hb:0<b)(hb1:b<1000000000)(ha:(mg 1000000000 a).length≤100000000):Cl 213 [.ints .u32 (mg 1000000000 a),.ints .u32 (mg 1000000000 b)] (.tup [.ints .u32 (mg 1000000000 (a/b)),.ints .u32 (mg 1000000000 (a%b))]):=by
 have hc:=jcw a b ha (by have:=jae (B:=1000000000) (by omega) h;omega)
 have hmb:mg 1000000000 b=[(b:Int)]:=by
  rw[jcr (by omega) hb,Nat.mod_eq_of_lt hb1,Nat.div_eq_of_lt hb1];rfl
 have hs0:0≤((a:Int)-b).sign:=Int.sign_nonneg_iff.2 (by omega)
 generalize ((a:Int)-b).sign=sg at *
 have hsh:=short_c a b ha hb (by omega)
 have hlt:a%b<b:=jiF _ hb
 have hfs:=jdi (a%b) (by omega)
 rw[hmb] at hc ⊢
 refine V.en tbOk Tryz.func213 ?_
 (conv=>whnf)
 refine V.st ?_
 repeat ((try ((with_reducible refine .ext ?_);(conv=>whnf)));(with_reducible refine jaa (r:=?_) ?_ ?_);rotate_left;(focus (first|exact(hc)));(conv=>whnf);refine V.st ?_)
 refine Cnd.no (by rw[decide_eq_false_iff_not];omega) ?_
 (conv=>whnf)
 refine V.st ?_
 refine Cnd.yes (by simp) ?_
 (conv=>whnf)
 refine V.st ?_
 repeat ((try ((with_reducible refine .ext ?_);(conv=>whnf)));(with_reducible refine jaa (r:=?_) ?_ ?_);rotate_left;(focus (first|exact(hsh)|exact(hfs)));(conv=>whnf);refine V.st ?_)
 exact Fin.of rfl
theorem jih:type_of% @jiA∧type_of% @jiy:=⟨@jiA,@jiy⟩
theorem jhU (a b:Nat)(h:b≤a)(hb1:1000000000≤b)(ha:(mg 1000000000 a).length≤90000000):Cl 213 [.ints .u32 (mg 1000000000 a),.ints .u32 (mg 1000000000 b)] (.tup [.ints .u32 (mg 1000000000 (a/b)),.ints .u32 (mg 1000000000 (a%b))]):=by
 have hlen:=jae (B:=1000000000) (by omega) h
 have hc:=jcw a b (by omega) (by omega)
 have hs0:0≤((a:Int)-b).sign:=Int.sign_nonneg_iff.2 (by omega)
 generalize ((a:Int)-b).sign=sg at *
 obtain⟨p,hp⟩:∃ p,(mg 1000000000 b).length=p+2:=by
  have:=jae (B:=1000000000) (by omega) hb1
  have e:mg 1000000000 1000000000=[0,1]:=by rfl
  rw[e] at this
  exact⟨(mg 1000000000 b).length-2,by simp at this;omega⟩
 -- the scale
 have hdb:=mg_dg (B:=1000000000) (by omega) b
 have hvb:=jay (B:=1000000000) (by omega) b
 have hlb:=jdZ (B:=1000000000) (n:=b) (by omega)
 have hlt1:=jaE (B:=1000000000) (n:=a) (by omega)
 have ht0:=jaj (by omega) hdb (p+1)
 have ht1:(mg 1000000000 b).getD (p+1) 0≠0:=by
  refine hlb _ ?_
  rw[List.getLast?_eq_getElem?,hp,ji3,show p+2-1=p+1 by omega,ji6 (by omega)];rfl
 generalize hts:(mg 1000000000 b).getD (p+1) 0=t at *
 obtain⟨t,rfl⟩:∃ t':Nat,t=t':=⟨t.toNat,by omega⟩
 obtain⟨s,hs⟩:∃ s:Nat,1000000000/((t:Int)+1)=s:=⟨(1000000000/((t:Int)+1)).toNat,by have:=Int.ediv_nonneg (a:=1000000000) (b:=(t:Int)+1) (by omega) (by omega);omega⟩
 have hs1:1≤s∧s<1000000000∧s*(t+1)≤1000000000:=by
  have e1:s=1000000000/(t+1):=by
   have:((1000000000/(t+1):Nat):Int)=1000000000/((t:Int)+1):=by rw[Int.natCast_ediv];rfl
   omega
  refine⟨?_,?_,?_⟩
  ·rw[e1];exact(Nat.le_div_iff_mul_le (by omega)).2 (by omega)
  ·rw[e1];exact Nat.div_lt_of_lt_mul (by omega)
  ·rw[e1];exact Nat.div_mul_le_self _ _
 have hms:mg 1000000000 s=[(s:Int)]:=by
  rw[jcr (by omega) (by omega),Nat.mod_eq_of_lt (by omega),Nat.div_eq_of_lt (by omega)];rfl
 have htm1:=jcO b s (by omega) (by rw[hms];simp)
 have htm2:=jcO a s (by omega) (by rw[hms];simp)
 rw[hms] at htm1 htm2
 -- the divisor, scaled
 have hbt:b<(t+1)*1000000000^(p+1)∧t*1000000000^(p+1)≤b:=by
  have h1:=jej (B:=1000000000) (by omega) hdb (p+1)
  rw[jba,hts,jjt (by omega),hvb] at h1
  simp only[val,Int.mul_zero,Int.add_zero] at h1
  have e:((1000000000:Nat):Int)^(p+1)=((1000000000^(p+1):Nat):Int):=by rw[jiU]
  rw[e] at h1
  have e1:((t:Int)+1)=((t+1:Nat):Int):=by omega
  rw[e1,← jiL,← jiL] at h1
  omega
 have hPp:0<1000000000^(p+1):=Nat.pow_pos (by omega)
 have hVlt:b*s<1000000000^(p+2):=by
  have h1:b*s<(t+1)*1000000000^(p+1)*s:=Nat.mul_lt_mul_of_pos_right hbt.1 (by omega)
  have h2:s*(t+1)*1000000000^(p+1)≤1000000000*1000000000^(p+1):=jiD _ hs1.2.2
  have e1:(t+1)*1000000000^(p+1)*s=s*(t+1)*1000000000^(p+1):=by ac_rfl
  rw[Nat.pow_succ 1000000000 (p+1),Nat.mul_comm (1000000000^(p+1))]
  omega
 have hVge:s*1000000000^(p+1)≤b*s:=by
  have h1:1*1000000000^(p+1)≤t*1000000000^(p+1):=jiD _ (by omega)
  rw[Nat.mul_comm b]
  exact Nat.mul_le_mul_left _ (by omega)
 have hVl:(mg 1000000000 (b*s)).length=p+2:=by
  have h1:=jap (B:=1000000000) (n:=b*s) (k:=p+2) (by omega) hVlt
  rcases jiI (mg 1000000000 (b*s)).length (p+2) with h2|h2
  ·have h3:=jaE (B:=1000000000) (n:=b*s) (by omega)
   have h4:1000000000^(mg 1000000000 (b*s)).length≤1000000000^(p+1):=jiR (by omega) (by omega)
   have h5:1*1000000000^(p+1)≤s*1000000000^(p+1):=jiD _ hs1.1
   omega
  ·omega
 have hdV:=mg_dg (B:=1000000000) (by omega) (b*s)
 have hvV:=jay (B:=1000000000) (by omega) (b*s)
 have hlV:=jdZ (B:=1000000000) (n:=b*s) (by omega)
 have htV:(mg 1000000000 (b*s)).getD (p+1) 0≠0:=by
  refine hlV _ ?_
  rw[List.getLast?_eq_getElem?,hVl,ji3,show p+2-1=p+1 by omega,ji6 (by omega)];rfl
 have hM:(mg 1000000000 (a*s)).length≤(mg 1000000000 a).length+1:=by
  have:=jbX (B:=1000000000) (by omega) a s
  rw[hms] at this
  simpa using this
 have hdM:=mg_dg (B:=1000000000) (by omega) (a*s)
 have hvM:=jay (B:=1000000000) (by omega) (a*s)
 have hMlt:a*s<s*1000000000^(mg 1000000000 a).length:=by
  rw[Nat.mul_comm];exact Nat.mul_lt_mul_of_pos_left hlt1 (by omega)
 generalize hmb:mg 1000000000 b=bs at *
 generalize hma:mg 1000000000 a=xs at *
 generalize hmV:mg 1000000000 (b*s)=vs at *
 generalize hmM:mg 1000000000 (a*s)=ms at *
 have e1:((bs.length:Int)-1).toNat=p+1:=by omega
 obtain⟨N,hN⟩:∃ N,N=xs.length+1:=⟨_,rfl⟩
 obtain⟨L,hL⟩:∃ L,L=xs.length-vs.length:=⟨_,rfl⟩
 obtain⟨L1,hL1⟩:∃ L1,L1=L+1:=⟨_,rfl⟩
 have e2:(xs.length:Int)+1=(N:Int):=by omega
 have e3:(xs.length:Int)-((p+2:Nat):Int)=(L:Int):=by omega
 have e4:(L:Int)+1=(L1:Int):=by omega
 refine V.en tbOk Tryz.func213 ?_
 (conv=>whnf)
 refine V.st ?_
 repeat ((try ((with_reducible refine .ext ?_);(conv=>whnf)));(with_reducible refine jaa (r:=?_) ?_ ?_);rotate_left;(focus (first|exact(hc)));(conv=>whnf);refine V.st ?_)
 refine Cnd.no (by rw[decide_eq_false_iff_not];omega) ?_
 (conv=>whnf)
 refine V.st ?_
 refine Cnd.no (by rw[decide_eq_false_iff_not];omega) ?_
 (conv=>whnf)
 (try simp only[e1,e2,e3,e4,hts,hs,hVl,jiA])
 repeat ((first|refine V.s1 ?_|((try ((with_reducible refine .ext ?_);(conv=>whnf);(try simp only[e1,e2,e3,e4,hts,hs,hVl,jiA])));(with_reducible refine jaa (r:=?_) ?_ ?_);rotate_left;(focus (first|exact(htm1)|exact(htm2)));(conv=>whnf)));(try simp only[e1,e2,e3,e4,hts,hs,hVl,jiA]))
 have hu0:setAt (List.replicate N 0) 0 (List.take N ms)=ms++List.replicate (N-ms.length) 0:=by
  unfold setAt
  rw[List.take_zero,jjg,jjl (l:=ms) (by omega),jiy,List.drop_replicate]
 have hu0v:val 1000000000 (ms++List.replicate (N-ms.length) 0)=(a*s:Nat):=by
  rw[jbV,jez,Int.mul_zero,Int.add_zero,hvM]
 simp only[hu0]
 refine jaf ((L1,ms++List.replicate (N-ms.length) 0,List.replicate L1 0):Nat×List Int×List Int) (fun x=>x.1≤L1∧x.2.1.length=N∧Dg 1000000000 x.2.1∧x.2.2.length=L1∧Dg 1000000000 x.2.2∧val 1000000000 (x.2.1.drop (x.1+(p+2)))=0∧val 1000000000 (x.2.1.drop x.1)<(b*s:Nat)∧((a*s:Nat):Int)=val 1000000000 (x.2.2.drop x.1)*((1000000000:Nat):Int)^x.1*(b*s:Nat)+val 1000000000 x.2.1) (fun x=>x.1)
  (fun x=>[(12,.int .i64 ((x.1:Int)-1)),(4,.osl 62 0 L1),(10,.osl 48 0 N)]) (fun x=>[(62,.arr .u32 x.2.2),(48,.arr .u32 x.2.1)]) ?_ ?_ ?_
 ·rw[show ((L1:Int)-1)=(L:Int) by omega]
  exact V.wk
 ·refine⟨jiB _,by simp;omega,jag hdM (jch (by omega) _),by simp,jch (by omega) _,?_,?_,?_⟩
  ·dsimp only
   rw[List.drop_of_length_le (by simp;omega)];rfl
  ·dsimp only
   have h1:=jej (B:=1000000000) (by omega) (jag hdM (jch (by omega) (N-ms.length))) L1
   rw[hu0v] at h1
   generalize val 1000000000 ((ms++List.replicate (N-ms.length) 0).drop L1)=z at *
   have h2:((1000000000:Nat):Int)^L1=((1000000000^L1:Nat):Int):=by rw[jiU]
   have h3:0<1000000000^L1:=Nat.pow_pos (by omega)
   have h4:a*s<(s*1000000000^(p+1))*1000000000^L1:=by
    rw[Nat.mul_assoc,← Nat.pow_add,show p+1+L1=xs.length by omega];exact hMlt
   have h5:(s*1000000000^(p+1))*1000000000^L1≤(b*s)*1000000000^L1:=jiD _ hVge
   rw[h2] at h1
   refine Int.lt_of_mul_lt_mul_right (a:=((1000000000^L1:Nat):Int)) ?_ (by omega)
   rw[← jiL]
   omega
  ·dsimp only
   rw[List.drop_of_length_le (by simp),hu0v];simp[val]
 rintro⟨k,u,q⟩ ⟨h1,h2,h3,h4,h5,h6,h7,h8⟩
 dsimp only at h1 h2 h3 h4 h5 h6 h7 h8 ⊢
 (conv=>whnf)
 refine V.st ?_
 refine V.br (fun hq=>?_) (fun hq=>?_)
 ·rw[decide_eq_true_eq] at hq
  obtain⟨j,rfl⟩:∃ j,k=j+1:=⟨k-1,by omega⟩
  have f1:(((j+1:Nat):Int)-1)=(j:Int):=by omega
  have f2:(j:Int)+((p+2:Nat):Int)=((j+(p+2):Nat):Int):=by omega
  have f4:((j+(p+2):Nat):Int)+1=((j+(p+3):Nat):Int):=by omega
  have f5:j+(p+3)-j=p+3:=by omega
  have f6:((p+2:Nat):Int)-1=((p+1:Nat):Int):=by omega
  have f7:((p+2:Nat):Int)-2=((p:Nat):Int):=by omega
  -- what is looked at
  obtain⟨W,hW⟩:∃ W,val 1000000000 (u.drop j)=W:=⟨_,rfl⟩
  obtain⟨VV,hVV⟩:∃ VV:Int,((b*s:Nat):Int)=VV:=⟨_,rfl⟩
  rw[hVV] at h7 h8 hvV
  have bv1:=jaj (by omega) hdV (p+1)
  have bu:=jaj (by omega) h3 j
  have hWlt:W<1000000000*VV:=by
   rw[jba] at hW;omega
  have hkn:=kn_of (B:=1000000000) (p:=p) (j:=j) (u:=u) (v:=vs) (W:=W) (V:=VV) (by omega) h3 hdV hVl hvV hW (by rw[show j+(p+2)+1=j+1+(p+2) by omega];exact h6) (by omega) hWlt
  have hVpos:=hkn.vpos
  have hW0:0≤W:=by rw[← hW];exact jak (jbx h3 j)
  have b1:=jaj (by omega) h3 (j+(p+2))
  have b2:=jaj (by omega) h3 (j+(p+1))
  have b3:=jaj (by omega) h3 (j+p)
  have b4:=jaj (by omega) hdV p
  generalize hg1:u.getD (j+(p+2)) 0=un at *
  generalize hg2:u.getD (j+(p+1)) 0=u1 at *
  generalize hg3:u.getD (j+p) 0=u0 at *
  generalize hg4:vs.getD (p+1) 0=vt at *
  generalize hg5:vs.getD p 0=v2 at *
  refine V.r0 (V.a7 jih f1 f2 f4 f5 f6 f7) ?_
  refine .inl ?_
  (conv=>whnf)
  refine⟨0,_,_,⟨Tryz.func240,rfl,rfl,jis rfl⟩,?_⟩
  (conv=>whnf)
  (conv=>whnf)
  (try simp only[jih,f1,f2,f4,f5,f6,f7,hVl,hg4])
  repeat ((first|refine V.s1 ?_);(try simp only[jih,f1,f2,f4,f5,f6,f7,hVl,hg4]))
  refine⟨(V.tk [0,1,2,3,4,5,6,7,8,9,10,11,12,13] .done),[],V.pok,.go (jab ?_)⟩
  (conv=>whnf)
  (try simp only[jih,f1,f2,f4,f5,f6,f7,hVl,hg1,hg2])
  repeat ((first|refine V.s1 ?_);(try simp only[jih,f1,f2,f4,f5,f6,f7,hVl,hg1,hg2]))
  refine⟨(V.tk [0,1,2,3,4,5,6,7] .done),[],V.pok,.go (jab ?_)⟩
  (conv=>whnf)
  (try simp only[jih,f1,f2,f4,f5,f6,f7,hVl,hg1,hg2])
  repeat ((first|refine V.s1 ?_);(try simp only[jih,f1,f2,f4,f5,f6,f7,hVl,hg1,hg2]))
  have hkn':Kn 1000000000 vt v2 (val 1000000000 (vs.take p)) u0 (val 1000000000 ((u.drop j).take p)) (un*1000000000+u1) W VV (((1000000000:Nat):Int)^p):=hkn
  have hQ0:0≤W/VV:=Int.ediv_nonneg hW0 (by omega)
  have hQm:W/VV*VV≤W:=Int.ediv_mul_le _ (by omega)
  have hQi:=hkn'.init hQ0 hQm
  have hhd:0≤un*1000000000+u1∧un*1000000000+u1<1000000000000000000:=by omega
  generalize hHD:un*1000000000+u1=HD at *
  refine jgm (β:=Int×Int) 0 (fun y=>0≤y.1∧y.1<1000000000∧(y.1-1)*VV≤W∧W/VV≤y.1) (fun y=>[(8,.int .u64 y.1),(9,.int .u64 y.2)]) (fun _=>[]) ?_ ?_
  ·refine jaf ((HD/vt,HD%vt):Int×Int) (fun y=>HD=y.1*vt+y.2∧(0≤y.2∧y.2<1000000000)∧W/VV≤y.1) (fun y=>y.1.toNat) (fun y=>[(8,.int .u64 y.1),(9,.int .u64 y.2)]) (fun _=>[]) ?_ ?_ ?_
   ·exact V.wk
   ·have hvtp:(0:Int)<vt:=by omega
    refine⟨by dsimp only;have:=jiv HD vt;rw[jiN];omega,⟨jiu _ (by omega),?_⟩,hQi⟩
    have:=jiT HD hvtp
    dsimp only;omega
   rintro⟨qq,r⟩ ⟨i1,i2,i3⟩
   dsimp only at i1 i2 i3 ⊢
   have hqv:qq<1000000000→0≤qq*v2∧qq*v2≤999999999*999999999:=fun h=>⟨jiw (by omega) (by omega),Int.mul_le_mul (by omega) (by omega) (by omega) (by omega)⟩
   refine V.r0 (V.a8 jih f1 f2 f4 f5 f6 f7 hVl) ?_
   refine⟨(V.tk [0,1,2,3,4,5,6,7,8,9,10,11,12,13,14,15,16,17,18,19,20,21] .done),[],V.pok,.go (jab ?_)⟩
   (conv=>whnf)
   (try simp only[jih,f1,f2,f4,f5,f6,f7,hVl,hg5,hg3])
   repeat ((first|refine V.s1 ?_);(try simp only[jih,f1,f2,f4,f5,f6,f7,hVl,hg5,hg3]))
   refine Or.inl (And.intro (fun h _ _=>?_) ?_)
   ·have h9:=hqv (by simpa using h)
    exact⟨by simp only[V.lo];omega,by simp only[V.hi];omega⟩
   (conv=>whnf)
   (try simp only[jih,f1,f2,f4,f5,f6,f7,hVl,hg5,hg3])
   repeat ((first|refine V.s1 ?_);(try simp only[jih,f1,f2,f4,f5,f6,f7,hVl,hg5,hg3]))
   refine V.br (fun hq5=>?_) (fun hq5=>?_)
   ·rw[jiJ,decide_eq_true_eq,decide_eq_true_eq] at hq5
    have hst:=hkn'.step hQ0 hQm i3 i1 (by omega)
    have hqpos:1≤qq:=by omega
    have hrec:HD=(qq-1)*vt+(r+vt):=by rw[Int.sub_mul,Int.one_mul];omega
    refine V.r0 (V.a8 jih f1 f2 f4 f5 f6 f7 hVl) ?_
    refine V.br (fun hq6=>?_) (fun hq6=>?_)
    ·rw[decide_eq_true_eq] at hq6
     have ho:=hkn'.out2 (q:=qq-1) (r:=r+vt) (by omega) hrec hq6
     refine V.r0 (V.a8 jih f1 f2 f4 f5 f6 f7 hVl) ?_
     exact⟨(qq-1,r+vt),⟨by dsimp only;omega,ho.1,ho.2,hst⟩,V.wk⟩
    ·rw[decide_eq_false_iff_not] at hq6
     refine V.r0 (V.a8 jih f1 f2 f4 f5 f6 f7 hVl) ?_
     exact⟨(qq-1,r+vt),⟨hrec,by dsimp only;omega,hst⟩,by dsimp only;omega,V.wk⟩
   ·rw[jiK,decide_eq_false_iff_not,decide_eq_false_iff_not] at hq5
    have ho:=hkn'.out1 (q:=qq) (r:=r) (by omega) i1 (by omega) (by omega)
    refine V.r0 (V.a8 jih f1 f2 f4 f5 f6 f7 hVl) ?_
    exact⟨(qq,r),⟨by dsimp only;omega,by dsimp only;omega,ho,i3⟩,V.wk⟩
  ·rintro⟨qq,r⟩ ⟨i1,i2,i3,i4⟩
   dsimp only at i1 i2 i3 i4 ⊢
   refine V.r0 (V.a8 jih f1 f2 f4 f5 f6 f7 hVl) ?_
   have hAl:(u.take j).length=j:=by rw[ji9];omega
   have hnl:u.take j++[]++u.drop (j+0)=u:=by rw[jjk,jiz,jjb]
   refine jaf ((0,[],0,0):Nat×List Int×Int×Int) (fun y=>y.1≤p+2∧y.2.1.length=y.1∧Dg 1000000000 y.2.1∧(0≤y.2.2.1∧y.2.2.1<1000000000)∧(0≤y.2.2.2∧y.2.2.2≤1)∧val 1000000000 y.2.1-(y.2.2.1+y.2.2.2)*((1000000000:Nat):Int)^y.1=val 1000000000 ((u.drop j).take y.1)-qq*val 1000000000 (vs.take y.1)) (fun y=>p+2-y.1)
    (fun y=>[(77,.int .i64 y.1),(10,.int .u64 y.2.2.1),(11,.int .i64 y.2.2.2)]) (fun y=>[(48,.arr .u32 (u.take j++y.2.1++u.drop (j+y.1)))]) ?_ ?_ ?_
   ·rw[hnl]
    exact V.wk
   ·exact⟨jit _,rfl,fun x hx=>by simp at hx,by simp,by simp,by simp[val]⟩
   rintro⟨i,mid,c,bw⟩ ⟨g1,g2,g3,g4,g5,g6⟩
   dsimp only at g1 g2 g3 g4 g5 g6 ⊢
   have hvu:=jah 1000000000 (u.drop j) i
   have hvv:=jah 1000000000 vs i
   rw[getD_drop] at hvu
   have bd:=jaj (by omega) hdV i
   have bui:=jaj (by omega) h3 (j+i)
   have hcl:(u.take j++mid++u.drop (j+i)).length=N:=by
    rw[ji8,ji8,hAl,g2,jjo];omega
   have hcg:=mid_get (u:=u) (A:=u.take j) (mid:=mid) (k:=j+i) (by omega)
   refine V.r0 (V.a8 jih f1 f2 f4 f5 f6 f7 hVl) ?_
   refine V.br (fun hw=>?_) (fun hw=>?_)
   ·rw[decide_eq_true_eq] at hw
    have hms2:=fun r=>jgk (u:=u) (A:=u.take j) (mid:=mid) (k:=j+i) (r:=r) (by omega) (by omega)
    generalize hd0:vs.getD i 0=d at *
    generalize hui:u.getD (j+i) 0=ui at *
    have hqd:0≤qq*d∧qq*d≤999999999*999999999:=⟨jiw (by omega) (by omega),Int.mul_le_mul (by omega) (by omega) (by omega) (by omega)⟩
    have hki:((i:Int)+1)=((i+1:Nat):Int):=by omega
    have hai:j+i+1=j+(i+1):=by omega
    generalize hqd0:qq*d=qd at *
    (conv=>whnf)
    (try simp only[jih,f1,f2,f4,f5,f6,f7,hVl,hd0,hcg,hki,hqd0])
    repeat ((first|refine V.s1 ?_);(try simp only[jih,f1,f2,f4,f5,f6,f7,hVl,hd0,hcg,hki,hqd0]))
    refine V.br (fun hneg=>?_) (fun hneg=>?_)
    ·rw[decide_eq_true_eq] at hneg
     have hst:=red_step (B:=1000000000) (q:=qq) (d:=d) (u:=ui) (r:=ui-bw-(c+qd)%1000000000+1000000000) (c':=(c+qd)/1000000000) (b':=1) g2 g6 (by rw[hqd0];have:=jiv (c+qd) 1000000000;omega)
     rw[← hvu,← hvv] at hst
     (conv=>whnf)
     (try simp only[jih,f1,f2,f4,f5,f6,f7,hVl,hd0,hcg,hki,hms2,hai])
     repeat ((first|refine V.s1 ?_);(try simp only[jih,f1,f2,f4,f5,f6,f7,hVl,hd0,hcg,hki,hms2,hai]))
     exact⟨(i+1,mid++[ui-bw-(c+qd)%1000000000+1000000000],(c+qd)/1000000000,1),⟨by dsimp only;omega,by simp[g2],jag g3 (jar (by omega)),by dsimp only;omega,by simp,hst⟩,by dsimp only;omega,V.wk⟩
    ·rw[decide_eq_false_iff_not] at hneg
     have hst:=red_step (B:=1000000000) (q:=qq) (d:=d) (u:=ui) (r:=ui-bw-(c+qd)%1000000000) (c':=(c+qd)/1000000000) (b':=0) g2 g6 (by rw[hqd0];have:=jiv (c+qd) 1000000000;omega)
     rw[← hvu,← hvv] at hst
     (conv=>whnf)
     (try simp only[jih,f1,f2,f4,f5,f6,f7,hVl,hd0,hcg,hki,hms2,hai])
     repeat ((first|refine V.s1 ?_);(try simp only[jih,f1,f2,f4,f5,f6,f7,hVl,hd0,hcg,hki,hms2,hai]))
     exact⟨(i+1,mid++[ui-bw-(c+qd)%1000000000],(c+qd)/1000000000,0),⟨by dsimp only;omega,by simp[g2],jag g3 (jar (by omega)),by dsimp only;omega,by simp,hst⟩,by dsimp only;omega,V.wk⟩
   ·rw[decide_eq_false_iff_not] at hw
    obtain rfl:i=p+2:=by omega
    rw[hg1] at hcg
    (conv=>whnf)
    (try simp only[jih,f1,f2,f4,f5,f6,f7,hVl,hcg])
    repeat ((first|refine V.s1 ?_);(try simp only[jih,f1,f2,f4,f5,f6,f7,hVl,hcg]))
    have h6':val 1000000000 (u.drop (j+(p+2)+1))=0:=by rw[show j+(p+2)+1=j+1+(p+2) by omega];exact h6
    have hWs:W=val 1000000000 ((u.drop j).take (p+2))+un*((1000000000:Nat):Int)^(p+2):=by
     have k1:=jb2 1000000000 (u.drop j) (p+2) (by rw[jjo];omega)
     rw[hW,List.drop_drop,jba 1000000000 u (j+(p+2)),h6',hg1,Int.mul_zero,Int.add_zero,jiN] at k1
     exact k1
    have hvsV:val 1000000000 (vs.take (p+2))=VV:=by rw[← hVl,jjs,hvV]
    rw[hvsV] at g6
    have hPn:(0:Int)<((1000000000:Nat):Int)^(p+2):=jeo (by omega) _
    have hVP:VV≤((1000000000:Nat):Int)^(p+2):=by
     have k1:((b*s:Nat):Int)<((1000000000^(p+2):Nat):Int):=by exact_mod_cast hVlt
     rw[jiU] at k1
     omega
    have hm0:=jak g3
    have hm1:=jcm g3
    rw[g2] at hm1
    have hsetz:=jgk (u:=u) (A:=u.take j) (mid:=mid) (k:=j+(p+2)) (r:=0) (by omega) (by omega)
    refine V.br (fun hc2=>?_) (fun hc2=>?_)
    ·rw[decide_eq_true_eq] at hc2
     have hq1:1≤qq:=by
      rcases Int.lt_or_le qq 1 with k0|k0
      ·obtain rfl:qq=0:=by omega
       exfalso
       rw[Int.zero_mul,Int.sub_zero] at g6
       have k3:0≤val 1000000000 ((u.drop j).take (p+2)):=jak (jbq (jbx h3 j) _)
       rcases Int.lt_or_le 0 (c+bw) with k4|k4
       ·have k5:1*((1000000000:Nat):Int)^(p+2)≤(c+bw)*((1000000000:Nat):Int)^(p+2):=jiG (by omega) (by omega)
        omega
       ·omega
      ·exact k0
     have hml:(u.take j++mid++u.drop (j+(p+2))).length=N:=by
      rw[ji8,ji8,hAl,g2,jjo];omega
     obtain⟨w,hw1⟩:∃ w,w=u.take j++mid++u.drop (j+(p+2)):=⟨_,rfl⟩
     have hwd:w.drop (j+(p+2))=u.drop (j+(p+2)):=by rw[hw1];exact mid_drop (by omega)
     have hwg:∀ i,i<p+2→w.getD (j+i) 0=mid.getD i 0:=fun i hi=>by
      rw[hw1,jja,ji3,jjm (by omega),hAl,Nat.add_sub_cancel_left,jjc (by omega),ji3]
     have hnl2:u.take j++[]++w.drop (j+0)=w:=by
      have:u.take j=w.take j:=by rw[hw1,jja,List.take_append_of_le_length (by omega),List.take_take,Nat.min_self]
      rw[this,jjk,jiz,jjb]
     rw[← hw1] at hml
     simp only[← hw1]
     refine V.r0 (V.a8 jih f1 f2 f4 f5 f6 f7 hVl) ?_
     refine jaf ((0,[],0):Nat×List Int×Int) (fun y=>y.1≤p+2∧y.2.1.length=y.1∧Dg 1000000000 y.2.1∧(0≤y.2.2∧y.2.2≤1)∧val 1000000000 y.2.1+y.2.2*((1000000000:Nat):Int)^y.1=val 1000000000 (mid.take y.1)+val 1000000000 (vs.take y.1)) (fun y=>p+2-y.1)
      (fun y=>[(125,.int .i64 y.1),(15,.int .u32 y.2.2)]) (fun y=>[(48,.arr .u32 (u.take j++y.2.1++w.drop (j+y.1)))]) ?_ ?_ ?_
     ·rw[hnl2]
      exact V.wk
     ·exact⟨jit _,rfl,fun x hx=>by simp at hx,by simp,by simp[val]⟩
     rintro⟨i,m2,ov⟩ ⟨k1,k2,k3,k4,k5⟩
     dsimp only at k1 k2 k3 k4 k5 ⊢
     have hvm:=jah 1000000000 mid i
     have hvv2:=jah 1000000000 vs i
     have bd:=jaj (by omega) hdV i
     have bmi:=jaj (by omega) g3 i
     have hcg2:=mid_get (u:=w) (A:=u.take j) (mid:=m2) (k:=j+i) (by omega)
     have hcl2:(u.take j++m2++w.drop (j+i)).length=N:=by
      rw[ji8,ji8,hAl,k2,jjo];omega
     refine V.r0 (V.a8 jih f1 f2 f4 f5 f6 f7 hVl) ?_
     refine V.br (fun hw2=>?_) (fun hw2=>?_)
     ·rw[decide_eq_true_eq] at hw2
      have hms3:=fun r=>jgk (u:=w) (A:=u.take j) (mid:=m2) (k:=j+i) (r:=r) (by omega) (by omega)
      rw[hwg i (by omega)] at hcg2
      generalize hd0:vs.getD i 0=d at *
      generalize hmi:mid.getD i 0=mi at *
      have hki:((i:Int)+1)=((i+1:Nat):Int):=by omega
      have hai:j+i+1=j+(i+1):=by omega
      (conv=>whnf)
      (try simp only[jih,f1,f2,f4,f5,f6,f7,hVl,hd0,hcg2,hki])
      repeat ((first|refine V.s1 ?_);(try simp only[jih,f1,f2,f4,f5,f6,f7,hVl,hd0,hcg2,hki]))
      refine V.br (fun hge=>?_) (fun hge=>?_)
      ·rw[decide_eq_true_eq] at hge
       have hst:=jat (B:=1000000000) (x:=mi) (y:=d) (d:=mi+d+ov-1000000000) (c':=1) k2 k5 (by omega)
       rw[← hvm,← hvv2] at hst
       (conv=>whnf)
       (try simp only[jih,f1,f2,f4,f5,f6,f7,hVl,hki,hms3,hai])
       repeat ((first|refine V.s1 ?_);(try simp only[jih,f1,f2,f4,f5,f6,f7,hVl,hki,hms3,hai]))
       exact⟨(i+1,m2++[mi+d+ov-1000000000],1),⟨by dsimp only;omega,by simp[k2],jag k3 (jar (by omega)),by simp,hst⟩,by dsimp only;omega,V.wk⟩
      ·rw[decide_eq_false_iff_not] at hge
       have hst:=jat (B:=1000000000) (x:=mi) (y:=d) (d:=mi+d+ov) (c':=0) k2 k5 (by omega)
       rw[← hvm,← hvv2] at hst
       (conv=>whnf)
       (try simp only[jih,f1,f2,f4,f5,f6,f7,hVl,hki,hms3,hai])
       repeat ((first|refine V.s1 ?_);(try simp only[jih,f1,f2,f4,f5,f6,f7,hVl,hki,hms3,hai]))
       exact⟨(i+1,m2++[mi+d+ov],0),⟨by dsimp only;omega,by simp[k2],jag k3 (jar (by omega)),by simp,hst⟩,by dsimp only;omega,V.wk⟩
     ·rw[decide_eq_false_iff_not] at hw2
      obtain rfl:i=p+2:=by omega
      rw[hvsV,← g2,jjs,g2] at k5
      have hn0:=jak k3
      have hn1:=jcm k3
      rw[k2] at hn1
      have hrb:=red_b hPn hVpos hVP hWs g6 hm1 i3 (by omega) k5 hn0 hn1
      have hinv:=div_inv (B:=1000000000) (p:=p) (j:=j) (u:=u) (q:=q) (mid:=m2) (Qd:=qq-1) (M:=((a*s:Nat):Int)) (by omega) (by omega) (by omega) k2 h3 k3 h6' hW hVpos hrb.2 hrb.1 h8
      have hsetz2:=jgk (u:=u) (A:=u.take j) (mid:=m2) (k:=j+(p+2)) (r:=0) (by omega) (by omega)
      (conv=>whnf)
      (try simp only[jih,f1,f2,f4,f5,f6,f7,hVl,hwd,hsetz2])
      repeat ((first|refine V.s1 ?_);(try simp only[jih,f1,f2,f4,f5,f6,f7,hVl,hwd,hsetz2]))
      exact⟨(j,u.take j++(m2++[0])++u.drop (j+(p+2)+1),q.set j (qq-1)),⟨by dsimp only;omega,by dsimp only;rw[hinv.1];exact h2,hinv.2.1,by dsimp only;rw[jjq];exact h4,jdI h5 (by omega),hinv.2.2.1,by dsimp only;rw[hVV];exact hinv.2.2.2.1,by dsimp only;rw[hVV];exact hinv.2.2.2.2⟩,by dsimp only;omega,V.wk⟩
    ·rw[decide_eq_false_iff_not] at hc2
     have hra:=red_a hPn hVpos hVP hWs g6 hm0 i4 (by omega)
     have hinv:=div_inv (B:=1000000000) (p:=p) (j:=j) (u:=u) (q:=q) (mid:=mid) (Qd:=qq) (M:=((a*s:Nat):Int)) (by omega) (by omega) (by omega) g2 h3 g3 h6' hW hVpos hra.2 hra.1 h8
     (conv=>whnf)
     (try simp only[jih,f1,f2,f4,f5,f6,f7,hVl,hsetz])
     repeat ((first|refine V.s1 ?_);(try simp only[jih,f1,f2,f4,f5,f6,f7,hVl,hsetz]))
     exact⟨(j,u.take j++(mid++[0])++u.drop (j+(p+2)+1),q.set j qq),⟨by dsimp only;omega,by dsimp only;rw[hinv.1];exact h2,hinv.2.1,by dsimp only;rw[jjq];exact h4,jdI h5 ⟨i1,i2⟩,hinv.2.2.1,by dsimp only;rw[hVV];exact hinv.2.2.2.1,by dsimp only;rw[hVV];exact hinv.2.2.2.2⟩,by dsimp only;omega,V.wk⟩
 ·rw[decide_eq_false_iff_not] at hq
  obtain rfl:k=0:=by omega
  rw[List.drop_zero,Int.pow_zero,Int.mul_one] at h8
  rw[List.drop_zero] at h7
  rw[jiy] at h6
  have hvq:=jak h5
  have hvu:=jak h3
  obtain⟨w,hw⟩:∃ w:Nat,val 1000000000 q=w:=⟨(val 1000000000 q).toNat,by omega⟩
  obtain⟨z,hz⟩:∃ z:Nat,val 1000000000 u=z:=⟨(val 1000000000 u).toNat,by omega⟩
  rw[hw,hz,← jiL,← Int.natCast_add] at h8
  rw[hz] at h7
  have h8':a*s=w*(b*s)+z:=by exact_mod_cast h8
  have h7':z<b*s:=by exact_mod_cast h7
  have hbs:0<b*s:=by omega
  have hdiv:a/b=w:=by
   have k1:a*s/(b*s)=a/b:=Nat.mul_div_mul_right a b (by omega)
   rw[← k1,h8',Nat.add_comm,Nat.add_mul_div_right _ _ hbs,Nat.div_eq_of_lt h7',jiy]
  have hmod:z=a%b*s:=by
   have k1:a*s%(b*s)=a%b*s:=Nat.mul_mod_mul_right s a b
   rw[← k1,h8',Nat.add_comm,Nat.add_mul_mod_self_right,Nat.mod_eq_of_lt h7']
  have hzs:z/s=a%b:=by rw[hmod,Nat.mul_div_cancel _ (by omega)]
  have hut:val 1000000000 (u.take (p+2))=z:=by
   rw[jb2 1000000000 u (p+2) (by omega),h6,Int.mul_zero,Int.add_zero] at hz
   exact hz
  have hzl:=jap (B:=1000000000) (n:=z) (k:=p+2) (by omega) (by omega)
  have hc1:=jfv (u.take (p+2)) (jbq h3 _) (by rw[ji9];omega)
  rw[hut,jiA] at hc1
  have hc2:=short_c z s (by omega) (by omega) (by omega)
  rw[hzs] at hc2
  have hc3:=jfv q h5 (by omega)
  rw[hw,jiA,← jjs (l:=q),h4] at hc3
  rw[hdiv]
  refine V.r3 (V.a2 hVl @jiA) hc1 hc2 hc3 ?_
  exact Fin.of rfl
theorem jbe (a b:Nat)(hb0:0<b)(ha:(mg 1000000000 a).length≤90000000)(hb:(mg 1000000000 b).length≤90000000):Cl 213 [.ints .u32 (mg 1000000000 a),.ints .u32 (mg 1000000000 b)] (.tup [.ints .u32 (mg 1000000000 (a/b)),.ints .u32 (mg 1000000000 (a%b))]):=by
 rcases jiI a b with h|h
 ·exact jhV a b h (by omega) (by omega)
 ·rcases jiI b 1000000000 with h1|h1
  ·exact divide_one a b h hb0 h1 (by omega)
  ·exact jhU a b h h1 ha
end Go.Proofs.YtpkdedncgclblaaGreatDoor
end
section
namespace Go.Proofs.YtpkdedncgclblaaGreatDoor
open Go Go.V Go.Nb Go.RowKit Go.Proofs
set_option maxHeartbeats 4000000
set_option maxRecDepth 1000000
theorem zero_k (n:Nat)(w:World)(hg:GlW w)(v:Value)(hv:Den Env.dummy (pubOf w) (.ints .u32 (mg 1000000000 n)) v):Calls Tryz.prog 210 #[v] w fun e w'=>e = .returned (.bool (decide (n=0)))∧RowKit.Below w.heap.size w w':=by
 refine(jfi (jd7 n) w hg (vs:=[v]) ?_).mono ?_
 ·simp only[DenL];exact⟨_,_,rfl,hv,rfl⟩
 ·rintro e w' ⟨v,h',rfl,hv,hb⟩
  simp only[Den] at hv
  rw[hv]
  exact⟨rfl,hb⟩
def cv:Nat→Int
 | 0 => -1
 | k+1=>k
theorem cv_eq (m:Nat):cv m=(m:Int)-1:=by cases m<;>simp[cv]
theorem digits_w (n:Nat)(hn:0<n)(hl:(mg 1000000000 n).length≤100000000)(w:World)(hg:GlW w)(hlt:GlLt w.heap.size)(v:Value)(hv:Den Env.dummy (pubOf w) (.ints .u32 (mg 1000000000 n)) v) :
  Calls Tryz.prog 224 #[v] w fun e w'=>e = .returned (.string ⟨(dec n).toArray⟩)∧RowKit.Below w.heap.size w w':=by
 have hz:=zero_k n w hg v hv
 have hdx:=mg_dg (B:=1000000000) (by omega) n
 have hvx:=jay (B:=1000000000) (by omega) n
 have hlx:=jdZ (B:=1000000000) (n:=n) (by omega)
 have hnil:=jce (B:=1000000000) (n:=n) (by omega)
 generalize mg 1000000000 n=xs at *
 simp only[Den,jaJ] at hv
 obtain⟨a,cap,rfl,hcap,_,_,ha⟩:=hv
 obtain⟨j,hj⟩:∃ j,xs.length=j+1:=⟨xs.length-1,by
  have:xs≠[]:=fun e=>by have:=hnil.1 e;omega
  have:=List.length_pos_iff.2 this
  omega⟩
 obtain⟨ad,rfl⟩:∃ ad,a=some ad:=by
  cases a with
  | none=>obtain⟨h1,_⟩:=ha;rw[h1] at hj;simp at hj
  | some ad=>exact⟨ad,rfl⟩
 obtain⟨blk,off,spot⟩:=ad
 simp only at ha
 obtain⟨rfl,hcell⟩:=ha
 have hne:decide (n=0)=false:=decide_eq_false (by omega)
 rw[hne] at hz
 have hc0:∀ i,i<xs.length→w.cell? ⟨blk,off+i,none⟩=some (.int .u32 (xs.getD i 0)):=fun i hi=>by
  have:=hcell i (xs.getD i 0) (by rw[ji3,ji6 hi];rfl)
  exact this
 have hblk:blk<w.heap.size:=by
  have:=hc0 0 (by omega)
  rcases jiI blk w.heap.size with h|h
  ·exact h
  ·simp[World.cell?,Array.getElem?_eq_none h] at this
 clear hcell
 rw[hj] at hz ⊢
 go_enter Tryz.func224,Tryz.ntmps224
 go_wp2_with (go_at_call 210;refine hz.mono ?_)
 rintro e w1 ⟨rfl,hb1⟩
 have hs1:=hb1.size
 have hc1:(w1.alloc (.cells #[.pointer none,.slice none 0 0] 279)).cell? ⟨blk,off+j,none⟩=some (.int .u32 (xs.getD j 0)):=by
  have h1:=hb1.alloc (o := .cells #[.pointer none,.slice none 0 0] 279) (by omega)
  rw[h1.cell (by exact hblk)]
  exact hc0 j (by omega)
 have hI0:=Lib.IsBuilderF.of (Lib.fresh_isBuilder 279 5 w1)
 have hgl1:GlW (w1.alloc (.cells #[.pointer none,.slice none 0 0] 279)):=jg7 hg (hb1.alloc (by omega) _) hlt
 have hlt1:GlLt w1.heap.size:=⟨fun g vs h=>by have:=hlt.1 g vs h;omega,fun g h=>by have:=hlt.2 g h;omega⟩
 have bx:=jaj (by omega) hdx j
 have hx1:xs.getD j 0≠0:=by
  refine hlx _ ?_
  rw[List.getLast?_eq_getElem?,hj,ji3,show j+1-1=j by omega,ji6 (by omega)];rfl
 have hvj:val 1000000000 (xs.drop j)=xs.getD j 0:=by rw[jba,show xs.drop (j+1)=[] from jjt (by omega)];simp[val]
 obtain⟨g,hgx⟩:∃ g:Nat,xs.getD j 0=g:=⟨(xs.getD j 0).toNat,by omega⟩
 rw[hgx] at bx hx1 hvj hc1
 have hput:=put_k w1.heap.size w1.heap.size [] g 0 (w1.alloc (.cells #[.pointer none,.slice none 0 0] 279)) hgl1 hlt1 (by simp) hI0 (by omega) (by omega) (by simp)
 have e0:List.replicate ((0:Int).toNat-(dec g).length) (48:UInt8)=[]:=by simp
 rw[e0,jjk,jjg] at hput
 clear hz hI0
 go_wp2_with (go_at_call 246;refine hput.mono ?_)
 rintro e w2 ⟨rfl,hI2,hb2⟩
 have hbw2:RowKit.Below w.heap.size w w2:=(hb1.alloc (by omega) _).trans (hb2.mono hs1)
 have hs2:w1.heap.size+1≤w2.heap.size:=by have:=hb2.size;simpa using this
 have hd0:dec g=dec (val 1000000000 (xs.drop j)).toNat:=by rw[hvj,jiA]
 rw[hd0] at hI2
 clear hput hd0
 go_wp2
 go_loopw [6] (fun i wr => ∃ m:Nat,m≤j∧i = .int .i64 (cv m)∧Lib.IsBuilderF 279 5 w1.heap.size w1.heap.size (Lib.byteCells (dec (val 1000000000 (xs.drop m)).toNat)) wr∧RowKit.Below w1.heap.size w2 wr) (fun i _=>(intOf i+1).toNat)
 case atStart=>exact⟨j,jiB _,by rw[cv_eq],hI2,Below.refl _ _⟩
 case round=>
  obtain⟨m,hm,rfl,hI,hbr⟩:=hrel
  have hsr:=hbr.size
  have hbw:RowKit.Below w.heap.size w wr:=hbw2.trans (hbr.mono hs1)
  rcases m with _|m
  ·rw[List.drop_zero,hvx,jiA] at hI
   simp only[cv]
   go_wp2_with (go_at_call 249;refine(Tryz.Builder_String_any_k w1.heap.size w1.heap.size (dec n) _ hI (by omega)).mono ?_)
   intros
   rename_i e W1 h2
   obtain⟨rfl,_,b2,_⟩:=h2
   go_wp2
   go_ret
   exact⟨rfl,hbw.trans (b2.mono hs1)⟩
  ·simp only[cv]
   have bm:=jaj (by omega) hdx m
   have hcm:wr.cell? ⟨blk,off+m,none⟩=some (.int .u32 (xs.getD m 0)):=by
    rw[hbw.cell (by exact hblk)];exact hc0 m (by omega)
   obtain⟨y,hy⟩:∃ y:Nat,xs.getD m 0=y:=⟨(xs.getD m 0).toNat,by omega⟩
   have hvm:=jb9 (B:=1000000000) (l:=xs) (k:=m) (by omega)
   have hv0:=jak (jbx hdx (m+1))
   have hvp:0<val 1000000000 (xs.drop (m+1)):=by
    have h1:=jb2 1000000000 (xs.drop (m+1)) (j-(m+1)) (by rw[jjo];omega)
    rw[List.drop_drop,show m+1+(j-(m+1))=j by omega,hvj] at h1
    have h2:=jak (jbq (jbx hdx (m+1)) (j-(m+1)))
    have h3:(0:Int)<((1000000000:Nat):Int)^(j-(m+1))*g:=Int.mul_pos (jeo (by omega) _) (by omega)
    omega
   rw[hy] at bm hcm hvm
   obtain⟨u,hu⟩:∃ u:Nat,val 1000000000 (xs.drop (m+1))=u:=⟨(val 1000000000 (xs.drop (m+1))).toNat,by omega⟩
   rw[hu,jiA] at hI
   have hdp:=jh1 (a:=u) (by omega) 9 y (by omega)
   have hpd:=ja0 9 y (by omega) (by omega)
   have hnew:(val 1000000000 (xs.drop m)).toNat=u*10^9+y:=by rw[hvm,hu];omega
   rw[hpd.2,← hnew,← jja] at hdp
   have hdlen:(dec u).length≤1000000000000:=by
    have h1:u<10^(9*(j+1)):=by
     have h2:=jcm (jbx hdx (m+1))
     rw[hu,jjo,hj] at h2
     have h3:(1000000000:Nat)^(j+1-(m+1))≤1000000000^(j+1):=jiR (by omega) (by omega)
     rw[← jiU] at h2
     rw[Nat.pow_mul]
     have h4:u<1000000000^(j+1-(m+1)):=by exact_mod_cast h2
     exact jiH h4 h3
    have:=(ja0 (9*(j+1)) u (by omega) h1).1
    omega
   have hput:=put_k w1.heap.size w1.heap.size (dec u) y 9 wr (jg7 hg hbw hlt) hlt1 (by omega) hI (by omega) (by omega) hdlen
   rw[show (9:Int).toNat=9 from rfl,← hdp] at hput
   clear hdp hpd hnew hdlen hu hvm hvp hv0
   go_wp2_with (go_at_call 246;refine hput.mono ?_)
   intros
   rename_i e W1 h2
   obtain⟨rfl,hI3,b2⟩:=h2
   go_wp2
   go_roundw
   case rel=>exact⟨m,by omega,by (have h:=cv_eq m;show Value.int .i64 ((m:Int)-1)=Value.int .i64 (cv m);rw[h]),hI3,hbr.trans b2⟩
   case measure=>simp[intOf]
theorem jhW:Cl 224 [.ints .u32 (mg 1000000000 0)] (.str (dec 0)):=by
 have hz:=jd7 0
 refine V.en tbOk Tryz.func224 ?_
 (conv=>whnf)
 refine V.st ?_
 repeat ((try ((with_reducible refine .ext ?_);(conv=>whnf)));(with_reducible refine jaa (r:=?_) ?_ ?_);rotate_left;(focus (first|exact(hz)));(conv=>whnf);refine V.st ?_)
 exact Fin.of rfl
theorem digits_c (n:Nat)(hl:(mg 1000000000 n).length≤100000000):Cl 224 [.ints .u32 (mg 1000000000 n)] (.str (dec n)):=by
 rcases jiE n with h0|h0
 ·subst h0;exact jhW
 refine jaL Tryz.func224 rfl rfl rfl fun w hp vs ha hd=>?_
 simp only[DenL] at hd
 obtain⟨v,_,rfl,hv,rfl⟩:=hd
 have hle:hp.Le (pubOf w):=fun b o v h=>ha.cells b o v h
 refine(digits_w n h0 hl w ha.blk (glLt ha.blk) v (Den.mono hle hv)).mono fun e w' ⟨he,hw⟩=>⟨⟨_,he,fun hp=>?_⟩,hw⟩
 ·simp only[Den]
  refine⟨trivial,?_⟩
  have h2:=jaE (B:=1000000000) (n:=n) (by omega)
  generalize (mg 1000000000 n).length=l at *
  have h1:n<10^(9*(l+1)):=by
   rw[Nat.pow_mul]
   exact jiH h2 (jiR (by omega) (by omega))
  have:=(ja0 (9*(l+1)) n (by omega) h1).1
  omega
end Go.Proofs.YtpkdedncgclblaaGreatDoor
end
section
namespace Go.Proofs.YtpkdedncgclblaaGreatDoor
open Go Go.V Go.Nb
def raD (q:Rat):D := .agg [.bool (decide (q.num<0)),.ints .i64 (mg 10000 q.num.natAbs),.bool false,.ints .i64 (mg 10000 q.den)]
theorem jhG (n d:Int)(hd:d≠0):(if d<0 then -n else n)/((Int.gcd (if d<0 then -n else n) (if d<0 then -d else d):Nat):Int)=(Rat.divInt n d).num:=by
 rw[Rat.num_divInt]
 split
 ·rw[Int.neg_gcd,Int.gcd_neg,Int.gcd_comm,jiX (by omega),Int.neg_mul,Int.one_mul]
 ·rw[Int.gcd_comm,jiY (by omega),Int.one_mul]
theorem jhH (n d:Int)(hd:d≠0):(if d<0 then -d else d)/((Int.gcd (if d<0 then -n else n) (if d<0 then -d else d):Nat):Int)=((Rat.divInt n d).den:Int):=by
 rw[Rat.den_divInt,if_neg hd]
 split
 ·rw[Int.neg_gcd,Int.gcd_neg,Int.gcd_comm,Int.natCast_ediv];congr 1;omega
 ·rw[Int.gcd_comm,Int.natCast_ediv];congr 1;omega
theorem jbA (n:Int)(g:Nat):(n/(g:Int)).natAbs≤n.natAbs:=by
 rcases Int.le_total 0 n with h|h
 ·have h1:=Int.ediv_nonneg h (by omega:(0:Int)≤g)
  have h2:=Int.ediv_le_self (a:=n) (g:Int) h
  omega
 ·rcases jiE g with e|e
  ·subst e;simp
  ·have h1:n/(g:Int)≤0:=by
    have:=Int.ediv_le_ediv (by omega:(0:Int)<g) h
    simpa using this
   have h2:n≤n/(g:Int):=Int.le_ediv_of_mul_le (by omega) (by
    have:=Int.mul_le_mul_of_nonpos_left h (by omega:(1:Int)≤g)
    omega)
   omega
theorem jeq (n d:Int)(hn:Sm 80000000 n)(hd:Sm 80000000 d)(hd0:d≠0):Cl 74 [plD n,plD d] (raD (Rat.divInt n d)):=by
 have e1:=jhG n d hd0
 have e2:=jhH n d hd0
 refine V.en tbOk Tryz.func74 ?_
 (conv=>whnf)
 refine V.st ?_
 refine V.br (fun hq=>?_) (fun hq=>?_)
 ·rw[decide_eq_true_eq] at hq
  simp only[if_pos hq] at e1 e2
  have hN:=hn.neg
  have hD:=hd.neg
  have ht1:=turn_c n (by unfold Sm at hn;omega)
  have ht2:=turn_c d (by unfold Sm at hd;omega)
  (conv=>whnf)
  refine V.st ?_
  refine⟨(V.tk [0,2] (V.e1 1 [2] (V.e1 3 [] (V.e1 4 [] (V.e1 5 [] .done))))),[],V.pok,.go (jab ?_)⟩
  (conv=>whnf)
  refine V.st ?_
  repeat ((try ((with_reducible refine .ext ?_);(conv=>whnf)));(with_reducible refine jaa (r:=?_) ?_ ?_);rotate_left;(focus (first|exact(ht1)|exact(ht2)));(conv=>whnf);refine V.st ?_)
  have hgp:0<Int.gcd (-n) (-d):=Int.gcd_pos_of_ne_zero_right _ (by omega)
  have hdv:=je8 (-n) (-d) hN hD
  have hgD:Sm 80000000 ((Int.gcd (-n) (-d):Nat):Int):=hD.le (by rw[jiQ];exact Nat.le_of_dvd (by omega) (Nat.gcd_dvd_right ((-n)).natAbs ((-d)).natAbs))
  have hp1:=jep (-n) ((Int.gcd (-n) (-d):Nat):Int) hN hgD (by omega)
  have hp2:=jep (-d) ((Int.gcd (-n) (-d):Nat):Int) hD hgD (by omega)
  rw[e1] at hp1
  rw[e2] at hp2
  (conv=>whnf)
  refine V.st ?_
  repeat ((try ((with_reducible refine .ext ?_);(conv=>whnf)));(with_reducible refine jaa (r:=?_) ?_ ?_);rotate_left;(focus (first|exact(hdv)|exact(hp1)|exact(hp2)));(conv=>whnf);refine V.st ?_)
  exact Fin.of (by unfold raD;rw[jiQ,decide_eq_false (p:=((Rat.divInt n d).den:Int)<0) (by omega)])
 ·rw[decide_eq_false_iff_not] at hq
  simp only[if_neg hq] at e1 e2
  have hN:=hn
  have hD:=hd
  have hgp:0<Int.gcd n d:=Int.gcd_pos_of_ne_zero_right _ (by omega)
  have hdv:=je8 n d hN hD
  have hgD:Sm 80000000 ((Int.gcd n d:Nat):Int):=hD.le (by rw[jiQ];exact Nat.le_of_dvd (by omega) (Nat.gcd_dvd_right (n).natAbs (d).natAbs))
  have hp1:=jep n ((Int.gcd n d:Nat):Int) hN hgD (by omega)
  have hp2:=jep d ((Int.gcd n d:Nat):Int) hD hgD (by omega)
  rw[e1] at hp1
  rw[e2] at hp2
  (conv=>whnf)
  refine V.st ?_
  repeat ((try ((with_reducible refine .ext ?_);(conv=>whnf)));(with_reducible refine jaa (r:=?_) ?_ ?_);rotate_left;(focus (first|exact(hdv)|exact(hp1)|exact(hp2)));(conv=>whnf);refine V.st ?_)
  exact Fin.of (by unfold raD;rw[jiQ,decide_eq_false (p:=((Rat.divInt n d).den:Int)<0) (by omega)])
theorem quick_c (n d:Int)(hn:InR .i64 n)(hd:InR .i64 d)(hd0:d≠0):Cl 66 [.int .i64 n,.int .i64 d] (raD (Rat.divInt n d)):=by
 have h1:=jbo n hn
 have h2:=jbo d hd
 simp only[V.InR,V.lo,V.hi] at hn hd
 have h3:=jeq n d ((Sm.lit (k:=5) (by omega)).mono (by omega)) ((Sm.lit (k:=5) (by omega)).mono (by omega)) hd0
 refine V.en tbOk Tryz.func66 ?_
 (conv=>whnf)
 refine V.st ?_
 repeat ((try ((with_reducible refine .ext ?_);(conv=>whnf)));(with_reducible refine jaa (r:=?_) ?_ ?_);rotate_left;(focus (first|exact(h1)|exact(h2)|exact(h3)));(conv=>whnf);refine V.st ?_)
 exact Fin.of rfl
def okF (q:Rat):Bool:=decide ((dec q.num.natAbs).length≤600) && decide ((dec q.den).length≤600)
def frR (q:Rat):D := .tup [.agg [.str (cond (okF q) (decZ q.num) []),.str (cond (okF q) (dec q.den) [])],.int .i64 (cond (okF q) 0 6)]
theorem outN_c (n:Nat)(hz:Sm 90000000 n):Cl 71 [.agg [.bool false,.ints .i64 (mg 10000 n)]] (.tup [.str (if 600<(dec n).length then [] else dec n),.int .i64 (if 600<(dec n).length then 6 else 0)]):=by
 have h:=out_c n hz
 unfold plD decZ at h
 rw[jiQ,decide_eq_false (p:=(n:Int)<0) (by omega),if_neg (c:=(n:Int)<0) (by omega)] at h
 exact h
theorem jdd (q:Rat)(hn:Sm 90000000 q.num)(hd:Sm 90000000 (q.den:Int)):Cl 42 [raD q] (frR q):=by
 have h1:=out_c q.num hn
 have h2:=outN_c q.den hd
 unfold frR okF
 by_cases g1:600<(dec q.num.natAbs).length<;>by_cases g2:600<(dec q.den).length
 all_goals
  simp only[g1,g2,if_true,if_false] at h1 h2
  simp only[← Nat.not_lt,g1,g2,not_true_eq_false,not_false_eq_true,decide_true,decide_false,Bool.and_self,Bool.and_false,Bool.false_and,Bool.and_true,cond_true,cond_false]
  refine V.en tbOk Tryz.func42 ?_
  (conv=>whnf)
  refine V.st ?_
  repeat ((try ((with_reducible refine .ext ?_);(conv=>whnf)));(with_reducible refine jaa (r:=?_) ?_ ?_);rotate_left;(focus (first|exact(h1)|exact(h2)));(conv=>whnf);refine V.st ?_)
  exact Fin.of rfl
theorem of02_c (n d:Int)(hn:InR .i64 n)(hd:InR .i64 d)(hd0:d≠0):Cl 40 [.int .i64 n,.int .i64 d] (frR (Rat.divInt n d)):=by
 have h1:=quick_c n d hn hd hd0
 simp only[V.InR,V.lo,V.hi] at hn hd
 have hnum:Sm 90000000 (Rat.divInt n d).num:=by
  have e1:=jhG n d hd0
  have h:=jbA (if d<0 then -n else n) (Int.gcd (if d<0 then -n else n) (if d<0 then -d else d))
  rw[e1] at h
  exact(Sm.lit (k:=5) (by split at h<;>omega)).mono (by omega)
 have hden:Sm 90000000 ((Rat.divInt n d).den:Int):=by
  have e1:=jhH n d hd0
  have h:=jbA (if d<0 then -d else d) (Int.gcd (if d<0 then -n else n) (if d<0 then -d else d))
  rw[e1] at h
  exact(Sm.lit (k:=5) (by split at h<;>omega)).mono (by omega)
 have h2:=jdd _ hnum hden
 refine V.en tbOk Tryz.func40 ?_
 (conv=>whnf)
 refine V.st ?_
 refine Cnd.no (decide_eq_false hd0) ?_
 (conv=>whnf)
 refine V.st ?_
 repeat ((try ((with_reducible refine .ext ?_);(conv=>whnf)));(with_reducible refine jaa (r:=?_) ?_ ?_);rotate_left;(focus (first|exact(h1)|exact(h2)));(conv=>whnf);refine V.st ?_)
 exact Fin.of rfl
theorem gcd_c (a b:Nat)(ha:(mg 1000000000 a).length≤90000000)(hb:(mg 1000000000 b).length≤90000000):Cl 159 [.ints .u32 (mg 1000000000 a),.ints .u32 (mg 1000000000 b)] (.ints .u32 (mg 1000000000 (Nat.gcd a b))):=by
 obtain⟨g,hg⟩:∃ g,g=Nat.gcd a b:=⟨_,rfl⟩
 rw[← hg]
 refine V.en tbOk Tryz.func159 ?_
 (conv=>whnf)
 refine V.st ?_
 refine jaf ((a,b):Nat×Nat) (fun s=>Nat.gcd s.1 s.2=g∧(mg 1000000000 s.1).length≤90000000∧(mg 1000000000 s.2).length≤90000000) (fun s=>s.2)
  (fun s=>[(0,.ints .u32 (mg 1000000000 s.1)),(1,.ints .u32 (mg 1000000000 s.2))]) (fun _=>[]) ?_ ?_ ?_
 ·exact V.wk
 ·exact⟨hg.symm,ha,hb⟩
 rintro⟨x,y⟩ ⟨h1,h2,h3⟩
 dsimp only at h1 h2 h3 ⊢
 have hz:=jd7 y
 (conv=>whnf)
 refine V.st ?_
 repeat ((try ((with_reducible refine .ext ?_);(conv=>whnf)));(with_reducible refine jaa (r:=?_) ?_ ?_);rotate_left;(focus (first|exact(hz)));(conv=>whnf);refine V.st ?_)
 refine V.br (fun hq=>?_) (fun hq=>?_)
 ·have hy:¬ y=0:=by simpa using hq
  (conv=>whnf)
  refine V.st ?_
  refine V.br (fun hq2=>?_) (fun hq2=>?_)
  ·rw[jir,decide_eq_true_eq,decide_eq_true_eq] at hq2
   have hx18:x<1000000000000000000:=by
    have:=jaE (B:=1000000000) (n:=x) (by omega)
    have h5:1000000000^(mg 1000000000 x).length≤1000000000^2:=jiR (by omega) (by omega)
    omega
   have hy18:y<1000000000000000000:=by
    have:=jaE (B:=1000000000) (n:=y) (by omega)
    have h5:1000000000^(mg 1000000000 y).length≤1000000000^2:=jiR (by omega) (by omega)
    omega
   have hs1:=small_c x hx18
   have hs2:=small_c y hy18
   (conv=>whnf)
   refine V.st ?_
   repeat ((try ((with_reducible refine .ext ?_);(conv=>whnf)));(with_reducible refine jaa (r:=?_) ?_ ?_);rotate_left;(focus (first|exact(hs1)|exact(hs2)));(conv=>whnf);refine V.st ?_)
   refine jaf ((x,y):Nat×Nat) (fun s=>Nat.gcd s.1 s.2=g∧s.1<1000000000000000000∧s.2<1000000000000000000) (fun s=>s.2) (fun s=>[(5,.int .u64 s.1),(6,.int .u64 s.2)]) (fun _=>[]) ?_ ?_ ?_
   ·exact V.wk
   ·exact⟨h1,hx18,hy18⟩
   rintro⟨p,q⟩ ⟨i1,i2,i3⟩
   dsimp only at i1 i2 i3 ⊢
   (conv=>whnf)
   refine V.st ?_
   refine V.br (fun hq3=>?_) (fun hq3=>?_)
   ·rw[decide_eq_true_eq] at hq3
    have hqp:0<q:=by omega
    have em:(p:Int)%(q:Int)=((p%q:Nat):Int):=by rw[Int.natCast_emod]
    have hlt:=jiF p hqp
    refine V.r0 em ?_
    refine⟨(V.tk [0,1,2,3] (V.e1 4 [3,2] (V.e1 5 [] .done))),[],V.pok,.go (jab ?_)⟩
    refine V.r0 em ?_
    exact⟨(q,p%q),⟨by dsimp only;rw[Nat.gcd_comm,← Nat.gcd_rec,Nat.gcd_comm];exact i1,i3,by dsimp only;omega⟩,hlt,V.wk⟩
   ·rw[decide_eq_false_iff_not] at hq3
    obtain rfl:q=0:=by omega
    rw[Nat.gcd_zero_right] at i1
    have hf:=jdi p (by omega)
    (conv=>whnf)
    refine V.st ?_
    repeat ((try ((with_reducible refine .ext ?_);(conv=>whnf)));(with_reducible refine jaa (r:=?_) ?_ ?_);rotate_left;(focus (first|exact(hf)));(conv=>whnf);refine V.st ?_)
    exact Fin.of (by rw[i1])
  ·have hd:=jbe x y (by omega) h2 h3
   have hlt:=jiF x (by omega:y>0)
   have hr:=jae (B:=1000000000) (by omega) (Nat.le_of_lt hlt)
   (conv=>whnf)
   refine V.st ?_
   repeat ((try ((with_reducible refine .ext ?_);(conv=>whnf)));(with_reducible refine jaa (r:=?_) ?_ ?_);rotate_left;(focus (first|exact(hd)));(conv=>whnf);refine V.st ?_)
   exact⟨(y,x%y),⟨by dsimp only;rw[Nat.gcd_comm,← Nat.gcd_rec,Nat.gcd_comm];exact h1,h3,by dsimp only;omega⟩,hlt,V.wk⟩
 ·have hy:y=0:=by simpa using hq
  subst hy
  rw[Nat.gcd_zero_right] at h1
  (conv=>whnf)
  refine V.st ?_
  exact Fin.of (by rw[h1])
theorem ftext_c (z:Int)(hz:(mg 1000000000 z.natAbs).length≤90000000):Cl 223 [itD z] (.str (decZ z)):=by
 have hd:=digits_c z.natAbs (by omega)
 have hl:(dec z.natAbs).length≤1000000000000:=by
  have h2:=jaE (B:=1000000000) (n:=z.natAbs) (by omega)
  generalize (mg 1000000000 z.natAbs).length=l at *
  have h1:z.natAbs<10^(9*(l+1)):=by
   rw[Nat.pow_mul]
   exact jiH h2 (jiR (by omega) (by omega))
  have:=(ja0 (9*(l+1)) z.natAbs (by omega) h1).1
  omega
 refine V.en tbOk Tryz.func223 ?_
 (conv=>whnf)
 refine V.st ?_
 refine V.br (fun hq=>?_) (fun hq=>?_)
 ·rw[decide_eq_true_eq] at hq
  (conv=>whnf)
  refine V.st ?_
  repeat ((try ((with_reducible refine .ext ?_);(conv=>whnf)));(with_reducible refine jaa (r:=?_) ?_ ?_);rotate_left;(focus (first|exact(hd)));(conv=>whnf);refine V.st ?_)
  exact Fin.of (by unfold decZ;rw[if_pos hq];rfl)
 ·rw[decide_eq_false_iff_not] at hq
  (conv=>whnf)
  refine V.st ?_
  repeat ((try ((with_reducible refine .ext ?_);(conv=>whnf)));(with_reducible refine jaa (r:=?_) ?_ ?_);rotate_left;(focus (first|exact(hd)));(conv=>whnf);refine V.st ?_)
  exact Fin.of (by unfold decZ;rw[if_neg hq])
def rtD (q:Rat):D := .agg [.ints .u32 (mg 1000000000 q.num.natAbs),.bool (decide (q.num<0)),.ints .u32 (mg 1000000000 q.den)]
theorem jhj (q:Rat)(hn:(mg 1000000000 q.num.natAbs).length≤90000000)(hd:(mg 1000000000 q.den).length≤90000000):Cl 173 [rtD q] (frR q):=by
 have h1:=length_c q.num.natAbs (by omega)
 have h2:=length_c q.den (by omega)
 have h3:=ftext_c q.num hn
 have h4:=digits_c q.den (by omega)
 unfold frR okF
 refine V.en tbOk Tryz.func173 ?_
 (conv=>whnf)
 refine V.st ?_
 repeat ((try ((with_reducible refine .ext ?_);(conv=>whnf)));(with_reducible refine jaa (r:=?_) ?_ ?_);rotate_left;(focus (first|exact(h1)|exact(h2)));(conv=>whnf);refine V.st ?_)
 refine V.br (fun hq=>?_) (fun hq=>?_)
 ·rw[jiJ,decide_eq_true_eq,decide_eq_true_eq] at hq
  have e:(decide ((dec q.num.natAbs).length≤600) && decide ((dec q.den).length≤600))=false:=by
   rw[jiW,decide_eq_false_iff_not,decide_eq_false_iff_not];omega
  rw[e]
  (conv=>whnf)
  refine V.st ?_
  exact Fin.of rfl
 ·rw[jiK,decide_eq_false_iff_not,decide_eq_false_iff_not] at hq
  have e:(decide ((dec q.num.natAbs).length≤600) && decide ((dec q.den).length≤600))=true:=by
   rw[jir,decide_eq_true_eq,decide_eq_true_eq];omega
  rw[e]
  (conv=>whnf)
  refine V.st ?_
  refine⟨(V.tk [0,1,3,4] (V.e1 2 [4,3] (V.e1 5 [] (V.tk [6] (V.e1 7 [] (V.tk [8] .done)))))),[],V.pok,.go (jab ?_)⟩
  (conv=>whnf)
  refine V.st ?_
  repeat ((try ((with_reducible refine .ext ?_);(conv=>whnf)));(with_reducible refine jaa (r:=?_) ?_ ?_);rotate_left;(focus (first|exact(h3)|exact(h4)));(conv=>whnf);refine V.st ?_)
  exact Fin.of rfl
theorem jcX (n:Int)(d:Nat)(hd:0<d):(Rat.divInt n d).num.natAbs=n.natAbs/Nat.gcd n.natAbs d∧decide ((Rat.divInt n d).num<0)=decide (n<0)∧(Rat.divInt n d).den=d/Nat.gcd n.natAbs d:=by
 have hg:Int.gcd (d:Int) n=Nat.gcd n.natAbs d:=by
  rw[Int.gcd_comm];rfl
 have hgp:0<Nat.gcd n.natAbs d:=Nat.gcd_pos_of_pos_right _ hd
 have hdv:((Nat.gcd n.natAbs d:Nat):Int) ∣ n:=Int.ofNat_dvd_left.2 (Nat.gcd_dvd_left _ _)
 rw[Rat.num_divInt,Rat.den_divInt,if_neg (by omega),jiY (by omega),Int.one_mul,hg,jiQ]
 generalize Nat.gcd n.natAbs d=g at *
 obtain⟨k,rfl⟩:=hdv
 have e:(g:Int)*k/g=k:=Int.mul_ediv_cancel_left _ (by omega)
 rw[e,Int.natAbs_mul,jiQ,Nat.mul_div_cancel_left _ hgp]
 refine⟨rfl,?_,rfl⟩
 apply decide_eq_decide.2
 constructor
 ·intro h;exact Int.mul_neg_of_pos_of_neg (by omega) h
 ·intro h
  rcases Int.lt_or_le k 0 with h2|h2
  ·exact h2
  ·have:=jiw (a:=(g:Int)) (by omega) h2;omega
theorem reduced_c (n:Int)(d:Nat)(hd0:0<d)(hn:(mg 1000000000 n.natAbs).length≤90000000)(hd:(mg 1000000000 d).length≤90000000):Cl 216 [itD n,.ints .u32 (mg 1000000000 d)] (rtD (Rat.divInt n d)):=by
 obtain⟨p1,p2,p3⟩:=jcX n d hd0
 have hg:=gcd_c n.natAbs d hn hd
 have hgp:0<Nat.gcd n.natAbs d:=Nat.gcd_pos_of_pos_right _ hd0
 have hgl:=jae (B:=1000000000) (by omega) (Nat.le_of_dvd hd0 (Nat.gcd_dvd_right n.natAbs d))
 have h1:=jbe n.natAbs (Nat.gcd n.natAbs d) hgp hn (by omega)
 have h2:=jbe d (Nat.gcd n.natAbs d) hgp hd (by omega)
 have h3:=ja2 (n.natAbs/Nat.gcd n.natAbs d) (decide (n<0))
 have e:itD (if decide (n<0)=true then -((n.natAbs/Nat.gcd n.natAbs d:Nat):Int) else ((n.natAbs/Nat.gcd n.natAbs d:Nat):Int))=itD (Rat.divInt n d).num:=by
  congr 1
  rw[← p1,← p2]
  by_cases h:(Rat.divInt n d).num<0
  ·rw[decide_eq_true h,if_pos rfl];omega
  ·rw[decide_eq_false h,if_neg (by simp)];omega
 rw[e] at h3
 refine V.en tbOk Tryz.func216 ?_
 (conv=>whnf)
 refine V.st ?_
 repeat ((try ((with_reducible refine .ext ?_);(conv=>whnf)));(with_reducible refine jaa (r:=?_) ?_ ?_);rotate_left;(focus (first|exact(hg)|exact(h1)|exact(h2)|exact(h3)));(conv=>whnf);refine V.st ?_)
 exact Fin.of (by unfold rtD;rw[p3])
theorem wof_c (n:Int)(h:InR .i64 n):Cl 162 [.int .i64 n] (.str (decZ n)):=by
 have hi:=itoa_c n
 refine V.en tbOk Tryz.func162 ?_
 (conv=>whnf)
 refine V.st ?_
 repeat ((try ((with_reducible refine .ext ?_);(conv=>whnf)));(with_reducible refine jaa (r:=?_) ?_ ?_);rotate_left;(focus (first|exact(hi)));(conv=>whnf);refine V.st ?_)
 exact Fin.of rfl
theorem jhd (n d:Int)(hd:d≠0):Rat.divInt (if (decide (n<0) != decide (d<0))=true then -(n.natAbs:Int) else (n.natAbs:Int)) (d.natAbs:Nat)=Rat.divInt n d:=by
 rw[Rat.divInt_eq_divInt_iff (by omega) hd]
 by_cases h1:n<0<;>by_cases h2:d<0
 ·simp only[h1,h2,decide_true,bne_self_eq_false,Bool.false_eq_true,if_false]
  rw[show (n.natAbs:Int) = -n by omega,show (d.natAbs:Int) = -d by omega,Int.neg_mul,Int.mul_neg]
 ·have e:(decide (n<0) != decide (d<0))=true:=by simp[h1,h2]
  rw[if_pos e,show (n.natAbs:Int) = -n by omega,show (d.natAbs:Int)=d by omega,Int.neg_neg]
 ·have e:(decide (n<0) != decide (d<0))=true:=by simp[h1,h2]
  rw[if_pos e,show (n.natAbs:Int)=n by omega,show (d.natAbs:Int) = -d by omega,Int.neg_mul,Int.mul_neg]
 ·have e:¬ (decide (n<0) != decide (d<0))=true:=by simp[h1,h2]
  rw[if_neg e,show (n.natAbs:Int)=n by omega,show (d.natAbs:Int)=d by omega]
theorem jcj {s:List UInt8}(h:okW s=true):s.length≤601∧(wval s).natAbs<10^600:=by
 unfold okW okD at h
 simp only[jir,Bool.not_eq_true',jiK,decide_eq_false_iff_not,ji2] at h
 obtain⟨⟨h1,h2⟩,h3⟩:=h
 have h4:=jeF h2
 have h5:∀ k,(Go.Lib.trimPrefix s [45]).length≤k→10^(Go.Lib.trimPrefix s [45]).length≤10^k:=fun k hk=>jiR (by omega) hk
 constructor
 ·unfold Go.Lib.trimPrefix at h1
  split at h1
  ·rw[jjo] at h1;simp at h1;omega
  ·omega
 ·have:(wval s).natAbs=rdv (Go.Lib.trimPrefix s [45]):=by unfold wval;split<;>simp
  rw[this]
  exact jiH h4 (h5 600 (by omega))
theorem len9 {n:Nat}(h:n<10^600):(mg 1000000000 n).length≤67:=jap (by omega) (jiH h (by
 have h1:∀ k,(1000000000:Nat)^k=10^(9*k):=fun k=>by rw[Nat.pow_mul]
 have h2:∀ a b:Nat,a≤b→(10:Nat)^a≤10^b:=fun a b hab=>jiR (by omega) hab
 obtain⟨m,hm⟩:∃ m,m=9*67:=⟨_,rfl⟩
 rw[h1 67,← hm]
 exact h2 600 m (by omega)))
theorem make_c (s t:List UInt8)(hs:okW s=true)(ht:okW t=true)(hz:wval t≠0):Cl 161 [.str s,.str t] (frR (Rat.divInt (wval s) (wval t))):=by
 obtain⟨ls,vs⟩:=jcj hs
 obtain⟨lt,vt⟩:=jcj ht
 have c1:=jcx s (by omega)
 have c2:=jcx t (by omega)
 rw[hs,if_pos rfl] at c1
 rw[ht,if_pos rfl] at c2
 have n1:=jc2 s hs
 have n2:=jc2 t ht
 generalize wval s=n at *
 generalize wval t=d at *
 have hz1:=jd7 d.natAbs
 have hs1:=ja2 n.natAbs (decide (n<0) != decide (d<0))
 have hnl:=len9 vs
 have hdl:=len9 vt
 have e1:(if (decide (n<0) != decide (d<0))=true then -(n.natAbs:Int) else (n.natAbs:Int)).natAbs=n.natAbs:=by split<;>omega
 have hr:=reduced_c (if (decide (n<0) != decide (d<0))=true then -(n.natAbs:Int) else (n.natAbs:Int)) d.natAbs (by omega) (by rw[e1];omega) (by omega)
 obtain⟨p1,p2,p3⟩:=jcX (if (decide (n<0) != decide (d<0))=true then -(n.natAbs:Int) else (n.natAbs:Int)) d.natAbs (by omega)
 rw[jhd n d hz] at hr p1 p2 p3
 rw[e1] at p1 p3
 have hw:=jhj (Rat.divInt n d) (by
  rw[p1]
  have:=jae (B:=1000000000) (by omega) (jiS n.natAbs (n.natAbs.gcd d.natAbs))
  omega) (by
  rw[p3]
  have:=jae (B:=1000000000) (by omega) (jiS d.natAbs (n.natAbs.gcd d.natAbs))
  omega)
 refine V.en tbOk Tryz.func161 ?_
 (conv=>whnf)
 refine V.st ?_
 repeat ((try ((with_reducible refine .ext ?_);(conv=>whnf)));(with_reducible refine jaa (r:=?_) ?_ ?_);rotate_left;(focus (first|exact(c1)|exact(c2)|exact(n1)|exact(n2)|exact(hz1)));(conv=>whnf);refine V.st ?_)
 refine Cnd.no (decide_eq_false (by omega)) ?_
 (conv=>whnf)
 refine V.st ?_
 refine⟨(V.tk [0,1,2,3,4,5,6,8,9] (V.e1 7 [9,8] (V.e1 10 [] (V.e1 11 [] (V.tk [12,13] (V.e1 14 [] (V.tk [15] .done))))))),[],V.pok,.go (jab ?_)⟩
 (conv=>whnf)
 refine V.st ?_
 repeat ((try ((with_reducible refine .ext ?_);(conv=>whnf)));(with_reducible refine jaa (r:=?_) ?_ ?_);rotate_left;(focus (first|exact(hs1)|exact(hr)|exact(hw)));(conv=>whnf);refine V.st ?_)
 exact Fin.of rfl
theorem of_c (n d:Int)(hn:InR .i64 n)(hd:InR .i64 d)(hd0:d≠0):Cl 77 [.int .i64 n,.int .i64 d] (frR (Rat.divInt n d)):=by
 have h1:=wof_c n hn
 have h2:=wof_c d hd
 simp only[V.InR,V.lo,V.hi] at hn hd
 have o1:=jbS n (by have:=jfc n.natAbs 19 (by omega) (by omega);omega)
 have o2:=jbS d (by have:=jfc d.natAbs 19 (by omega) (by omega);omega)
 have h3:=make_c (decZ n) (decZ d) o1 o2 (by rw[jbk];exact hd0)
 rw[jbk,jbk] at h3
 refine V.en tbOk Tryz.func77 ?_
 (conv=>whnf)
 refine V.st ?_
 repeat ((try ((with_reducible refine .ext ?_);(conv=>whnf)));(with_reducible refine jaa (r:=?_) ?_ ?_);rotate_left;(focus (first|exact(h1)|exact(h2)|exact(h3)));(conv=>whnf);refine V.st ?_)
 exact Fin.of rfl
end Go.Proofs.YtpkdedncgclblaaGreatDoor
end
section
namespace Go.Nb
theorem fold_ge:∀ (l:List UInt8) (acc:Nat),acc≤l.foldl (fun v c=>v*10+(c.toNat-48)) acc
 | [],_=>jiB _
 | c::r,acc=>by
  have:=fold_ge r (acc*10+(c.toNat-48))
  simp only[List.foldl_cons]
  omega
theorem jcT:∀ (l:List UInt8) (acc:Nat),(∀ c∈l,isDig c=true)→l.foldl (fun v c=>v*10+(c.toNat-48)) acc≤18446744073709551615 →
  Go.Lib.parseUintM 18446744073709551615 acc l = .ok (l.foldl (fun v c=>v*10+(c.toNat-48)) acc)
 | [],acc,_,_=>rfl
 | c::r,acc,hd,hl=>by
  have h1:=fold_ge r (acc*10+(c.toNat-48))
  have h2:=hd c (by simp)
  unfold isDig at h2
  rw[decide_eq_true_eq] at h2
  simp only[List.foldl_cons] at hl ⊢
  unfold Go.Lib.parseUintM
  rw[if_pos h2,if_neg (by omega),if_neg (by omega)]
  exact jcT r _ (fun c hc=>hd c (by simp[hc])) hl
theorem jfp (n:Nat)(h:n≤18446744073709551615):Go.Lib.parseUintB 64 (dec n) = .ok n:=by
 unfold Go.Lib.parseUintB
 have hne:dec n≠[]:=by
  by_cases h10:n<10
  ·rw[jbc h10];simp
  ·rw[jcl (by omega)];simp
 rw[if_neg hne]
 have hv:(dec n).foldl (fun v c=>v*10+(c.toNat-48)) 0=n:=jhz n
 have:=jcT (dec n) 0 (jfd n) (by omega)
 rw[hv] at this
 exact this
theorem jgd (z:Int)(h1 : -9223372036854775808≤z)(h2:z≤9223372036854775807):Go.Lib.parseIntB 64 (decZ z) = .ok z:=by
 have hu:=jfp z.natAbs (by omega)
 unfold decZ
 by_cases hz:z<0
 ·rw[if_pos hz,Go.Lib.parseIntB_minus,hu]
  unfold Go.Lib.signedC
  simp only
  rw[if_neg (by omega)]
  congr 1
  omega
 ·rw[if_neg hz]
  have hne:dec z.natAbs≠[]:=by
   by_cases h10:z.natAbs<10
   ·rw[jbc h10];simp
   ·rw[jcl (by omega)];simp
  have hd:=jfd z.natAbs
  revert hu hd hne
  generalize dec z.natAbs=l
  intro hu hne hd
  cases l with
  | nil=>exact absurd rfl hne
  | cons c r=>
   have hc:=hd c (by simp)
   unfold isDig at hc
   rw[decide_eq_true_eq] at hc
   rw[Go.Lib.parseIntB_plain 64 c r (by omega) (by omega),hu]
   unfold Go.Lib.signlessC
   simp only
   rw[if_neg (by omega)]
   congr 1
   omega
theorem decZ_len (z:Int)(h1 : -9223372036854775808≤z)(h2:z≤9223372036854775807):(decZ z).length≤20:=by
 have:=(ja0 19 z.natAbs (by omega) (by omega)).1
 unfold decZ
 split
 ·simp only[jji];omega
 ·omega
end Go.Nb
namespace Go.Proofs.YtpkdedncgclblaaGreatDoor
open Go Go.V Go.Nb Go.RowKit Go.Proofs
set_option maxHeartbeats 4000000
set_option maxRecDepth 1000000
theorem wcheck_k (z:Int)(h1 : -9223372036854775808≤z)(h2:z≤9223372036854775807)(w:World)(hg:GlW w):Calls Tryz.prog 156 #[.string ⟨(decZ z).toArray⟩] w fun e w'=>e = .returned (.int .i64 0)∧RowKit.Below w.heap.size w w':=by
 have hl:=decZ_len z h1 h2
 have hd:(dec z.natAbs).length≤600:=jiC (ja0 19 z.natAbs (by omega) (by omega)).1 (by omega)
 have hc:=jcx (decZ z) (by omega)
 rw[if_pos (jbS z hd)] at hc
 refine(jfi hc w hg (vs:=[.string ⟨(decZ z).toArray⟩]) ?_).mono ?_
 ·simp only[DenL,Den];exact⟨_,_,rfl,⟨rfl,by omega⟩,rfl⟩
 ·rintro e w' ⟨v,h',rfl,hv,hb⟩
  simp only[Den] at hv
  rw[hv.1]
  exact⟨rfl,hb⟩
theorem int_w (z:Int)(h1 : -9223372036854775808≤z)(h2:z≤9223372036854775807)(w:World)(hg:GlW w):Calls Tryz.prog 225 #[.string ⟨(decZ z).toArray⟩] w fun e w'=>e = .returned (.tuple #[.int .i64 z,.int .i64 0])∧RowKit.Below w.heap.size w w':=by
 have hl:=decZ_len z h1 h2
 have hc:=wcheck_k z h1 h2 w hg
 have hp:=jgd z h1 h2
 have hsz:(⟨(decZ z).toArray⟩:ByteArray).size≤9223372036854775806:=by simp[ByteArray.size];omega
 have hpi:=fun w=>Tryz.strconv_ParseInt_10_at64_ok ⟨(decZ z).toArray⟩ hsz z (by simpa using hp) w
 go_enter Tryz.func225,Tryz.ntmps225
 go_wp2_with (go_at_call 156;refine hc.mono ?_)
 rintro e w1 ⟨rfl,hb1⟩
 go_wp2_with (go_at_call 250;refine(hpi w1).mono ?_)
 rintro e w2 ⟨rfl,hw⟩
 have hb2:RowKit.Below w.heap.size w w2:=by
  rcases hw with rfl|⟨t,rfl⟩
  ·exact hb1
  ·exact hb1.trans ((Lib.bytesWorld_below w1 _ _).mono hb1.size)
 go_wp2
 go_ret2
 exact⟨rfl,hb2⟩
theorem int_c (z:Int)(h1 : -9223372036854775808≤z)(h2:z≤9223372036854775807):Called Tryz.prog 225 [.str (decZ z)] (.tup [.int .i64 z,.int .i64 0]):=by
 refine jaL Tryz.func225 rfl rfl rfl fun w hp vs ha hd=>?_
 simp only[DenL,Den] at hd
 obtain⟨v,_,rfl,⟨rfl,_⟩,rfl⟩:=hd
 refine(int_w z h1 h2 w ha.blk).mono fun e w' ⟨he,hw⟩=>⟨⟨_,he,fun hp=>?_⟩,hw⟩
 simp only[Den,DenL]
 exact⟨_,rfl,_,_,rfl,⟨rfl,by simp only[InR,V.lo,V.hi];omega⟩,_,_,rfl,⟨rfl,by constructor<;>decide⟩,rfl⟩
end Go.Proofs.YtpkdedncgclblaaGreatDoor
end
section
namespace Go.Proofs.YtpkdedncgclblaaGreatDoor
open Go Go.V Go.Nb
theorem plus_m (a b : Nat) (ha : (mg 1000000000 a).length ≤ 100000000) (hb : (mg 1000000000 b).length ≤ 100000000) : Cl 244 [.ints .u32 (mg 1000000000 a), .ints .u32 (mg 1000000000 b)] (.ints .u32 (mg 1000000000 (a + b))) := by
  have hdx := mg_dg (B := 1000000000) (by omega) a
  have hdy := mg_dg (B := 1000000000) (by omega) b
  have hvx := jay (B := 1000000000) (by omega) a
  have hvy := jay (B := 1000000000) (by omega) b
  have hpx := fun h => jcS (B := 1000000000) (n := a) (by omega) h
  have hpy := fun h => jcS (B := 1000000000) (n := b) (by omega) h
  have hex := jce (B := 1000000000) (n := a) (by omega)
  have hey := jce (B := 1000000000) (n := b) (by omega)
  generalize mg 1000000000 a = xs at *
  generalize mg 1000000000 b = ys at *
  refine V.en tbOk Tryz.func244 ?_
  (conv => whnf)
  refine V.st ?_
  refine V.br (fun hl => ?_) (fun hl => ?_)
  · rw [decide_eq_true_eq] at hl
    obtain ⟨N, hN⟩ : ∃ N, N = ys.length + 1 := ⟨_, rfl⟩
    have e1 : (ys.length : Int) + 1 = (N : Int) := by omega
    rw [Nat.add_comm a b]
    (conv => whnf)
    (try simp only [e1, jiA])
    repeat ((first | refine V.s1 ?_); (try simp only [e1, jiA]))
    (obtain ⟨hdx, hdy⟩ := And.intro hdy hdx)
    refine jaf ((false, 0, [], 0) : Bool × Nat × List Int × Int) (fun s => s.2.2.1.length = s.2.1 ∧ Dg 1000000000 s.2.2.1 ∧ (0 ≤ s.2.2.2 ∧ s.2.2.2 ≤ 1) ∧ val 1000000000 s.2.2.1 + s.2.2.2 * ((1000000000 : Nat) : Int) ^ s.2.1 = val 1000000000 ((ys).take s.2.1) + val 1000000000 ((xs).take s.2.1) ∧ s.2.1 ≤ (ys).length ∧ (s.1 = false → s.2.2.1 = [])) (fun s => (ys).length - s.2.1)
      (fun s => match s.1 with | false => [(22, .int .i64 s.2.1), (6, .int .u32 s.2.2.2), (5, .osl 19 0 0)] | true => [(22, .int .i64 s.2.1), (6, .int .u32 s.2.2.2), (5, .osl 47 0 s.2.2.1.length)]) (fun s => match s.1 with | false => [(19, .arr .u32 [])] | true => [(47, .arr .u32 s.2.2.1), (19, .gone)]) ?_ ?_ ?_
    · exact V.wk
    · exact ⟨rfl, fun x hx => by simp at hx, by simp, by simp [val], jit _, fun _ => rfl⟩
    rintro ⟨_ | _, k, out, c⟩ ⟨h1, h2, h3, h4, h5, h6⟩
    · dsimp only at h1 h2 h3 h4 h5 h6 ⊢
      have h7 := h6 rfl
      clear h6
      subst h7
      have vx := jah 1000000000 ys k
      have vy := jah 1000000000 xs k
      have bx := jaj (by omega) hdx k
      have by' := jaj (by omega) hdy k
      have gy := jck (xs := xs) (k := k)
      generalize hx0 : (ys).getD k 0 = x at *
      generalize hy0 : (xs).getD k 0 = y at *
      refine V.r0 @jiA ?_
      refine V.br (fun hq => ?_) (fun hq => ?_)
      · rw [decide_eq_true_eq] at hq
        refine V.r0 (V.a2 @jiA hx0) ?_
        refine V.br (fun hy => ?_) (fun hy => ?_)
        · rw [decide_eq_true_eq] at hy
          refine V.r0 (V.a2 @jiA hy0) ?_
          refine V.br (fun hz => ?_) (fun hz => ?_)
          · rw [decide_eq_true_eq] at hz
            have hst := jat (B := 1000000000) (x := x) (y := y) (d := (x + c + y - 1000000000)) (c' := 1) h1 h4 (by omega)
            rw [← vx, ← vy] at hst
            have hdg : Dg 1000000000 (([] : List Int) ++ [(x + c + y - 1000000000)]) := jag h2 (jar (by omega))
            have hl2 : (([] : List Int) ++ [(x + c + y - 1000000000)]).length = k + 1 := by simp [h1]
            have hl3 : (([] : List Int)).length + (List.take 1 (List.drop 0 [(x + c + y - 1000000000)])).length = (([] : List Int) ++ [(x + c + y - 1000000000)]).length := by simp
            have hkc : ((k : Int) + 1) = ((k + 1 : Nat) : Int) := by omega
            refine V.r0 (V.a3 hl3 hkc @jiy) ?_
            try refine And.intro (fun _ => ⟨trivial, by omega⟩) ?_
            refine V.r0 (V.a3 hl3 hkc @jiy) ?_
            exact ⟨(true, k + 1, ([] : List Int) ++ [(x + c + y - 1000000000)], 1), ⟨hl2, hdg, by dsimp only; omega, hst, by dsimp only; omega, fun h => by cases h⟩, by dsimp only; omega, V.wk⟩
          · rw [decide_eq_false_iff_not] at hz
            have hst := jat (B := 1000000000) (x := x) (y := y) (d := (x + c + y)) (c' := 0) h1 h4 (by omega)
            rw [← vx, ← vy] at hst
            have hdg : Dg 1000000000 (([] : List Int) ++ [(x + c + y)]) := jag h2 (jar (by omega))
            have hl2 : (([] : List Int) ++ [(x + c + y)]).length = k + 1 := by simp [h1]
            have hl3 : (([] : List Int)).length + (List.take 1 (List.drop 0 [(x + c + y)])).length = (([] : List Int) ++ [(x + c + y)]).length := by simp
            have hkc : ((k : Int) + 1) = ((k + 1 : Nat) : Int) := by omega
            refine V.r0 (V.a3 hl3 hkc @jiy) ?_
            try refine And.intro (fun _ => ⟨trivial, by omega⟩) ?_
            refine V.r0 (V.a3 hl3 hkc @jiy) ?_
            exact ⟨(true, k + 1, ([] : List Int) ++ [(x + c + y)], 0), ⟨hl2, hdg, by dsimp only; omega, hst, by dsimp only; omega, fun h => by cases h⟩, by dsimp only; omega, V.wk⟩
        · rw [decide_eq_false_iff_not] at hy
          have := gy (by omega)
          refine V.r0 @jiA ?_
          refine V.br (fun hz => ?_) (fun hz => ?_)
          · rw [decide_eq_true_eq] at hz
            have hst := jat (B := 1000000000) (x := x) (y := y) (d := (x + c - 1000000000)) (c' := 1) h1 h4 (by omega)
            rw [← vx, ← vy] at hst
            have hdg : Dg 1000000000 (([] : List Int) ++ [(x + c - 1000000000)]) := jag h2 (jar (by omega))
            have hl2 : (([] : List Int) ++ [(x + c - 1000000000)]).length = k + 1 := by simp [h1]
            have hl3 : (([] : List Int)).length + (List.take 1 (List.drop 0 [(x + c - 1000000000)])).length = (([] : List Int) ++ [(x + c - 1000000000)]).length := by simp
            have hkc : ((k : Int) + 1) = ((k + 1 : Nat) : Int) := by omega
            refine V.r0 (V.a3 hl3 hkc @jiy) ?_
            try refine And.intro (fun _ => ⟨trivial, by omega⟩) ?_
            refine V.r0 (V.a3 hl3 hkc @jiy) ?_
            exact ⟨(true, k + 1, ([] : List Int) ++ [(x + c - 1000000000)], 1), ⟨hl2, hdg, by dsimp only; omega, hst, by dsimp only; omega, fun h => by cases h⟩, by dsimp only; omega, V.wk⟩
          · rw [decide_eq_false_iff_not] at hz
            have hst := jat (B := 1000000000) (x := x) (y := y) (d := (x + c)) (c' := 0) h1 h4 (by omega)
            rw [← vx, ← vy] at hst
            have hdg : Dg 1000000000 (([] : List Int) ++ [(x + c)]) := jag h2 (jar (by omega))
            have hl2 : (([] : List Int) ++ [(x + c)]).length = k + 1 := by simp [h1]
            have hl3 : (([] : List Int)).length + (List.take 1 (List.drop 0 [(x + c)])).length = (([] : List Int) ++ [(x + c)]).length := by simp
            have hkc : ((k : Int) + 1) = ((k + 1 : Nat) : Int) := by omega
            refine V.r0 (V.a3 hl3 hkc @jiy) ?_
            try refine And.intro (fun _ => ⟨trivial, by omega⟩) ?_
            refine V.r0 (V.a3 hl3 hkc @jiy) ?_
            exact ⟨(true, k + 1, ([] : List Int) ++ [(x + c)], 0), ⟨hl2, hdg, by dsimp only; omega, hst, by dsimp only; omega, fun h => by cases h⟩, by dsimp only; omega, V.wk⟩
      · rw [decide_eq_false_iff_not] at hq
        have h7 : k = 0 := by simpa using h1.symm
        have h8 : (ys).length = 0 := by omega
        have e2 := hey.mp (ji4.mp h8)
        have e3 := hex.mp (ji4.mp (by omega))
        have e4 : c = 0 := by
          rw [jjl (by omega), jjl (by omega), hvy, hvx, e2, e3, h7] at h4
          simpa [val] using h4
        subst e4 h7
        rw [e2, e3]
        (conv => whnf)
        refine V.st ?_
        exact Fin.of rfl
    · clear h6
      dsimp only at h1 h2 h3 h4 h5 ⊢
      have vx := jah 1000000000 ys k
      have vy := jah 1000000000 xs k
      have bx := jaj (by omega) hdx k
      have by' := jaj (by omega) hdy k
      have gy := jck (xs := xs) (k := k)
      generalize hx0 : (ys).getD k 0 = x at *
      generalize hy0 : (xs).getD k 0 = y at *
      refine V.r0 @jiA ?_
      refine V.br (fun hq => ?_) (fun hq => ?_)
      · rw [decide_eq_true_eq] at hq
        refine V.r0 (V.a2 @jiA hx0) ?_
        refine V.br (fun hy => ?_) (fun hy => ?_)
        · rw [decide_eq_true_eq] at hy
          refine V.r0 (V.a2 @jiA hy0) ?_
          refine V.br (fun hz => ?_) (fun hz => ?_)
          · rw [decide_eq_true_eq] at hz
            have hst := jat (B := 1000000000) (x := x) (y := y) (d := (x + c + y - 1000000000)) (c' := 1) h1 h4 (by omega)
            rw [← vx, ← vy] at hst
            have hdg : Dg 1000000000 (out ++ [(x + c + y - 1000000000)]) := jag h2 (jar (by omega))
            have hl2 : (out ++ [(x + c + y - 1000000000)]).length = k + 1 := by simp [h1]
            have hl3 : (out).length + (List.take 1 (List.drop 0 [(x + c + y - 1000000000)])).length = (out ++ [(x + c + y - 1000000000)]).length := by simp
            have hkc : ((k : Int) + 1) = ((k + 1 : Nat) : Int) := by omega
            refine V.r0 (V.a3 hl3 hkc @jiy) ?_
            try refine And.intro (fun _ => ⟨trivial, by omega⟩) ?_
            refine V.r0 (V.a3 hl3 hkc @jiy) ?_
            exact ⟨(true, k + 1, out ++ [(x + c + y - 1000000000)], 1), ⟨hl2, hdg, by dsimp only; omega, hst, by dsimp only; omega, fun h => by cases h⟩, by dsimp only; omega, V.wk⟩
          · rw [decide_eq_false_iff_not] at hz
            have hst := jat (B := 1000000000) (x := x) (y := y) (d := (x + c + y)) (c' := 0) h1 h4 (by omega)
            rw [← vx, ← vy] at hst
            have hdg : Dg 1000000000 (out ++ [(x + c + y)]) := jag h2 (jar (by omega))
            have hl2 : (out ++ [(x + c + y)]).length = k + 1 := by simp [h1]
            have hl3 : (out).length + (List.take 1 (List.drop 0 [(x + c + y)])).length = (out ++ [(x + c + y)]).length := by simp
            have hkc : ((k : Int) + 1) = ((k + 1 : Nat) : Int) := by omega
            refine V.r0 (V.a3 hl3 hkc @jiy) ?_
            try refine And.intro (fun _ => ⟨trivial, by omega⟩) ?_
            refine V.r0 (V.a3 hl3 hkc @jiy) ?_
            exact ⟨(true, k + 1, out ++ [(x + c + y)], 0), ⟨hl2, hdg, by dsimp only; omega, hst, by dsimp only; omega, fun h => by cases h⟩, by dsimp only; omega, V.wk⟩
        · rw [decide_eq_false_iff_not] at hy
          have := gy (by omega)
          refine V.r0 @jiA ?_
          refine V.br (fun hz => ?_) (fun hz => ?_)
          · rw [decide_eq_true_eq] at hz
            have hst := jat (B := 1000000000) (x := x) (y := y) (d := (x + c - 1000000000)) (c' := 1) h1 h4 (by omega)
            rw [← vx, ← vy] at hst
            have hdg : Dg 1000000000 (out ++ [(x + c - 1000000000)]) := jag h2 (jar (by omega))
            have hl2 : (out ++ [(x + c - 1000000000)]).length = k + 1 := by simp [h1]
            have hl3 : (out).length + (List.take 1 (List.drop 0 [(x + c - 1000000000)])).length = (out ++ [(x + c - 1000000000)]).length := by simp
            have hkc : ((k : Int) + 1) = ((k + 1 : Nat) : Int) := by omega
            refine V.r0 (V.a3 hl3 hkc @jiy) ?_
            try refine And.intro (fun _ => ⟨trivial, by omega⟩) ?_
            refine V.r0 (V.a3 hl3 hkc @jiy) ?_
            exact ⟨(true, k + 1, out ++ [(x + c - 1000000000)], 1), ⟨hl2, hdg, by dsimp only; omega, hst, by dsimp only; omega, fun h => by cases h⟩, by dsimp only; omega, V.wk⟩
          · rw [decide_eq_false_iff_not] at hz
            have hst := jat (B := 1000000000) (x := x) (y := y) (d := (x + c)) (c' := 0) h1 h4 (by omega)
            rw [← vx, ← vy] at hst
            have hdg : Dg 1000000000 (out ++ [(x + c)]) := jag h2 (jar (by omega))
            have hl2 : (out ++ [(x + c)]).length = k + 1 := by simp [h1]
            have hl3 : (out).length + (List.take 1 (List.drop 0 [(x + c)])).length = (out ++ [(x + c)]).length := by simp
            have hkc : ((k : Int) + 1) = ((k + 1 : Nat) : Int) := by omega
            refine V.r0 (V.a3 hl3 hkc @jiy) ?_
            try refine And.intro (fun _ => ⟨trivial, by omega⟩) ?_
            refine V.r0 (V.a3 hl3 hkc @jiy) ?_
            exact ⟨(true, k + 1, out ++ [(x + c)], 0), ⟨hl2, hdg, by dsimp only; omega, hst, by dsimp only; omega, fun h => by cases h⟩, by dsimp only; omega, V.wk⟩
      · rw [decide_eq_false_iff_not] at hq
        have hk : k = (ys).length := by omega
        rw [jjl (by omega), jjl (by omega), hvy, hvx] at h4
        (conv => whnf)
        refine V.st ?_
        refine V.br (fun hc => ?_) (fun hc => ?_)
        · rw [decide_eq_true_eq] at hc
          have hc1 : c = 1 := by omega
          subst hc1
          have h8 : out ++ [1] = mg 1000000000 (b + a) := by
            have h9 : val 1000000000 (out ++ [1]) = ((b + a : Nat) : Int) := by rw [jaV, h1]; omega
            have h10 := jdA (B := 1000000000) (l := out ++ [1]) (by omega) (jag h2 (jar (by omega))) (by
              rw [jaV, ji8, List.length_singleton, Nat.add_sub_cancel]
              have := jak h2
              omega)
            rw [h10, h9]; rfl
          (conv => whnf)
          refine V.st ?_
          exact Fin.of (by rw [← h8]; exact congrArg _ (jjl (by simp)))
        · rw [decide_eq_false_iff_not] at hc
          have hc1 : c = 0 := by omega
          subst hc1
          have h8 : out = mg 1000000000 (b + a) := by
            have h9 : val 1000000000 out = ((b + a : Nat) : Int) := by omega
            rcases jiE b with h0 | h0
            · have h10 : (ys).length = 0 := by rw [hey.mpr h0]; rfl
              have e3 := hex.mp (ji4.mp (by omega))
              rw [h0, e3, ji4.mp (by omega : out.length = 0)]; rfl
            · have h10 := jdA (B := 1000000000) (l := out) (by omega) h2 (by
                have h11 := hpy h0
                rw [h1, h9, hk]
                have h12 : ((1000000000 ^ ((ys).length - 1) : Nat) : Int) ≤ (b : Int) := by exact_mod_cast h11
                rw [jiU] at h12
                omega)
              rw [h10, h9]; rfl
          (conv => whnf)
          refine V.st ?_
          exact Fin.of (by rw [← h8, jjl (by simp)])
  · rw [decide_eq_false_iff_not] at hl
    obtain ⟨N, hN⟩ : ∃ N, N = xs.length + 1 := ⟨_, rfl⟩
    have e1 : (xs.length : Int) + 1 = (N : Int) := by omega
    (conv => whnf)
    (try simp only [e1, jiA])
    repeat ((first | refine V.s1 ?_); (try simp only [e1, jiA]))
    refine jaf ((false, 0, [], 0) : Bool × Nat × List Int × Int) (fun s => s.2.2.1.length = s.2.1 ∧ Dg 1000000000 s.2.2.1 ∧ (0 ≤ s.2.2.2 ∧ s.2.2.2 ≤ 1) ∧ val 1000000000 s.2.2.1 + s.2.2.2 * ((1000000000 : Nat) : Int) ^ s.2.1 = val 1000000000 ((xs).take s.2.1) + val 1000000000 ((ys).take s.2.1) ∧ s.2.1 ≤ (xs).length ∧ (s.1 = false → s.2.2.1 = [])) (fun s => (xs).length - s.2.1)
      (fun s => match s.1 with | false => [(22, .int .i64 s.2.1), (6, .int .u32 s.2.2.2), (5, .osl 19 0 0)] | true => [(22, .int .i64 s.2.1), (6, .int .u32 s.2.2.2), (5, .osl 47 0 s.2.2.1.length)]) (fun s => match s.1 with | false => [(19, .arr .u32 [])] | true => [(47, .arr .u32 s.2.2.1), (19, .gone)]) ?_ ?_ ?_
    · exact V.wk
    · exact ⟨rfl, fun x hx => by simp at hx, by simp, by simp [val], jit _, fun _ => rfl⟩
    rintro ⟨_ | _, k, out, c⟩ ⟨h1, h2, h3, h4, h5, h6⟩
    · dsimp only at h1 h2 h3 h4 h5 h6 ⊢
      have h7 := h6 rfl
      clear h6
      subst h7
      have vx := jah 1000000000 xs k
      have vy := jah 1000000000 ys k
      have bx := jaj (by omega) hdx k
      have by' := jaj (by omega) hdy k
      have gy := jck (xs := ys) (k := k)
      generalize hx0 : (xs).getD k 0 = x at *
      generalize hy0 : (ys).getD k 0 = y at *
      refine V.r0 @jiA ?_
      refine V.br (fun hq => ?_) (fun hq => ?_)
      · rw [decide_eq_true_eq] at hq
        refine V.r0 (V.a2 @jiA hx0) ?_
        refine V.br (fun hy => ?_) (fun hy => ?_)
        · rw [decide_eq_true_eq] at hy
          refine V.r0 (V.a2 @jiA hy0) ?_
          refine V.br (fun hz => ?_) (fun hz => ?_)
          · rw [decide_eq_true_eq] at hz
            have hst := jat (B := 1000000000) (x := x) (y := y) (d := (x + c + y - 1000000000)) (c' := 1) h1 h4 (by omega)
            rw [← vx, ← vy] at hst
            have hdg : Dg 1000000000 (([] : List Int) ++ [(x + c + y - 1000000000)]) := jag h2 (jar (by omega))
            have hl2 : (([] : List Int) ++ [(x + c + y - 1000000000)]).length = k + 1 := by simp [h1]
            have hl3 : (([] : List Int)).length + (List.take 1 (List.drop 0 [(x + c + y - 1000000000)])).length = (([] : List Int) ++ [(x + c + y - 1000000000)]).length := by simp
            have hkc : ((k : Int) + 1) = ((k + 1 : Nat) : Int) := by omega
            refine V.r0 (V.a3 hl3 hkc @jiy) ?_
            try refine And.intro (fun _ => ⟨trivial, by omega⟩) ?_
            refine V.r0 (V.a3 hl3 hkc @jiy) ?_
            exact ⟨(true, k + 1, ([] : List Int) ++ [(x + c + y - 1000000000)], 1), ⟨hl2, hdg, by dsimp only; omega, hst, by dsimp only; omega, fun h => by cases h⟩, by dsimp only; omega, V.wk⟩
          · rw [decide_eq_false_iff_not] at hz
            have hst := jat (B := 1000000000) (x := x) (y := y) (d := (x + c + y)) (c' := 0) h1 h4 (by omega)
            rw [← vx, ← vy] at hst
            have hdg : Dg 1000000000 (([] : List Int) ++ [(x + c + y)]) := jag h2 (jar (by omega))
            have hl2 : (([] : List Int) ++ [(x + c + y)]).length = k + 1 := by simp [h1]
            have hl3 : (([] : List Int)).length + (List.take 1 (List.drop 0 [(x + c + y)])).length = (([] : List Int) ++ [(x + c + y)]).length := by simp
            have hkc : ((k : Int) + 1) = ((k + 1 : Nat) : Int) := by omega
            refine V.r0 (V.a3 hl3 hkc @jiy) ?_
            try refine And.intro (fun _ => ⟨trivial, by omega⟩) ?_
            refine V.r0 (V.a3 hl3 hkc @jiy) ?_
            exact ⟨(true, k + 1, ([] : List Int) ++ [(x + c + y)], 0), ⟨hl2, hdg, by dsimp only; omega, hst, by dsimp only; omega, fun h => by cases h⟩, by dsimp only; omega, V.wk⟩
        · rw [decide_eq_false_iff_not] at hy
          have := gy (by omega)
          refine V.r0 @jiA ?_
          refine V.br (fun hz => ?_) (fun hz => ?_)
          · rw [decide_eq_true_eq] at hz
            have hst := jat (B := 1000000000) (x := x) (y := y) (d := (x + c - 1000000000)) (c' := 1) h1 h4 (by omega)
            rw [← vx, ← vy] at hst
            have hdg : Dg 1000000000 (([] : List Int) ++ [(x + c - 1000000000)]) := jag h2 (jar (by omega))
            have hl2 : (([] : List Int) ++ [(x + c - 1000000000)]).length = k + 1 := by simp [h1]
            have hl3 : (([] : List Int)).length + (List.take 1 (List.drop 0 [(x + c - 1000000000)])).length = (([] : List Int) ++ [(x + c - 1000000000)]).length := by simp
            have hkc : ((k : Int) + 1) = ((k + 1 : Nat) : Int) := by omega
            refine V.r0 (V.a3 hl3 hkc @jiy) ?_
            try refine And.intro (fun _ => ⟨trivial, by omega⟩) ?_
            refine V.r0 (V.a3 hl3 hkc @jiy) ?_
            exact ⟨(true, k + 1, ([] : List Int) ++ [(x + c - 1000000000)], 1), ⟨hl2, hdg, by dsimp only; omega, hst, by dsimp only; omega, fun h => by cases h⟩, by dsimp only; omega, V.wk⟩
          · rw [decide_eq_false_iff_not] at hz
            have hst := jat (B := 1000000000) (x := x) (y := y) (d := (x + c)) (c' := 0) h1 h4 (by omega)
            rw [← vx, ← vy] at hst
            have hdg : Dg 1000000000 (([] : List Int) ++ [(x + c)]) := jag h2 (jar (by omega))
            have hl2 : (([] : List Int) ++ [(x + c)]).length = k + 1 := by simp [h1]
            have hl3 : (([] : List Int)).length + (List.take 1 (List.drop 0 [(x + c)])).length = (([] : List Int) ++ [(x + c)]).length := by simp
            have hkc : ((k : Int) + 1) = ((k + 1 : Nat) : Int) := by omega
            refine V.r0 (V.a3 hl3 hkc @jiy) ?_
            try refine And.intro (fun _ => ⟨trivial, by omega⟩) ?_
            refine V.r0 (V.a3 hl3 hkc @jiy) ?_
            exact ⟨(true, k + 1, ([] : List Int) ++ [(x + c)], 0), ⟨hl2, hdg, by dsimp only; omega, hst, by dsimp only; omega, fun h => by cases h⟩, by dsimp only; omega, V.wk⟩
      · rw [decide_eq_false_iff_not] at hq
        have h7 : k = 0 := by simpa using h1.symm
        have h8 : (xs).length = 0 := by omega
        have e2 := hex.mp (ji4.mp h8)
        have e3 := hey.mp (ji4.mp (by omega))
        have e4 : c = 0 := by
          rw [jjl (by omega), jjl (by omega), hvx, hvy, e2, e3, h7] at h4
          simpa [val] using h4
        subst e4 h7
        rw [e2, e3]
        (conv => whnf)
        refine V.st ?_
        exact Fin.of rfl
    · clear h6
      dsimp only at h1 h2 h3 h4 h5 ⊢
      have vx := jah 1000000000 xs k
      have vy := jah 1000000000 ys k
      have bx := jaj (by omega) hdx k
      have by' := jaj (by omega) hdy k
      have gy := jck (xs := ys) (k := k)
      generalize hx0 : (xs).getD k 0 = x at *
      generalize hy0 : (ys).getD k 0 = y at *
      refine V.r0 @jiA ?_
      refine V.br (fun hq => ?_) (fun hq => ?_)
      · rw [decide_eq_true_eq] at hq
        refine V.r0 (V.a2 @jiA hx0) ?_
        refine V.br (fun hy => ?_) (fun hy => ?_)
        · rw [decide_eq_true_eq] at hy
          refine V.r0 (V.a2 @jiA hy0) ?_
          refine V.br (fun hz => ?_) (fun hz => ?_)
          · rw [decide_eq_true_eq] at hz
            have hst := jat (B := 1000000000) (x := x) (y := y) (d := (x + c + y - 1000000000)) (c' := 1) h1 h4 (by omega)
            rw [← vx, ← vy] at hst
            have hdg : Dg 1000000000 (out ++ [(x + c + y - 1000000000)]) := jag h2 (jar (by omega))
            have hl2 : (out ++ [(x + c + y - 1000000000)]).length = k + 1 := by simp [h1]
            have hl3 : (out).length + (List.take 1 (List.drop 0 [(x + c + y - 1000000000)])).length = (out ++ [(x + c + y - 1000000000)]).length := by simp
            have hkc : ((k : Int) + 1) = ((k + 1 : Nat) : Int) := by omega
            refine V.r0 (V.a3 hl3 hkc @jiy) ?_
            try refine And.intro (fun _ => ⟨trivial, by omega⟩) ?_
            refine V.r0 (V.a3 hl3 hkc @jiy) ?_
            exact ⟨(true, k + 1, out ++ [(x + c + y - 1000000000)], 1), ⟨hl2, hdg, by dsimp only; omega, hst, by dsimp only; omega, fun h => by cases h⟩, by dsimp only; omega, V.wk⟩
          · rw [decide_eq_false_iff_not] at hz
            have hst := jat (B := 1000000000) (x := x) (y := y) (d := (x + c + y)) (c' := 0) h1 h4 (by omega)
            rw [← vx, ← vy] at hst
            have hdg : Dg 1000000000 (out ++ [(x + c + y)]) := jag h2 (jar (by omega))
            have hl2 : (out ++ [(x + c + y)]).length = k + 1 := by simp [h1]
            have hl3 : (out).length + (List.take 1 (List.drop 0 [(x + c + y)])).length = (out ++ [(x + c + y)]).length := by simp
            have hkc : ((k : Int) + 1) = ((k + 1 : Nat) : Int) := by omega
            refine V.r0 (V.a3 hl3 hkc @jiy) ?_
            try refine And.intro (fun _ => ⟨trivial, by omega⟩) ?_
            refine V.r0 (V.a3 hl3 hkc @jiy) ?_
            exact ⟨(true, k + 1, out ++ [(x + c + y)], 0), ⟨hl2, hdg, by dsimp only; omega, hst, by dsimp only; omega, fun h => by cases h⟩, by dsimp only; omega, V.wk⟩
        · rw [decide_eq_false_iff_not] at hy
          have := gy (by omega)
          refine V.r0 @jiA ?_
          refine V.br (fun hz => ?_) (fun hz => ?_)
          · rw [decide_eq_true_eq] at hz
            have hst := jat (B := 1000000000) (x := x) (y := y) (d := (x + c - 1000000000)) (c' := 1) h1 h4 (by omega)
            rw [← vx, ← vy] at hst
            have hdg : Dg 1000000000 (out ++ [(x + c - 1000000000)]) := jag h2 (jar (by omega))
            have hl2 : (out ++ [(x + c - 1000000000)]).length = k + 1 := by simp [h1]
            have hl3 : (out).length + (List.take 1 (List.drop 0 [(x + c - 1000000000)])).length = (out ++ [(x + c - 1000000000)]).length := by simp
            have hkc : ((k : Int) + 1) = ((k + 1 : Nat) : Int) := by omega
            refine V.r0 (V.a3 hl3 hkc @jiy) ?_
            try refine And.intro (fun _ => ⟨trivial, by omega⟩) ?_
            refine V.r0 (V.a3 hl3 hkc @jiy) ?_
            exact ⟨(true, k + 1, out ++ [(x + c - 1000000000)], 1), ⟨hl2, hdg, by dsimp only; omega, hst, by dsimp only; omega, fun h => by cases h⟩, by dsimp only; omega, V.wk⟩
          · rw [decide_eq_false_iff_not] at hz
            have hst := jat (B := 1000000000) (x := x) (y := y) (d := (x + c)) (c' := 0) h1 h4 (by omega)
            rw [← vx, ← vy] at hst
            have hdg : Dg 1000000000 (out ++ [(x + c)]) := jag h2 (jar (by omega))
            have hl2 : (out ++ [(x + c)]).length = k + 1 := by simp [h1]
            have hl3 : (out).length + (List.take 1 (List.drop 0 [(x + c)])).length = (out ++ [(x + c)]).length := by simp
            have hkc : ((k : Int) + 1) = ((k + 1 : Nat) : Int) := by omega
            refine V.r0 (V.a3 hl3 hkc @jiy) ?_
            try refine And.intro (fun _ => ⟨trivial, by omega⟩) ?_
            refine V.r0 (V.a3 hl3 hkc @jiy) ?_
            exact ⟨(true, k + 1, out ++ [(x + c)], 0), ⟨hl2, hdg, by dsimp only; omega, hst, by dsimp only; omega, fun h => by cases h⟩, by dsimp only; omega, V.wk⟩
      · rw [decide_eq_false_iff_not] at hq
        have hk : k = (xs).length := by omega
        rw [jjl (by omega), jjl (by omega), hvx, hvy] at h4
        (conv => whnf)
        refine V.st ?_
        refine V.br (fun hc => ?_) (fun hc => ?_)
        · rw [decide_eq_true_eq] at hc
          have hc1 : c = 1 := by omega
          subst hc1
          have h8 : out ++ [1] = mg 1000000000 (a + b) := by
            have h9 : val 1000000000 (out ++ [1]) = ((a + b : Nat) : Int) := by rw [jaV, h1]; omega
            have h10 := jdA (B := 1000000000) (l := out ++ [1]) (by omega) (jag h2 (jar (by omega))) (by
              rw [jaV, ji8, List.length_singleton, Nat.add_sub_cancel]
              have := jak h2
              omega)
            rw [h10, h9]; rfl
          (conv => whnf)
          refine V.st ?_
          exact Fin.of (by rw [← h8]; exact congrArg _ (jjl (by simp)))
        · rw [decide_eq_false_iff_not] at hc
          have hc1 : c = 0 := by omega
          subst hc1
          have h8 : out = mg 1000000000 (a + b) := by
            have h9 : val 1000000000 out = ((a + b : Nat) : Int) := by omega
            rcases jiE a with h0 | h0
            · have h10 : (xs).length = 0 := by rw [hex.mpr h0]; rfl
              have e3 := hey.mp (ji4.mp (by omega))
              rw [h0, e3, ji4.mp (by omega : out.length = 0)]; rfl
            · have h10 := jdA (B := 1000000000) (l := out) (by omega) h2 (by
                have h11 := hpx h0
                rw [h1, h9, hk]
                have h12 : ((1000000000 ^ ((xs).length - 1) : Nat) : Int) ≤ (a : Int) := by exact_mod_cast h11
                rw [jiU] at h12
                omega)
              rw [h10, h9]; rfl
          (conv => whnf)
          refine V.st ?_
          exact Fin.of (by rw [← h8, jjl (by simp)])
theorem jgf {out:List Int}{n k:Nat}{d:Int}(h:out.length=k)(hk:k<n):(out++List.replicate (n-k) 0).set k d=(out++[d])++List.replicate (n-(k+1)) 0:=by
 subst h
 have e:n-out.length=(n-(out.length+1))+1:=by omega
 rw[e,List.replicate_succ,List.set_append_right _ _ (jiB _),Nat.sub_self,List.set_cons_zero]
 simp
theorem jin:type_of% @jiA∧type_of% @jiy:=⟨@jiA,@jiy⟩
theorem minus_m (a b:Nat)(hba:b≤a)(ha:(mg 1000000000 a).length≤100000000):Cl 245 [.ints .u32 (mg 1000000000 a),.ints .u32 (mg 1000000000 b)] (.ints .u32 (mg 1000000000 (a-b))):=by
 have hdx:=mg_dg (B:=1000000000) (by omega) a
 have hdy:=mg_dg (B:=1000000000) (by omega) b
 have hvx:=jay (B:=1000000000) (by omega) a
 have hvy:=jay (B:=1000000000) (by omega) b
 have hlen:=jae (B:=1000000000) (by omega) hba
 generalize mg 1000000000 a=xs at *
 generalize mg 1000000000 b=ys at *
 refine V.en tbOk Tryz.func245 ?_
 refine V.r0 @jiA ?_
 refine jaf ((0,[],0):Nat×List Int×Int) (fun s=>s.2.1.length=s.1∧Dg 1000000000 s.2.1∧(0≤s.2.2∧s.2.2≤1)∧val 1000000000 s.2.1-s.2.2*((1000000000:Nat):Int)^s.1=val 1000000000 (xs.take s.1)-val 1000000000 (ys.take s.1)∧s.1≤xs.length) (fun s=>xs.length-s.1)
  (fun s=>[(15,.int .i64 s.1),(6,.int .u32 s.2.2),(5,.osl 12 0 xs.length)]) (fun s=>[(12,.arr .u32 (s.2.1++List.replicate (xs.length-s.1) 0))]) ?_ ?_ ?_
 ·exact V.wk
 ·exact⟨rfl,fun x hx=>by simp at hx,by simp,by simp[val],jit _⟩
 rintro⟨k,out,c⟩ ⟨h1,h2,h3,h4,h5⟩
 dsimp only at h1 h2 h3 h4 h5 ⊢
 have vx:=jah 1000000000 xs k
 have vy:=jah 1000000000 ys k
 have bx:=jaj (by omega) hdx k
 have by':=jaj (by omega) hdy k
 have gy:=jck (xs:=ys) (k:=k)
 generalize hx0:xs.getD k 0=x at *
 generalize hy0:ys.getD k 0=y at *
 refine V.r0 @jiA ?_
 refine V.br (fun hq=>?_) (fun hq=>?_)
 ·rw[decide_eq_true_eq] at hq
  refine V.r0 (V.a2 @jiA hx0) ?_
  refine V.br (fun hy=>?_) (fun hy=>?_)
  ·rw[decide_eq_true_eq] at hy
   refine V.r0 (V.a2 @jiA hy0) ?_
   refine V.br (fun hz=>?_) (fun hz=>?_)
   ·rw[decide_eq_true_eq] at hz
    have hst:=jca (B:=1000000000) (x:=x) (y:=y) (d:=(x+1000000000-(c+y))) (b':=1) h1 h4 (by omega)
    rw[← vx,← vy] at hst
    have hdg:Dg 1000000000 (out++[(x+1000000000-(c+y))]):=jag h2 (jar (by omega))
    have hps:=jgf (d:=(x+1000000000-(c+y))) (n:=xs.length) h1 (by omega)
    have hkc:((k:Int)+1)=((k+1:Nat):Int):=by omega
    refine V.r0 (V.a3 jin hps hkc) ?_
    refine V.r0 (V.a3 jin hps hkc) ?_
    exact⟨(k+1,out++[(x+1000000000-(c+y))],1),⟨by dsimp only;simp[h1],hdg,by dsimp only;omega,hst,by dsimp only;omega⟩,by dsimp only;omega,V.wk⟩
   ·rw[decide_eq_false_iff_not] at hz
    have hst:=jca (B:=1000000000) (x:=x) (y:=y) (d:=(x-(c+y))) (b':=0) h1 h4 (by omega)
    rw[← vx,← vy] at hst
    have hdg:Dg 1000000000 (out++[(x-(c+y))]):=jag h2 (jar (by omega))
    have hps:=jgf (d:=(x-(c+y))) (n:=xs.length) h1 (by omega)
    have hkc:((k:Int)+1)=((k+1:Nat):Int):=by omega
    refine V.r0 (V.a3 jin hps hkc) ?_
    refine V.r0 (V.a3 jin hps hkc) ?_
    exact⟨(k+1,out++[(x-(c+y))],0),⟨by dsimp only;simp[h1],hdg,by dsimp only;omega,hst,by dsimp only;omega⟩,by dsimp only;omega,V.wk⟩
  ·rw[decide_eq_false_iff_not] at hy
   have:=gy (by omega)
   refine V.r0 @jiA ?_
   refine V.br (fun hz=>?_) (fun hz=>?_)
   ·rw[decide_eq_true_eq] at hz
    have hst:=jca (B:=1000000000) (x:=x) (y:=y) (d:=(x+1000000000-c)) (b':=1) h1 h4 (by omega)
    rw[← vx,← vy] at hst
    have hdg:Dg 1000000000 (out++[(x+1000000000-c)]):=jag h2 (jar (by omega))
    have hps:=jgf (d:=(x+1000000000-c)) (n:=xs.length) h1 (by omega)
    have hkc:((k:Int)+1)=((k+1:Nat):Int):=by omega
    refine V.r0 (V.a3 jin hps hkc) ?_
    refine V.r0 (V.a3 jin hps hkc) ?_
    exact⟨(k+1,out++[(x+1000000000-c)],1),⟨by dsimp only;simp[h1],hdg,by dsimp only;omega,hst,by dsimp only;omega⟩,by dsimp only;omega,V.wk⟩
   ·rw[decide_eq_false_iff_not] at hz
    have hst:=jca (B:=1000000000) (x:=x) (y:=y) (d:=(x-c)) (b':=0) h1 h4 (by omega)
    rw[← vx,← vy] at hst
    have hdg:Dg 1000000000 (out++[(x-c)]):=jag h2 (jar (by omega))
    have hps:=jgf (d:=(x-c)) (n:=xs.length) h1 (by omega)
    have hkc:((k:Int)+1)=((k+1:Nat):Int):=by omega
    refine V.r0 (V.a3 jin hps hkc) ?_
    refine V.r0 (V.a3 jin hps hkc) ?_
    exact⟨(k+1,out++[(x-c)],0),⟨by dsimp only;simp[h1],hdg,by dsimp only;omega,hst,by dsimp only;omega⟩,by dsimp only;omega,V.wk⟩
 ·rw[decide_eq_false_iff_not] at hq
  have hk:k=xs.length:=by omega
  rw[jjl (by omega),jjl (by omega),hvx,hvy] at h4
  have h0:=jak h2
  have h6:=jcm h2
  have hc:c=0:=by
   rw[h1] at h6
   rcases (by omega:c=0∨c=1) with e|e
   ·exact e
   ·subst e;omega
  subst hc
  have htr:=jfv out h2 (by omega)
  rw[(by omega:(val 1000000000 out).toNat=a-b)] at htr
  have hrep:out++List.replicate (xs.length-k) 0=out:=by rw[hk,Nat.sub_self];simp
  rw[hrep]
  rw[← jjs (l:=out),h1,hk] at htr
  (conv=>whnf)
  refine V.st ?_
  repeat ((try ((with_reducible refine .ext ?_);(conv=>whnf)));(with_reducible refine jaa (r:=?_) ?_ ?_);rotate_left;(focus (first|exact(htr)));(conv=>whnf);refine V.st ?_)
  exact Fin.of rfl
theorem jeN (x y:Rat):(x.num*y.den + -(y.num*x.den)).sign=(if x<y then -1 else if x=y then 0 else 1:Int):=by
 have h1:x<y↔x.num*y.den<y.num*x.den:=Rat.lt_iff x y
 have h2:x=y↔x.num*y.den=y.num*x.den:=by
  conv=>lhs;rw[← jiZ x,← jiZ y]
  exact Rat.divInt_eq_divInt_iff (by have:=x.den_pos;omega) (by have:=y.den_pos;omega)
 by_cases a1:x<y
 ·rw[if_pos a1];exact jiX (by have:=h1.1 a1;omega)
 ·rw[if_neg a1]
  by_cases a2:x=y
  ·rw[if_pos a2,show x.num*y.den + -(y.num*x.den)=0 by have:=h2.1 a2;omega];rfl
  ·rw[if_neg a2]
   refine jiY ?_
   have b1:¬ (x.num*y.den<y.num*x.den):=fun h=>a1 (h1.2 h)
   have b2:¬ (x.num*y.den=y.num*x.den):=fun h=>a2 (h2.2 h)
   omega
def ordQ (x y:Rat):Int:=if x<y then -1 else if x=y then 0 else 1
end Go.Proofs.YtpkdedncgclblaaGreatDoor
end
