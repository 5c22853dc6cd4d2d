/- What functions of the program answer at given values, part 9. Conditions: those that each theorem names. -/
import Derived.Test.YtbnghipgicmpdaaGreatDoorSimplexRefinesH8
import Derived.Test.YtbnghipgicmpdaaGreatDoorSimplexRefinesH6
import Derived.Test.YtbnghipgicmpdaaGreatDoorSimplexRefinesH4
set_option linter.unusedSimpArgs false
set_option linter.unusedVariables false
set_option maxHeartbeats 8000000
set_option maxRecDepth 100000
section
namespace Go.Proofs.YtbnghipgicmpdaaGreatDoor
open Go Go.V Go.Nb
def clQ (x:Rat):Rat:=if 1<(if x<0 then 0 else x) then 1 else (if x<0 then 0 else x)
theorem clQ_bd (x:Rat):0≤clQ x∧clQ x≤1:=by
 unfold clQ
 have h01:(0:Rat)≤1:=by decide
 by_cases h:x<0
 ·rw[if_pos h]
  by_cases g:(1:Rat)<0
  ·rw[if_pos g];exact⟨h01,Rat.le_refl⟩
  ·rw[if_neg g];exact⟨Rat.le_refl,h01⟩
 ·rw[if_neg h]
  by_cases g:1<x
  ·rw[if_pos g];exact⟨h01,Rat.le_refl⟩
  ·rw[if_neg g];exact⟨Rat.not_lt.1 h,Rat.not_lt.1 g⟩
def gp (s:Int)(x:Rat):Rat:=clQ x*((s-1:Int):Rat)
def spB (s:Int)(x:Rat):Int:=min (gp s x).floor (s-2)
def spR (s:Int)(x:Rat):Rat:=gp s x-((spB s x:Int):Rat)
def evF (s0 s1 s2:Int)(v:Int→Int→Int→Rat)(x0 x1 x2:Rat):Rat:=
 evL v (spB s0 x0,spB s1 x1,spB s2 x2) (spR s0 x0) (spR s1 x1) (spR s2 x2) (ord3 (spR s0 x0) (spR s1 x1) (spR s2 x2))
theorem gp_bd {s:Int}(hs:2≤s)(x:Rat):0≤gp s x∧gp s x≤((s-1:Int):Rat):=by
 have h:=clQ_bd x
 have h1:(0:Rat)≤((s-1:Int):Rat):=by exact_mod_cast (show (0:Int)≤s-1 by omega)
 unfold gp
 refine⟨Rat.mul_nonneg h.1 h1,?_⟩
 have:=Rat.mul_nonneg (show 0≤1-clQ x by grind) h1
 grind
theorem np_pos {N:Nat}(hN:0<N):(0:Rat)<((N:Int):Rat):=by exact_mod_cast (show (0:Int)<N by omega)
theorem P_bd {N:Nat}{s P:Int}{x:Rat}(hN:0<N)(hs:2≤s)(hP:(P:Rat)=((N:Int):Rat)*gp s x):0≤P∧P≤(s-1)*N:=by
 have h:=gp_bd hs x
 have hn:=np_pos hN
 constructor
 ·have:=Rat.mul_nonneg (Rat.le_of_lt hn) h.1
  rw[← hP] at this
  exact_mod_cast this
 ·have:=Rat.mul_nonneg (Rat.le_of_lt hn) (show 0≤((s-1:Int):Rat)-gp s x by grind)
  have e:(P:Rat)≤(((s-1)*N:Int):Rat):=by
   rw[jjD]
   grind
  exact_mod_cast e
theorem ev_lv {N:Nat}{s0 s1 s2 P Q R:Int}{x0 x1 x2:Rat}(hN:0<N)(hs:2≤s0∧2≤s1∧2≤s2)(h0:(P:Rat)=((N:Int):Rat)*gp s0 x0)(h1:(Q:Rat)=((N:Int):Rat)*gp s1 x1)(h2:(R:Rat)=((N:Int):Rat)*gp s2 x2)(v:Int→Int→Int→Rat) :
  ((N:Int):Rat)*evF s0 s1 s2 v x0 x1 x2=lvF v N P Q R:=by
 have b0:=P_bd hN hs.1 h0
 have b1:=P_bd hN hs.2.1 h1
 have b2:=P_bd hN hs.2.2 h2
 obtain⟨A0,a0,e0,r0,_⟩:=at_N hN h0 b0.1 b0.2 hs.1
 obtain⟨A1,a1,e1,r1,_⟩:=at_N hN h1 b1.1 b1.2 hs.2.1
 obtain⟨A2,a2,e2,r2,_⟩:=at_N hN h2 b2.1 b2.2 hs.2.2
 have m:=ev_main (b0:=spB s0 x0) (b1:=spB s1 x1) (b2:=spB s2 x2) hN a0 a1 a2 v
 unfold evF spR
 have f0:gp s0 x0-((spB s0 x0:Int):Rat)=((A0:Int):Rat)/((N:Int):Rat):=r0
 have f1:gp s1 x1-((spB s1 x1:Int):Rat)=((A1:Int):Rat)/((N:Int):Rat):=r1
 have f2:gp s2 x2-((spB s2 x2:Int):Rat)=((A2:Int):Rat)/((N:Int):Rat):=r2
 rw[f0,f1,f2,m]
 have g0:P=spB s0 x0*N+A0:=e0
 have g1:Q=spB s1 x1*N+A1:=e1
 have g2:R=spB s2 x2*N+A2:=e2
 rw[← g0,← g1,← g2]
theorem com_den:∀ l:List Rat, ∃ N:Nat,0<N ∧ ∀ p∈l, ∃ P:Int,(P:Rat)=((N:Int):Rat)*p
 | []=>⟨1,by decide,fun p hp=>by cases hp⟩
 | q::l=>by
  obtain⟨N,hN,h⟩:=com_den l
  refine⟨N*q.den,Nat.mul_pos hN q.den_pos,fun p hp=>?_⟩
  rcases jjH.1 hp with e|e
  ·subst e
   refine⟨N*p.num,?_⟩
   have hd:((p.den:Int):Rat)*p=((p.num:Int):Rat):=by
    have h1:=jjC p
    have hz:=jd0 p.den_pos
    rw[Rat.divInt_eq_div] at h1
    have:p=((p.num:Int):Rat)/((p.den:Int):Rat):=h1.symm
    conv=>lhs;rhs;rw[this]
    rw[Rat.mul_comm,Rat.div_mul_cancel hz]
   rw[jjD,jjm,jjD,Rat.mul_assoc,hd]
  ·obtain⟨P,hP⟩:=h p e
   refine⟨q.den*P,?_⟩
   rw[jjD,hP,jjm,jjD]
   grind
theorem com3 (a b c:Rat):∃ (N:Nat) (P Q R:Int),0<N∧(P:Rat)=((N:Int):Rat)*a∧(Q:Rat)=((N:Int):Rat)*b∧(R:Rat)=((N:Int):Rat)*c:=by
 obtain⟨N,hN,h⟩:=com_den [a,b,c]
 obtain⟨P,hP⟩:=h a (by simp)
 obtain⟨Q,hQ⟩:=h b (by simp)
 obtain⟨R,hR⟩:=h c (by simp)
 exact⟨N,P,Q,R,hN,hP,hQ,hR⟩
theorem cancle {N:Nat}(hN:0<N){a b:Rat}(h:((N:Int):Rat)*a≤((N:Int):Rat)*b):a≤b:=by
 rcases (Rat.le_total:a≤b∨b≤a) with g|g
 ·exact g
 ·by_cases e:a=b
  ·rw[e];exact Rat.le_refl
  ·exfalso
   have hlt:b<a:=Rat.lt_of_le_of_ne g fun h=>e h.symm
   have:=Rat.mul_pos (np_pos hN) (show 0<a-b by grind)
   grind
theorem ev_bd {s0 s1 s2:Int}(hs:2≤s0∧2≤s1∧2≤s2){v:Int→Int→Int→Rat}{m M:Rat}(h:∀ i j k:Int,0≤i∧i≤s0-1→0≤j∧j≤s1-1→0≤k∧k≤s2-1→m≤v i j k∧v i j k≤M)(x0 x1 x2:Rat):m≤evF s0 s1 s2 v x0 x1 x2∧evF s0 s1 s2 v x0 x1 x2≤M:=by
 obtain⟨N,P,Q,R,hN,hP,hQ,hR⟩:=com3 (gp s0 x0) (gp s1 x1) (gp s2 x2)
 have b0:=P_bd hN hs.1 hP
 have b1:=P_bd hN hs.2.1 hQ
 have b2:=P_bd hN hs.2.2 hR
 have key:∀ i j k:Int,(∃ t:Nat,t<N∧i=(P-1-t)/N+1∧j=(Q-1-t)/N+1∧k=(R-1-t)/N+1)→m≤v i j k∧v i j k≤M:=fun i j k hh=>by
  obtain⟨t,ht,rfl,rfl,rfl⟩:=hh
  exact h _ _ _ (lvl_in hN ht b0.1 b0.2) (lvl_in hN ht b1.1 b1.2) (lvl_in hN ht b2.1 b2.2)
 constructor
 ·refine cancle hN ?_
  rw[ev_lv hN hs hP hQ hR,← lv_const m N P Q R]
  exact lv_le fun i j k hh=>(key i j k hh).1
 ·refine cancle hN ?_
  rw[ev_lv hN hs hP hQ hR,← lv_const M N P Q R]
  exact lv_le fun i j k hh=>(key i j k hh).2
theorem jeq {n m:Int}(hn : -9223372036854775807≤n∧n≤9223372036854775807)(hm:1≤m∧m≤9223372036854775807):Cl 51 [.int .i64 n,.int .i64 m] (frT (Rat.divInt n m)):=by
 have c:=y_of hn hm
 unfold frT at *
 generalize Rat.divInt n m=q at *
 refine V.en tbOk Tryz.func51 ?_
 refine V.u1 c ?_
 exact Fin.of rfl
theorem int_q (n:Int):Rat.divInt n 1=(n:Rat):=by rw[Rat.divInt_eq_div];grind
theorem jat {n:Int}(hn : -9223372036854775807≤n∧n≤9223372036854775807):Cl 88 [.int .i64 n] (frT (n:Rat)):=by
 have c:=jeq (n:=n) (m:=1) hn (by omega)
 rw[int_q] at c
 unfold frT at *
 generalize (n:Rat)=q at *
 refine V.en tbOk Tryz.func88 ?_
 refine V.u1 c ?_
 exact Fin.of rfl
theorem q9_of {n:Nat}{q:Rat}(h:Fq n q)(h0:0<n∧n≤600):Q9 20000000 q:=by
 obtain⟨h1,e1⟩:=jaD (h.ok h0.1 h0.2)
 have:=qsize h1
 rw[e1] at this
 exact this
theorem rd_q {n:Nat}{q:Rat}(h:Fq n q)(h0:0<n∧n≤600):Cl 115 [frT q] (.tup [rtD q,.bool true]):=by
 obtain⟨h1,e1⟩:=jaD (h.ok h0.1 h0.2)
 have r1:=jby _ _ h1
 rw[e1] at r1
 exact r1
theorem fq_cl {n:Nat}{q:Rat}(h:Fq n q)(h0:0<n):Fq n (clQ q):=by
 have z:Fq n 0:=(show Fq 1 0 from ⟨by decide,by decide⟩).mono h0
 have o:Fq n 1:=y_one.mono h0
 unfold clQ
 by_cases h1:q<0
 ·rw[if_pos h1]
  split
  ·exact o
  ·exact z
 ·rw[if_neg h1]
  split
  ·exact o
  ·exact h
theorem fclamp_c {n:Nat}{q:Rat}(h:Fq n q)(h0:0<n∧n≤600):Cl 179 [frT q,frT 0,frT 1] (.tup [frT (clQ q),.int .i64 0]):=by
 have fz:Fq 1 0:=⟨by decide,by decide⟩
 have r0:=rd_q h h0
 have r1:=rd_q fz (by omega)
 have r2:=rd_q y_one (by omega)
 have q0:=q9_of h h0
 have q1:=q9_of fz (by omega)
 have q2:=q9_of y_one (by omega)
 have od:=jgC 0 1 (q1.1.mono (by omega)) (q2.1.mono (by omega)) (by have:=q1.2;omega) (by have:=q2.2;omega)
 have e:ordQ 0 1 = -1:=by decide +kernel
 rw[e] at od
 have g:=greater_c q 0 q0 q1
 have q3:Q9 20000000 (if q<0 then 0 else q):=by
  split
  ·exact q1
  ·exact q0
 have l:=lesser_c (if q<0 then 0 else q) 1 q3 q2
 have fc:=fq_cl h h0.1
 have ec:(if 1<(if q<0 then 0 else q) then 1 else (if q<0 then 0 else q))=clQ q:=rfl
 rw[ec] at l
 have qc:=q9_of fc h0
 have w:=jd7 (clQ q) (by have:=qc.1;unfold S9 at this;omega) (by have:=qc.2;omega)
 rw[jc1 (fc.ok h0.1 h0.2)] at w
 clear h fc ec e q0 q1 q2 q3 qc fz
 generalize clQ q=c at *
 generalize (if q<0 then 0 else q)=u at *
 generalize (0:Rat)=zz at *
 generalize (1:Rat)=oo at *
 unfold frT rtD at *
 refine V.en tbOk Tryz.func179 ?_
 refine V.r4 @ji8 r0 r1 r2 od ?_
 refine⟨(V.tk [0,1,3] (V.e1 2 [3] (V.e1 4 [] (V.e1 5 [] (V.tk [6,7] (V.e1 8 [] (V.tk [9] .done))))))),[],V.pok,?_⟩
 refine jab [(7,.int .i64 0)] [(6,.box [.str (decZ c.num),.str (dec c.den)])] ?_ ?_
 ·exact V.d3 @ji8 g l w
 refine V.r0 @ji8 ?_
 exact Fin.of rfl
theorem ffloor_c {n:Nat}{q:Rat}(h:Fq n q)(h0:0<n∧n≤600):Cl 180 [frT q] (.tup [.str (decZ q.floor),.int .i64 0]):=by
 have r0:=rd_q h h0
 have q0:=q9_of h h0
 have f:=floor_c q.num q.den q.den_pos (q0.1.mono (by omega)) (by have:=q0.2;omega)
 rw[← Rat.floor_def] at f
 have hl:S9 20000000 q.floor:=by
  rw[Rat.floor_def]
  refine q0.1.le ?_
  exact Int.natAbs_ediv_le_natAbs _ _
 unfold S9 at hl
 have t:=jh2 q.floor (by omega)
 generalize q.floor=z at *
 unfold frT at *
 unfold rtD at r0
 unfold itD at f t
 refine V.en tbOk Tryz.func180 ?_
 refine V.r3 @ji8 r0 f t ?_
 exact Fin.of rfl
theorem atoi_dig:∀ z:Int,0≤z→z≤9→Go.Lib.atoi (decZ z)=some z:=fun z h0 h1=>by
 have key:∀ n∈List.range 10,Go.Lib.atoi (decZ ((n:Nat):Int))=some ((n:Nat):Int):=by decide +kernel
 obtain⟨n,rfl⟩:∃ n:Nat,z=(n:Int):=⟨z.toNat,by omega⟩
 exact key n (List.mem_range.2 (by omega))
theorem atoi_len:∀ z:Int,0≤z→z≤9→(decZ z).length≤18:=fun z h0 h1=>by
 have key:∀ n∈List.range 10,(decZ ((n:Nat):Int)).length≤18:=by decide +kernel
 obtain⟨n,rfl⟩:∃ n:Nat,z=(n:Int):=⟨z.toNat,by omega⟩
 exact key n (List.mem_range.2 (by omega))
theorem atoi_c {z:Int}(h0:0≤z)(h1:z≤9):Cl 181 [.str (decZ z)] (.tup [.int .i64 z,.val .nilIface]):=by
 refine ja5 Tryz.func181 rfl rfl rfl fun w hp vs ha hd=>?_
 simp only[DenL,Den] at hd
 obtain⟨v,_,rfl,⟨rfl,h2⟩,rfl⟩:=hd
 refine(Tryz.strconv_Atoi ⟨(decZ z).toArray⟩ z (by have:=atoi_len z h0 h1;simpa [ByteArray.size] using this) (by simpa using atoi_dig z h0 h1) w).mono fun e w' ⟨he,t,hw⟩=>⟨⟨_,he,fun hp=>?_⟩,?_⟩
 ·simp only[Den,DenL]
  exact⟨_,rfl,_,_,rfl,⟨rfl,by simp only[InR,V.lo,V.hi];omega⟩,_,_,rfl,rfl,rfl⟩
 ·rw[hw]
  exact Go.Lib.bytesWorld_below w _ _
theorem floor_bd {p:Rat}{m:Int}(h0:0≤p)(h1:p≤(m:Rat)):0≤p.floor∧p.floor≤m:=by
 constructor
 ·exact Rat.le_floor_iff.2 (by exact_mod_cast h0)
 ·have:p<((m+1:Int):Rat):=by
   rw[Rat.intCast_add]
   have:(0:Rat)<((1:Int):Rat):=by decide
   grind
  have:=Rat.floor_lt_iff.2 this
  omega
theorem jb2 {s:Int}(hs:2≤s)(x:Rat):0≤spB s x∧spB s x≤s-2:=by
 have h:=gp_bd hs x
 have:=floor_bd h.1 h.2
 unfold spB
 omega
theorem split_t (a b z0 z1 o0 o1 c0 c1 s0 s1 p0 p1 i0 i1 r0 r1:List UInt8)(f:List UInt8)(s fl:Int)(hs:2≤s∧s≤9)(hf:0≤fl∧fl≤9)(iz:Cl 88 [.int .i64 0] (.agg [.str z0,.str z1]))(io:Cl 88 [.int .i64 1] (.agg [.str o0,.str o1]))
  (cl:Cl 179 [.agg [.str a,.str b],.agg [.str z0,.str z1],.agg [.str o0,.str o1]] (.tup [.agg [.str c0,.str c1],.int .i64 0])) (is:Cl 88 [.int .i64 (s-1)] (.agg [.str s0,.str s1]))
  (mu:Cl 87 [.agg [.str c0,.str c1],.agg [.str s0,.str s1]] (.tup [.agg [.str p0,.str p1],.int .i64 0])) (fo:Cl 180 [.agg [.str p0,.str p1]] (.tup [.str f,.int .i64 0]))
  (at':Cl 181 [.str f] (.tup [.int .i64 fl,.val .nilIface])) (ib:Cl 88 [.int .i64 (min fl (s-2))] (.agg [.str i0,.str i1])) (sb:Cl 104 [.agg [.str p0,.str p1],.agg [.str i0,.str i1]] (.tup [.agg [.str r0,.str r1],.int .i64 0])) :
  Cl 132 [.agg [.str a,.str b],.int .i64 s] (.tup [.int .i64 (min fl (s-2)),.agg [.str r0,.str r1],.int .i64 0]):=by
 refine V.en tbOk Tryz.func132 ?_
 refine V.r0 @ji8 ?_
 refine⟨(V.tk [0] (V.e1 1 [0] (V.e1 2 [0] (V.e1 3 [] (V.tk [4,5,6] (V.e1 7 [6] (V.tk [8] .done))))))),[],V.pok,?_⟩
 refine jab [(6,.int .i64 0)] [(2,.box [.str c0,.str c1])] ?_ ?_
 ·exact V.d3 @ji8 iz io cl
 refine V.r0 @ji8 ?_
 refine⟨(V.tk [0,1,2] (.ev (.cons 3 [0] (.ev (.cons 4 [] (V.tk [5,6,7] (V.e1 8 [7,6,5] (V.e1 9 [7] (V.tk [10] .done)))) (.cons 8 [0] (V.e1 4 [] (V.tk [5,6,7] (V.e1 9 [7] (V.tk [10] .done)))) .nil))) (.cons 8 [2,1,0] (V.e1 3 [0] (V.e1 4 [] (V.tk [5,6,7] (V.e1 9 [7] (V.tk [10] .done))))) .nil)))),[],V.pok,?_⟩
 refine jab [(7,.box 7 0),(6,.int .i64 0)] [(7,.box [.str p0,.str p1])] ?_ ?_
 ·exact V.d2 @ji8 is mu
 refine V.r2 @ji8 fo at' ?_
 refine⟨(V.tk [0,1] (V.e1 2 [0] (V.e1 3 [] (V.tk [4,5,6] (V.e1 7 [6] (V.tk [8] .done)))))),[],V.pok,?_⟩
 refine jab [(6,.int .i64 0)] [(5,.box [.str r0,.str r1])] ?_ ?_
 ·exact V.d2 @ji8 ib sb
 refine V.r0 @ji8 ?_
 refine⟨(V.tk [0,1,2] (V.e1 3 [2,1] (V.e1 4 [2] (V.e1 5 [] .done)))),[],V.pok,?_⟩
 refine jab [(4,.int .i64 (min fl (s-2))),(6,.int .i64 0)] [(5,.box [.str r0,.str r1])] ?_ ?_
 ·exact V.d0 @ji8
 refine V.r0 @ji8 ?_
 exact Fin.of rfl
theorem jaB {n:Nat}{z:Int}(h:z.natAbs<10^n)(h0:0<n):Fq n (z:Rat):=by
 have:=jbd (n:=n) (x:=z) (d:=1) (by omega) h (Nat.one_lt_pow (by omega) (by decide))
 rw[show (((1:Nat):Int))=1 from rfl,int_q] at this
 exact this
theorem jd8 {n:Nat}{x:Rat}{s:Int}(h:Fq n x)(h0:0<n∧n≤500)(hs:2≤s∧s≤9):Cl 132 [frT x,.int .i64 s] (.tup [.int .i64 (spB s x),frT (spR s x),.int .i64 0]):=by
 have h6:0<n∧n≤600:=by omega
 have fc:=fq_cl h h0.1
 have iz:=jat (n:=0) (by omega)
 have io:=jat (n:=1) (by omega)
 rw[show ((0:Int):Rat)=0 from rfl] at iz
 rw[show ((1:Int):Rat)=1 from rfl] at io
 have is:=jat (n:=s-1) (by omega)
 have fs:Fq 1 ((s-1:Int):Rat):=jaB (by omega) (by omega)
 have mu:=zmul fc fs h0.1 (by omega) (by omega)
 have gb:=gp_bd hs.1 x
 have fb:0≤(clQ x*((s-1:Int):Rat)).floor∧(clQ x*((s-1:Int):Rat)).floor≤s-1:=floor_bd gb.1 gb.2
 have fb2:0≤(gp s x).floor∧(gp s x).floor≤s-1:=fb
 have fo:=ffloor_c (fc.mul fs) (by omega)
 have bb:=jb2 hs.1 x
 have ib:=jat (n:=spB s x) (by omega)
 have fi:Fq 1 ((spB s x:Int):Rat):=jaB (by omega) (by omega)
 have sb:=zsub (fc.mul fs) fi (by omega) (by omega) (by omega)
 exact split_t _ _ _ _ _ _ _ _ _ _ _ _ _ _ _ _ _ s _ hs ⟨fb.1,by omega⟩ iz io (fclamp_c h h6) is mu fo (atoi_c fb.1 (by omega)) ib sb
end Go.Proofs.YtbnghipgicmpdaaGreatDoor
end
section
namespace Go.Proofs.YtbnghipgicmpdaaGreatDoor
theorem k0:((0:Nat):Int)=0:=rfl
theorem k1:((1:Nat):Int)=1:=rfl
theorem k2:((2:Nat):Int)=2:=rfl
theorem k3:((3:Nat):Int)=3:=rfl
theorem tn0:(0:Int).toNat=0:=rfl
theorem tn1:(1:Int).toNat=1:=rfl
theorem tn2:(2:Int).toNat=2:=rfl
theorem tn3:(3:Int).toNat=3:=rfl
end Go.Proofs.YtbnghipgicmpdaaGreatDoor
end
section
namespace Go.Proofs.YtbnghipgicmpdaaGreatDoor
open Go Go.V Go.Nb
def preZ (k:Nat)(l:List Int):List Int:=l.take k++List.replicate (l.length-k) 0
def insJ (w:Int→Int→Int):Nat→List Int→List Int
 | 0,xs=>xs
 | j+1,xs=>if w (xs.getD (j+1) 0) (xs.getD j 0)<0 then insJ w j ((xs.set (j+1) (xs.getD j 0)).set j (xs.getD (j+1) 0)) else xs
def isoK (w:Int→Int→Int)(xs:List Int):Nat→List Int
 | 0=>xs
 | i+1=>insJ w (i+1) (isoK w xs i)
def Bel (n:Nat)(xs:List Int):Prop:=xs.length=n ∧ ∀ i,i<n→0≤xs.getD i 0∧xs.getD i 0<n
theorem jdX (xs:List Int)(i k:Nat)(v:Int)(h:i<xs.length):(xs.set i v).getD k 0=if k=i then v else xs.getD k 0:=by
 rw[jjF,List.getElem?_set]
 by_cases e:i=k
 ·rw[if_pos e,if_pos h,if_pos e.symm]
  rfl
 ·rw[if_neg e,if_neg (fun h=>e h.symm),jjF]
theorem jeN {n:Nat}{xs:List Int}{j:Nat}(h:Bel n xs)(hj:j+1<n):Bel n ((xs.set (j+1) (xs.getD j 0)).set j (xs.getD (j+1) 0)):=by
 refine⟨by rw[jj3,jj3];exact h.1,fun i hi=>?_⟩
 rw[jdX _ _ _ _ (by rw[jj3,h.1];omega)]
 by_cases e:i=j
 ·rw[if_pos e];exact h.2 _ hj
 ·rw[if_neg e,jdX _ _ _ _ (by rw[h.1];omega)]
  by_cases e2:i=j+1
  ·rw[if_pos e2];exact h.2 _ (by omega)
  ·rw[if_neg e2];exact h.2 _ hi
theorem bel_ins (w:Int→Int→Int){n:Nat} : ∀ (j:Nat) {xs:List Int},j<n→Bel n xs→Bel n (insJ w j xs)
 | 0,_,_,h=>h
 | j+1,xs,hj,h=>by
  simp only[insJ]
  split
  ·exact bel_ins w j (by omega) (jeN h hj)
  ·exact h
theorem jgS (w:Int→Int→Int){n:Nat}{xs:List Int}(h:Bel n xs):∀ i,i<n→Bel n (isoK w xs i)
 | 0,_=>h
 | i+1,hi=>bel_ins w (i+1) hi (jgS w h i (by omega))
theorem tns (j:Nat):((j:Int)-1).toNat=j-1:=by omega
def wcl:Nat→D
 | 0 => .nil
 | k+1 => .bsl 62 0 (k+1) 2
def wce (W:Nat→Tx):Nat→List D
 | 0=>[]
 | k+1=>wce W k++[.str (W k).1,.str (W k).2]
def wch (W:Nat→Tx):Nat→Hp
 | 0=>[]
 | k+1=>[(62,.box (wce W (k+1)))]
def preD (k:Nat)(l:List D):List D:=l.take k++List.replicate (l.length-k) (.str [])
theorem xk4:((4:Nat):Int)=4:=rfl
theorem xt4:(4:Int).toNat=4:=rfl
theorem jik:type_of% @ji8∧type_of% @tn0∧type_of% @tn1∧type_of% @tn2∧type_of% @tn3∧type_of% @xt4:=⟨@ji8,@tn0,@tn1,@tn2,@tn3,@xt4⟩
theorem jhU {F e0 n0 e1 n1:Nat}{f0 f1:Nat→List D}{z:Int}(T:Nat→Tx)(c0:Cl F (.int .i64 0::[.ref [.slf e0 n0 f0],.ref [.slf e1 n1 f1]]) (.tup [.agg [.str (T 0).1,.str (T 0).2],.int .i64 0])) :
  Cl 84 [.int .i64 1,.fn F [] [.ref [.slf e0 n0 f0],.ref [.slf e1 n1 f1]]] (.tup [V.sl2 1 [.str (T 0).1,.str (T 0).2],.int .i64 0]):=by
 refine V.en tbOk Tryz.func84 ?_
 refine V.r0 @ji8 ?_
 refine jad (0) (fun k=>k≤1) (fun k=>1-k) (fun k=>[(14,.int .i64 k)]) (fun k=>[(11,.box (preD (2*k) [.str (T 0).1,.str (T 0).2]))]) ?_ ?_ ?_
 ·exact V.wk
 ·exact ji2 _
 intro k hk
 have hk4:k=0∨k=1:=by omega
 rcases hk4 with e|e
 all_goals subst e
 ·simp only[k0]
  refine V.r1 jik c0 ?_
  exact⟨1,by omega,by omega,V.wk⟩
 ·simp only[k1]
  refine V.r0 @ji8 ?_
  exact Fin.of rfl
theorem jhT {F e0 n0 e1 n1:Nat}{f0 f1:Nat→List D}{z:Int}(T:Nat→Tx)(c0:Cl F (.int .i64 0::[.ref [.slf e0 n0 f0],.ref [.slf e1 n1 f1]]) (.tup [.agg [.str (T 0).1,.str (T 0).2],.int .i64 0]))(c1:Cl F (.int .i64 1::[.ref [.slf e0 n0 f0],.ref [.slf e1 n1 f1]]) (.tup [.agg [.str (T 1).1,.str (T 1).2],.int .i64 0])) :
  Cl 84 [.int .i64 2,.fn F [] [.ref [.slf e0 n0 f0],.ref [.slf e1 n1 f1]]] (.tup [V.sl2 2 [.str (T 0).1,.str (T 0).2,.str (T 1).1,.str (T 1).2],.int .i64 0]):=by
 refine V.en tbOk Tryz.func84 ?_
 refine V.r0 @ji8 ?_
 refine jad (0) (fun k=>k≤2) (fun k=>2-k) (fun k=>[(14,.int .i64 k)]) (fun k=>[(11,.box (preD (2*k) [.str (T 0).1,.str (T 0).2,.str (T 1).1,.str (T 1).2]))]) ?_ ?_ ?_
 ·exact V.wk
 ·exact ji2 _
 intro k hk
 have hk4:k=0∨k=1∨k=2:=by omega
 rcases hk4 with e|e|e
 all_goals subst e
 ·simp only[k0]
  refine V.r1 jik c0 ?_
  exact⟨1,by omega,by omega,V.wk⟩
 ·simp only[k1]
  refine V.r1 jik c1 ?_
  exact⟨2,by omega,by omega,V.wk⟩
 ·simp only[k2]
  refine V.r0 @ji8 ?_
  exact Fin.of rfl
theorem list2_3 {F e0 n0 e1 n1:Nat}{f0 f1:Nat→List D}{z:Int}(T:Nat→Tx)(c0:Cl F (.int .i64 0::[.ref [.slf e0 n0 f0],.ref [.slf e1 n1 f1],.ref [.int .i64 z]]) (.tup [.agg [.str (T 0).1,.str (T 0).2],.int .i64 0]))(c1:Cl F (.int .i64 1::[.ref [.slf e0 n0 f0],.ref [.slf e1 n1 f1],.ref [.int .i64 z]]) (.tup [.agg [.str (T 1).1,.str (T 1).2],.int .i64 0])) :
  Cl 84 [.int .i64 2,.fn F [] [.ref [.slf e0 n0 f0],.ref [.slf e1 n1 f1],.ref [.int .i64 z]]] (.tup [V.sl2 2 [.str (T 0).1,.str (T 0).2,.str (T 1).1,.str (T 1).2],.int .i64 0]):=by
 refine V.en tbOk Tryz.func84 ?_
 refine V.r0 @ji8 ?_
 refine jad (0) (fun k=>k≤2) (fun k=>2-k) (fun k=>[(14,.int .i64 k)]) (fun k=>[(11,.box (preD (2*k) [.str (T 0).1,.str (T 0).2,.str (T 1).1,.str (T 1).2]))]) ?_ ?_ ?_
 ·exact V.wk
 ·exact ji2 _
 intro k hk
 have hk4:k=0∨k=1∨k=2:=by omega
 rcases hk4 with e|e|e
 all_goals subst e
 ·simp only[k0]
  refine V.r1 jik c0 ?_
  exact⟨1,by omega,by omega,V.wk⟩
 ·simp only[k1]
  refine V.r1 jik c1 ?_
  exact⟨2,by omega,by omega,V.wk⟩
 ·simp only[k2]
  refine V.r0 @ji8 ?_
  exact Fin.of rfl
theorem jhS {F e0 n0 e1 n1:Nat}{f0 f1:Nat→List D}{z:Int}(T:Nat→Tx)(c0:Cl F (.int .i64 0::[.ref [.slf e0 n0 f0],.ref [.slf e1 n1 f1]]) (.tup [.agg [.str (T 0).1,.str (T 0).2],.int .i64 0]))(c1:Cl F (.int .i64 1::[.ref [.slf e0 n0 f0],.ref [.slf e1 n1 f1]]) (.tup [.agg [.str (T 1).1,.str (T 1).2],.int .i64 0]))(c2:Cl F (.int .i64 2::[.ref [.slf e0 n0 f0],.ref [.slf e1 n1 f1]]) (.tup [.agg [.str (T 2).1,.str (T 2).2],.int .i64 0])) :
  Cl 84 [.int .i64 3,.fn F [] [.ref [.slf e0 n0 f0],.ref [.slf e1 n1 f1]]] (.tup [V.sl2 3 [.str (T 0).1,.str (T 0).2,.str (T 1).1,.str (T 1).2,.str (T 2).1,.str (T 2).2],.int .i64 0]):=by
 refine V.en tbOk Tryz.func84 ?_
 refine V.r0 @ji8 ?_
 refine jad (0) (fun k=>k≤3) (fun k=>3-k) (fun k=>[(14,.int .i64 k)]) (fun k=>[(11,.box (preD (2*k) [.str (T 0).1,.str (T 0).2,.str (T 1).1,.str (T 1).2,.str (T 2).1,.str (T 2).2]))]) ?_ ?_ ?_
 ·exact V.wk
 ·exact ji2 _
 intro k hk
 have hk4:k=0∨k=1∨k=2∨k=3:=by omega
 rcases hk4 with e|e|e|e
 all_goals subst e
 ·simp only[k0]
  refine V.r1 jik c0 ?_
  exact⟨1,by omega,by omega,V.wk⟩
 ·simp only[k1]
  refine V.r1 jik c1 ?_
  exact⟨2,by omega,by omega,V.wk⟩
 ·simp only[k2]
  refine V.r1 jik c2 ?_
  exact⟨3,by omega,by omega,V.wk⟩
 ·simp only[k3]
  refine V.r0 @ji8 ?_
  exact Fin.of rfl
theorem list3_3 {F e0 n0 e1 n1:Nat}{f0 f1:Nat→List D}{z:Int}(T:Nat→Tx)(c0:Cl F (.int .i64 0::[.ref [.slf e0 n0 f0],.ref [.slf e1 n1 f1],.ref [.int .i64 z]]) (.tup [.agg [.str (T 0).1,.str (T 0).2],.int .i64 0]))(c1:Cl F (.int .i64 1::[.ref [.slf e0 n0 f0],.ref [.slf e1 n1 f1],.ref [.int .i64 z]]) (.tup [.agg [.str (T 1).1,.str (T 1).2],.int .i64 0]))(c2:Cl F (.int .i64 2::[.ref [.slf e0 n0 f0],.ref [.slf e1 n1 f1],.ref [.int .i64 z]]) (.tup [.agg [.str (T 2).1,.str (T 2).2],.int .i64 0])) :
  Cl 84 [.int .i64 3,.fn F [] [.ref [.slf e0 n0 f0],.ref [.slf e1 n1 f1],.ref [.int .i64 z]]] (.tup [V.sl2 3 [.str (T 0).1,.str (T 0).2,.str (T 1).1,.str (T 1).2,.str (T 2).1,.str (T 2).2],.int .i64 0]):=by
 refine V.en tbOk Tryz.func84 ?_
 refine V.r0 @ji8 ?_
 refine jad (0) (fun k=>k≤3) (fun k=>3-k) (fun k=>[(14,.int .i64 k)]) (fun k=>[(11,.box (preD (2*k) [.str (T 0).1,.str (T 0).2,.str (T 1).1,.str (T 1).2,.str (T 2).1,.str (T 2).2]))]) ?_ ?_ ?_
 ·exact V.wk
 ·exact ji2 _
 intro k hk
 have hk4:k=0∨k=1∨k=2∨k=3:=by omega
 rcases hk4 with e|e|e|e
 all_goals subst e
 ·simp only[k0]
  refine V.r1 jik c0 ?_
  exact⟨1,by omega,by omega,V.wk⟩
 ·simp only[k1]
  refine V.r1 jik c1 ?_
  exact⟨2,by omega,by omega,V.wk⟩
 ·simp only[k2]
  refine V.r1 jik c2 ?_
  exact⟨3,by omega,by omega,V.wk⟩
 ·simp only[k3]
  refine V.r0 @ji8 ?_
  exact Fin.of rfl
theorem jhR {F e0 n0 e1 n1:Nat}{f0 f1:Nat→List D}{z:Int}(T:Nat→Tx)(c0:Cl F (.int .i64 0::[.ref [.slf e0 n0 f0],.ref [.slf e1 n1 f1]]) (.tup [.agg [.str (T 0).1,.str (T 0).2],.int .i64 0]))(c1:Cl F (.int .i64 1::[.ref [.slf e0 n0 f0],.ref [.slf e1 n1 f1]]) (.tup [.agg [.str (T 1).1,.str (T 1).2],.int .i64 0]))(c2:Cl F (.int .i64 2::[.ref [.slf e0 n0 f0],.ref [.slf e1 n1 f1]]) (.tup [.agg [.str (T 2).1,.str (T 2).2],.int .i64 0]))(c3:Cl F (.int .i64 3::[.ref [.slf e0 n0 f0],.ref [.slf e1 n1 f1]]) (.tup [.agg [.str (T 3).1,.str (T 3).2],.int .i64 0])) :
  Cl 84 [.int .i64 4,.fn F [] [.ref [.slf e0 n0 f0],.ref [.slf e1 n1 f1]]] (.tup [V.sl2 4 [.str (T 0).1,.str (T 0).2,.str (T 1).1,.str (T 1).2,.str (T 2).1,.str (T 2).2,.str (T 3).1,.str (T 3).2],.int .i64 0]):=by
 refine V.en tbOk Tryz.func84 ?_
 refine V.r0 @ji8 ?_
 refine jad (0) (fun k=>k≤4) (fun k=>4-k) (fun k=>[(14,.int .i64 k)]) (fun k=>[(11,.box (preD (2*k) [.str (T 0).1,.str (T 0).2,.str (T 1).1,.str (T 1).2,.str (T 2).1,.str (T 2).2,.str (T 3).1,.str (T 3).2]))]) ?_ ?_ ?_
 ·exact V.wk
 ·exact ji2 _
 intro k hk
 have hk4:k=0∨k=1∨k=2∨k=3∨k=4:=by omega
 rcases hk4 with e|e|e|e|e
 all_goals subst e
 ·simp only[k0]
  refine V.r1 jik c0 ?_
  exact⟨1,by omega,by omega,V.wk⟩
 ·simp only[k1]
  refine V.r1 jik c1 ?_
  exact⟨2,by omega,by omega,V.wk⟩
 ·simp only[k2]
  refine V.r1 jik c2 ?_
  exact⟨3,by omega,by omega,V.wk⟩
 ·simp only[k3]
  refine V.r1 jik c3 ?_
  exact⟨4,by omega,by omega,V.wk⟩
 ·simp only[xk4]
  refine V.r0 @ji8 ?_
  exact Fin.of rfl
theorem list4_3 {F e0 n0 e1 n1:Nat}{f0 f1:Nat→List D}{z:Int}(T:Nat→Tx)(c0:Cl F (.int .i64 0::[.ref [.slf e0 n0 f0],.ref [.slf e1 n1 f1],.ref [.int .i64 z]]) (.tup [.agg [.str (T 0).1,.str (T 0).2],.int .i64 0]))(c1:Cl F (.int .i64 1::[.ref [.slf e0 n0 f0],.ref [.slf e1 n1 f1],.ref [.int .i64 z]]) (.tup [.agg [.str (T 1).1,.str (T 1).2],.int .i64 0]))(c2:Cl F (.int .i64 2::[.ref [.slf e0 n0 f0],.ref [.slf e1 n1 f1],.ref [.int .i64 z]]) (.tup [.agg [.str (T 2).1,.str (T 2).2],.int .i64 0]))(c3:Cl F (.int .i64 3::[.ref [.slf e0 n0 f0],.ref [.slf e1 n1 f1],.ref [.int .i64 z]]) (.tup [.agg [.str (T 3).1,.str (T 3).2],.int .i64 0])) :
  Cl 84 [.int .i64 4,.fn F [] [.ref [.slf e0 n0 f0],.ref [.slf e1 n1 f1],.ref [.int .i64 z]]] (.tup [V.sl2 4 [.str (T 0).1,.str (T 0).2,.str (T 1).1,.str (T 1).2,.str (T 2).1,.str (T 2).2,.str (T 3).1,.str (T 3).2],.int .i64 0]):=by
 refine V.en tbOk Tryz.func84 ?_
 refine V.r0 @ji8 ?_
 refine jad (0) (fun k=>k≤4) (fun k=>4-k) (fun k=>[(14,.int .i64 k)]) (fun k=>[(11,.box (preD (2*k) [.str (T 0).1,.str (T 0).2,.str (T 1).1,.str (T 1).2,.str (T 2).1,.str (T 2).2,.str (T 3).1,.str (T 3).2]))]) ?_ ?_ ?_
 ·exact V.wk
 ·exact ji2 _
 intro k hk
 have hk4:k=0∨k=1∨k=2∨k=3∨k=4:=by omega
 rcases hk4 with e|e|e|e|e
 all_goals subst e
 ·simp only[k0]
  refine V.r1 jik c0 ?_
  exact⟨1,by omega,by omega,V.wk⟩
 ·simp only[k1]
  refine V.r1 jik c1 ?_
  exact⟨2,by omega,by omega,V.wk⟩
 ·simp only[k2]
  refine V.r1 jik c2 ?_
  exact⟨3,by omega,by omega,V.wk⟩
 ·simp only[k3]
  refine V.r1 jik c3 ?_
  exact⟨4,by omega,by omega,V.wk⟩
 ·simp only[xk4]
  refine V.r0 @ji8 ?_
  exact Fin.of rfl
theorem sum2 (P S:Nat→Tx)(h0:S 0=P 0)(c0:Cl 105 [.agg [.str (S 0).1,.str (S 0).2],.agg [.str (P 1).1,.str (P 1).2]] (.tup [.agg [.str (S 1).1,.str (S 1).2],.int .i64 0])) :
  Cl 89 [V.sl2 2 [.str (P 0).1,.str (P 0).2,.str (P 1).1,.str (P 1).2]] (.tup [.agg [.str (S 1).1,.str (S 1).2],.int .i64 0]):=by
 have h1:(S 0).1=(P 0).1∧(S 0).2=(P 0).2:=by rw[h0];exact⟨rfl,rfl⟩
 refine V.en tbOk Tryz.func89 ?_
 refine V.r0 jik ?_
 refine jad (0) (fun k=>k≤1) (fun k=>1-k) (fun k=>[(14,.int .i64 k)]) (fun k=>[(4,.box [.str (S k).1,.str (S k).2])]) ?_ ?_ ?_
 ·rw[h1.1,h1.2]
  exact V.wk
 ·exact ji2 _
 intro k hk
 have hk4:k=0∨k=1:=by omega
 rcases hk4 with e|e
 all_goals subst e
 ·simp only[k0]
  refine V.r1 jik c0 ?_
  exact⟨1,by omega,by omega,V.wk⟩
 ·simp only[k1]
  refine V.r0 @ji8 ?_
  exact Fin.of rfl
theorem sum3 (P S:Nat→Tx)(h0:S 0=P 0)(c0:Cl 105 [.agg [.str (S 0).1,.str (S 0).2],.agg [.str (P 1).1,.str (P 1).2]] (.tup [.agg [.str (S 1).1,.str (S 1).2],.int .i64 0]))(c1:Cl 105 [.agg [.str (S 1).1,.str (S 1).2],.agg [.str (P 2).1,.str (P 2).2]] (.tup [.agg [.str (S 2).1,.str (S 2).2],.int .i64 0])) :
  Cl 89 [V.sl2 3 [.str (P 0).1,.str (P 0).2,.str (P 1).1,.str (P 1).2,.str (P 2).1,.str (P 2).2]] (.tup [.agg [.str (S 2).1,.str (S 2).2],.int .i64 0]):=by
 have h1:(S 0).1=(P 0).1∧(S 0).2=(P 0).2:=by rw[h0];exact⟨rfl,rfl⟩
 refine V.en tbOk Tryz.func89 ?_
 refine V.r0 jik ?_
 refine jad (0) (fun k=>k≤2) (fun k=>2-k) (fun k=>[(14,.int .i64 k)]) (fun k=>[(4,.box [.str (S k).1,.str (S k).2])]) ?_ ?_ ?_
 ·rw[h1.1,h1.2]
  exact V.wk
 ·exact ji2 _
 intro k hk
 have hk4:k=0∨k=1∨k=2:=by omega
 rcases hk4 with e|e|e
 all_goals subst e
 ·simp only[k0]
  refine V.r1 jik c0 ?_
  exact⟨1,by omega,by omega,V.wk⟩
 ·simp only[k1]
  refine V.r1 jik c1 ?_
  exact⟨2,by omega,by omega,V.wk⟩
 ·simp only[k2]
  refine V.r0 @ji8 ?_
  exact Fin.of rfl
theorem sum4 (P S:Nat→Tx)(h0:S 0=P 0)(c0:Cl 105 [.agg [.str (S 0).1,.str (S 0).2],.agg [.str (P 1).1,.str (P 1).2]] (.tup [.agg [.str (S 1).1,.str (S 1).2],.int .i64 0]))(c1:Cl 105 [.agg [.str (S 1).1,.str (S 1).2],.agg [.str (P 2).1,.str (P 2).2]] (.tup [.agg [.str (S 2).1,.str (S 2).2],.int .i64 0]))(c2:Cl 105 [.agg [.str (S 2).1,.str (S 2).2],.agg [.str (P 3).1,.str (P 3).2]] (.tup [.agg [.str (S 3).1,.str (S 3).2],.int .i64 0])) :
  Cl 89 [V.sl2 4 [.str (P 0).1,.str (P 0).2,.str (P 1).1,.str (P 1).2,.str (P 2).1,.str (P 2).2,.str (P 3).1,.str (P 3).2]] (.tup [.agg [.str (S 3).1,.str (S 3).2],.int .i64 0]):=by
 have h1:(S 0).1=(P 0).1∧(S 0).2=(P 0).2:=by rw[h0];exact⟨rfl,rfl⟩
 refine V.en tbOk Tryz.func89 ?_
 refine V.r0 jik ?_
 refine jad (0) (fun k=>k≤3) (fun k=>3-k) (fun k=>[(14,.int .i64 k)]) (fun k=>[(4,.box [.str (S k).1,.str (S k).2])]) ?_ ?_ ?_
 ·rw[h1.1,h1.2]
  exact V.wk
 ·exact ji2 _
 intro k hk
 have hk4:k=0∨k=1∨k=2∨k=3:=by omega
 rcases hk4 with e|e|e|e
 all_goals subst e
 ·simp only[k0]
  refine V.r1 jik c0 ?_
  exact⟨1,by omega,by omega,V.wk⟩
 ·simp only[k1]
  refine V.r1 jik c1 ?_
  exact⟨2,by omega,by omega,V.wk⟩
 ·simp only[k2]
  refine V.r1 jik c2 ?_
  exact⟨3,by omega,by omega,V.wk⟩
 ·simp only[k3]
  refine V.r0 @ji8 ?_
  exact Fin.of rfl
theorem jiS:type_of% @jjb∧type_of% @ji8∧type_of% @tn0∧type_of% @tn1∧type_of% @tn2∧type_of% @tn3∧type_of% @xt4:=⟨@jjb,@ji8,@tn0,@tn1,@tn2,@tn3,@xt4⟩
theorem prod2_0 (W M:Nat→Tx)(U:Nat→List Int)(out:Nat)(g0 g1:List UInt8)(hl:out<(U 0).length)(ig:Cl 88 [.int .i64 ((U 0).getD out 0)] (.agg [.str g0,.str g1]))
  (mu:Cl 87 [.agg [.str (W 0).1,.str (W 0).2],.agg [.str g0,.str g1]] (.tup [.agg [.str (M 0).1,.str (M 0).2],.int .i64 0])) :
  Cl 86 [.int .i64 0,.ref [V.sl2 2 [.str (W 0).1,.str (W 0).2,.str (W 1).1,.str (W 1).2]],.ref [.slf 1 2 (fun j=>List.take 1 (List.drop (j*1) [.ints .i64 (U 0),.ints .i64 (U 1)]))],.ref [.int .i64 out]] (.tup [.agg [.str (M 0).1,.str (M 0).2],.int .i64 0]):=by
 have hi:(out:Int)<(U 0).length:=by omega
 refine V.en tbOk Tryz.func86 ?_
 refine V.r0 jik ?_
 refine⟨Pq15z,[],V.pok,?_⟩
 refine jab [(6,.int .i64 0)] [(5,.box [.str (M 0).1,.str (M 0).2])] ?_ ?_
 ·exact V.d2 jiS ig mu
 refine V.r0 @ji8 ?_
 exact Fin.of rfl
theorem prod2_1 (W M:Nat→Tx)(U:Nat→List Int)(out:Nat)(g0 g1:List UInt8)(hl:out<(U 1).length)(ig:Cl 88 [.int .i64 ((U 1).getD out 0)] (.agg [.str g0,.str g1]))
  (mu:Cl 87 [.agg [.str (W 1).1,.str (W 1).2],.agg [.str g0,.str g1]] (.tup [.agg [.str (M 1).1,.str (M 1).2],.int .i64 0])) :
  Cl 86 [.int .i64 1,.ref [V.sl2 2 [.str (W 0).1,.str (W 0).2,.str (W 1).1,.str (W 1).2]],.ref [.slf 1 2 (fun j=>List.take 1 (List.drop (j*1) [.ints .i64 (U 0),.ints .i64 (U 1)]))],.ref [.int .i64 out]] (.tup [.agg [.str (M 1).1,.str (M 1).2],.int .i64 0]):=by
 have hi:(out:Int)<(U 1).length:=by omega
 refine V.en tbOk Tryz.func86 ?_
 refine V.r0 jik ?_
 refine⟨Pq15z,[],V.pok,?_⟩
 refine jab [(6,.int .i64 0)] [(5,.box [.str (M 1).1,.str (M 1).2])] ?_ ?_
 ·exact V.d2 jiS ig mu
 refine V.r0 @ji8 ?_
 exact Fin.of rfl
theorem prod3_0 (W M:Nat→Tx)(U:Nat→List Int)(out:Nat)(g0 g1:List UInt8)(hl:out<(U 0).length)(ig:Cl 88 [.int .i64 ((U 0).getD out 0)] (.agg [.str g0,.str g1]))
  (mu:Cl 87 [.agg [.str (W 0).1,.str (W 0).2],.agg [.str g0,.str g1]] (.tup [.agg [.str (M 0).1,.str (M 0).2],.int .i64 0])) :
  Cl 86 [.int .i64 0,.ref [V.sl2 3 [.str (W 0).1,.str (W 0).2,.str (W 1).1,.str (W 1).2,.str (W 2).1,.str (W 2).2]],.ref [.slf 1 3 (fun j=>List.take 1 (List.drop (j*1) [.ints .i64 (U 0),.ints .i64 (U 1),.ints .i64 (U 2)]))],.ref [.int .i64 out]] (.tup [.agg [.str (M 0).1,.str (M 0).2],.int .i64 0]):=by
 have hi:(out:Int)<(U 0).length:=by omega
 refine V.en tbOk Tryz.func86 ?_
 refine V.r0 jik ?_
 refine⟨Pq15z,[],V.pok,?_⟩
 refine jab [(6,.int .i64 0)] [(5,.box [.str (M 0).1,.str (M 0).2])] ?_ ?_
 ·exact V.d2 jiS ig mu
 refine V.r0 @ji8 ?_
 exact Fin.of rfl
theorem prod3_1 (W M:Nat→Tx)(U:Nat→List Int)(out:Nat)(g0 g1:List UInt8)(hl:out<(U 1).length)(ig:Cl 88 [.int .i64 ((U 1).getD out 0)] (.agg [.str g0,.str g1]))
  (mu:Cl 87 [.agg [.str (W 1).1,.str (W 1).2],.agg [.str g0,.str g1]] (.tup [.agg [.str (M 1).1,.str (M 1).2],.int .i64 0])) :
  Cl 86 [.int .i64 1,.ref [V.sl2 3 [.str (W 0).1,.str (W 0).2,.str (W 1).1,.str (W 1).2,.str (W 2).1,.str (W 2).2]],.ref [.slf 1 3 (fun j=>List.take 1 (List.drop (j*1) [.ints .i64 (U 0),.ints .i64 (U 1),.ints .i64 (U 2)]))],.ref [.int .i64 out]] (.tup [.agg [.str (M 1).1,.str (M 1).2],.int .i64 0]):=by
 have hi:(out:Int)<(U 1).length:=by omega
 refine V.en tbOk Tryz.func86 ?_
 refine V.r0 jik ?_
 refine⟨Pq15z,[],V.pok,?_⟩
 refine jab [(6,.int .i64 0)] [(5,.box [.str (M 1).1,.str (M 1).2])] ?_ ?_
 ·exact V.d2 jiS ig mu
 refine V.r0 @ji8 ?_
 exact Fin.of rfl
theorem prod3_2 (W M:Nat→Tx)(U:Nat→List Int)(out:Nat)(g0 g1:List UInt8)(hl:out<(U 2).length)(ig:Cl 88 [.int .i64 ((U 2).getD out 0)] (.agg [.str g0,.str g1]))
  (mu:Cl 87 [.agg [.str (W 2).1,.str (W 2).2],.agg [.str g0,.str g1]] (.tup [.agg [.str (M 2).1,.str (M 2).2],.int .i64 0])) :
  Cl 86 [.int .i64 2,.ref [V.sl2 3 [.str (W 0).1,.str (W 0).2,.str (W 1).1,.str (W 1).2,.str (W 2).1,.str (W 2).2]],.ref [.slf 1 3 (fun j=>List.take 1 (List.drop (j*1) [.ints .i64 (U 0),.ints .i64 (U 1),.ints .i64 (U 2)]))],.ref [.int .i64 out]] (.tup [.agg [.str (M 2).1,.str (M 2).2],.int .i64 0]):=by
 have hi:(out:Int)<(U 2).length:=by omega
 refine V.en tbOk Tryz.func86 ?_
 refine V.r0 jik ?_
 refine⟨Pq15z,[],V.pok,?_⟩
 refine jab [(6,.int .i64 0)] [(5,.box [.str (M 2).1,.str (M 2).2])] ?_ ?_
 ·exact V.d2 jiS ig mu
 refine V.r0 @ji8 ?_
 exact Fin.of rfl
theorem prod4_0 (W M:Nat→Tx)(U:Nat→List Int)(out:Nat)(g0 g1:List UInt8)(hl:out<(U 0).length)(ig:Cl 88 [.int .i64 ((U 0).getD out 0)] (.agg [.str g0,.str g1]))
  (mu:Cl 87 [.agg [.str (W 0).1,.str (W 0).2],.agg [.str g0,.str g1]] (.tup [.agg [.str (M 0).1,.str (M 0).2],.int .i64 0])) :
  Cl 86 [.int .i64 0,.ref [V.sl2 4 [.str (W 0).1,.str (W 0).2,.str (W 1).1,.str (W 1).2,.str (W 2).1,.str (W 2).2,.str (W 3).1,.str (W 3).2]],.ref [.slf 1 4 (fun j=>List.take 1 (List.drop (j*1) [.ints .i64 (U 0),.ints .i64 (U 1),.ints .i64 (U 2),.ints .i64 (U 3)]))],.ref [.int .i64 out]] (.tup [.agg [.str (M 0).1,.str (M 0).2],.int .i64 0]):=by
 have hi:(out:Int)<(U 0).length:=by omega
 refine V.en tbOk Tryz.func86 ?_
 refine V.r0 jik ?_
 refine⟨Pq15z,[],V.pok,?_⟩
 refine jab [(6,.int .i64 0)] [(5,.box [.str (M 0).1,.str (M 0).2])] ?_ ?_
 ·exact V.d2 jiS ig mu
 refine V.r0 @ji8 ?_
 exact Fin.of rfl
theorem prod4_1 (W M:Nat→Tx)(U:Nat→List Int)(out:Nat)(g0 g1:List UInt8)(hl:out<(U 1).length)(ig:Cl 88 [.int .i64 ((U 1).getD out 0)] (.agg [.str g0,.str g1]))
  (mu:Cl 87 [.agg [.str (W 1).1,.str (W 1).2],.agg [.str g0,.str g1]] (.tup [.agg [.str (M 1).1,.str (M 1).2],.int .i64 0])) :
  Cl 86 [.int .i64 1,.ref [V.sl2 4 [.str (W 0).1,.str (W 0).2,.str (W 1).1,.str (W 1).2,.str (W 2).1,.str (W 2).2,.str (W 3).1,.str (W 3).2]],.ref [.slf 1 4 (fun j=>List.take 1 (List.drop (j*1) [.ints .i64 (U 0),.ints .i64 (U 1),.ints .i64 (U 2),.ints .i64 (U 3)]))],.ref [.int .i64 out]] (.tup [.agg [.str (M 1).1,.str (M 1).2],.int .i64 0]):=by
 have hi:(out:Int)<(U 1).length:=by omega
 refine V.en tbOk Tryz.func86 ?_
 refine V.r0 jik ?_
 refine⟨Pq15z,[],V.pok,?_⟩
 refine jab [(6,.int .i64 0)] [(5,.box [.str (M 1).1,.str (M 1).2])] ?_ ?_
 ·exact V.d2 jiS ig mu
 refine V.r0 @ji8 ?_
 exact Fin.of rfl
theorem prod4_2 (W M:Nat→Tx)(U:Nat→List Int)(out:Nat)(g0 g1:List UInt8)(hl:out<(U 2).length)(ig:Cl 88 [.int .i64 ((U 2).getD out 0)] (.agg [.str g0,.str g1]))
  (mu:Cl 87 [.agg [.str (W 2).1,.str (W 2).2],.agg [.str g0,.str g1]] (.tup [.agg [.str (M 2).1,.str (M 2).2],.int .i64 0])) :
  Cl 86 [.int .i64 2,.ref [V.sl2 4 [.str (W 0).1,.str (W 0).2,.str (W 1).1,.str (W 1).2,.str (W 2).1,.str (W 2).2,.str (W 3).1,.str (W 3).2]],.ref [.slf 1 4 (fun j=>List.take 1 (List.drop (j*1) [.ints .i64 (U 0),.ints .i64 (U 1),.ints .i64 (U 2),.ints .i64 (U 3)]))],.ref [.int .i64 out]] (.tup [.agg [.str (M 2).1,.str (M 2).2],.int .i64 0]):=by
 have hi:(out:Int)<(U 2).length:=by omega
 refine V.en tbOk Tryz.func86 ?_
 refine V.r0 jik ?_
 refine⟨Pq15z,[],V.pok,?_⟩
 refine jab [(6,.int .i64 0)] [(5,.box [.str (M 2).1,.str (M 2).2])] ?_ ?_
 ·exact V.d2 jiS ig mu
 refine V.r0 @ji8 ?_
 exact Fin.of rfl
theorem prod4_3 (W M:Nat→Tx)(U:Nat→List Int)(out:Nat)(g0 g1:List UInt8)(hl:out<(U 3).length)(ig:Cl 88 [.int .i64 ((U 3).getD out 0)] (.agg [.str g0,.str g1]))
  (mu:Cl 87 [.agg [.str (W 3).1,.str (W 3).2],.agg [.str g0,.str g1]] (.tup [.agg [.str (M 3).1,.str (M 3).2],.int .i64 0])) :
  Cl 86 [.int .i64 3,.ref [V.sl2 4 [.str (W 0).1,.str (W 0).2,.str (W 1).1,.str (W 1).2,.str (W 2).1,.str (W 2).2,.str (W 3).1,.str (W 3).2]],.ref [.slf 1 4 (fun j=>List.take 1 (List.drop (j*1) [.ints .i64 (U 0),.ints .i64 (U 1),.ints .i64 (U 2),.ints .i64 (U 3)]))],.ref [.int .i64 out]] (.tup [.agg [.str (M 3).1,.str (M 3).2],.int .i64 0]):=by
 have hi:(out:Int)<(U 3).length:=by omega
 refine V.en tbOk Tryz.func86 ?_
 refine V.r0 jik ?_
 refine⟨Pq15z,[],V.pok,?_⟩
 refine jab [(6,.int .i64 0)] [(5,.box [.str (M 3).1,.str (M 3).2])] ?_ ?_
 ·exact V.d2 jiS ig mu
 refine V.r0 @ji8 ?_
 exact Fin.of rfl
theorem val1_2 (W M S:Nat→Tx)(U:Nat→List Int)(out:Int)(f0 f1 y0 y1:List UInt8)(li:Cl 84 [.int .i64 2,.fn 86 [] [.ref [V.sl2 2 [.str (W 0).1,.str (W 0).2,.str (W 1).1,.str (W 1).2]],.ref [.slf 1 2 (fun j=>List.take 1 (List.drop (j*1) [.ints .i64 (U 0),.ints .i64 (U 1)]))],.ref [.int .i64 out]]] (.tup [V.sl2 2 [.str (M 0).1,.str (M 0).2,.str (M 1).1,.str (M 1).2],.int .i64 0]))
  (su:Cl 89 [V.sl2 2 [.str (M 0).1,.str (M 0).2,.str (M 1).1,.str (M 1).2]] (.tup [.agg [.str (S 1).1,.str (S 1).2],.int .i64 0])) (fu:Cl 88 [.int .i64 65535] (.agg [.str f0,.str f1])) (dv:Cl 90 [.agg [.str (S 1).1,.str (S 1).2],.agg [.str f0,.str f1]] (.tup [.agg [.str y0,.str y1],.int .i64 0])) :
  Cl 85 [.int .i64 out,.ref [.slf 1 2 (fun j=>List.take 1 (List.drop (j*1) [.ints .i64 (U 0),.ints .i64 (U 1)]))],.ref [V.sl2 2 [.str (W 0).1,.str (W 0).2,.str (W 1).1,.str (W 1).2]]] (.tup [.agg [.str y0,.str y1],.int .i64 0]):=by
 refine V.en tbOk Tryz.func85 ?_
 refine V.r2 @ji8 li su ?_
 refine⟨Pq88z,[],V.pok,?_⟩
 refine jab [(5,.int .i64 0)] [(4,.box [.str y0,.str y1])] ?_ ?_
 ·exact V.d2 @ji8 fu dv
 refine V.r0 @ji8 ?_
 exact Fin.of rfl
theorem val1_3 (W M S:Nat→Tx)(U:Nat→List Int)(out:Int)(f0 f1 y0 y1:List UInt8)(li:Cl 84 [.int .i64 3,.fn 86 [] [.ref [V.sl2 3 [.str (W 0).1,.str (W 0).2,.str (W 1).1,.str (W 1).2,.str (W 2).1,.str (W 2).2]],.ref [.slf 1 3 (fun j=>List.take 1 (List.drop (j*1) [.ints .i64 (U 0),.ints .i64 (U 1),.ints .i64 (U 2)]))],.ref [.int .i64 out]]] (.tup [V.sl2 3 [.str (M 0).1,.str (M 0).2,.str (M 1).1,.str (M 1).2,.str (M 2).1,.str (M 2).2],.int .i64 0]))
  (su:Cl 89 [V.sl2 3 [.str (M 0).1,.str (M 0).2,.str (M 1).1,.str (M 1).2,.str (M 2).1,.str (M 2).2]] (.tup [.agg [.str (S 2).1,.str (S 2).2],.int .i64 0])) (fu:Cl 88 [.int .i64 65535] (.agg [.str f0,.str f1])) (dv:Cl 90 [.agg [.str (S 2).1,.str (S 2).2],.agg [.str f0,.str f1]] (.tup [.agg [.str y0,.str y1],.int .i64 0])) :
  Cl 85 [.int .i64 out,.ref [.slf 1 3 (fun j=>List.take 1 (List.drop (j*1) [.ints .i64 (U 0),.ints .i64 (U 1),.ints .i64 (U 2)]))],.ref [V.sl2 3 [.str (W 0).1,.str (W 0).2,.str (W 1).1,.str (W 1).2,.str (W 2).1,.str (W 2).2]]] (.tup [.agg [.str y0,.str y1],.int .i64 0]):=by
 refine V.en tbOk Tryz.func85 ?_
 refine V.r2 @ji8 li su ?_
 refine⟨Pq88z,[],V.pok,?_⟩
 refine jab [(5,.int .i64 0)] [(4,.box [.str y0,.str y1])] ?_ ?_
 ·exact V.d2 @ji8 fu dv
 refine V.r0 @ji8 ?_
 exact Fin.of rfl
theorem val1_4 (W M S:Nat→Tx)(U:Nat→List Int)(out:Int)(f0 f1 y0 y1:List UInt8)(li:Cl 84 [.int .i64 4,.fn 86 [] [.ref [V.sl2 4 [.str (W 0).1,.str (W 0).2,.str (W 1).1,.str (W 1).2,.str (W 2).1,.str (W 2).2,.str (W 3).1,.str (W 3).2]],.ref [.slf 1 4 (fun j=>List.take 1 (List.drop (j*1) [.ints .i64 (U 0),.ints .i64 (U 1),.ints .i64 (U 2),.ints .i64 (U 3)]))],.ref [.int .i64 out]]] (.tup [V.sl2 4 [.str (M 0).1,.str (M 0).2,.str (M 1).1,.str (M 1).2,.str (M 2).1,.str (M 2).2,.str (M 3).1,.str (M 3).2],.int .i64 0]))
  (su:Cl 89 [V.sl2 4 [.str (M 0).1,.str (M 0).2,.str (M 1).1,.str (M 1).2,.str (M 2).1,.str (M 2).2,.str (M 3).1,.str (M 3).2]] (.tup [.agg [.str (S 3).1,.str (S 3).2],.int .i64 0])) (fu:Cl 88 [.int .i64 65535] (.agg [.str f0,.str f1])) (dv:Cl 90 [.agg [.str (S 3).1,.str (S 3).2],.agg [.str f0,.str f1]] (.tup [.agg [.str y0,.str y1],.int .i64 0])) :
  Cl 85 [.int .i64 out,.ref [.slf 1 4 (fun j=>List.take 1 (List.drop (j*1) [.ints .i64 (U 0),.ints .i64 (U 1),.ints .i64 (U 2),.ints .i64 (U 3)]))],.ref [V.sl2 4 [.str (W 0).1,.str (W 0).2,.str (W 1).1,.str (W 1).2,.str (W 2).1,.str (W 2).2,.str (W 3).1,.str (W 3).2]]] (.tup [.agg [.str y0,.str y1],.int .i64 0]):=by
 refine V.en tbOk Tryz.func85 ?_
 refine V.r2 @ji8 li su ?_
 refine⟨Pq88z,[],V.pok,?_⟩
 refine jab [(5,.int .i64 0)] [(4,.box [.str y0,.str y1])] ?_ ?_
 ·exact V.d2 @ji8 fu dv
 refine V.r0 @ji8 ?_
 exact Fin.of rfl
theorem xd1:((1:Int)-1).toNat=0:=rfl
theorem xd2:((2:Int)-1).toNat=1:=rfl
theorem xd3:((3:Int)-1).toNat=2:=rfl
def atK (a:List Int)(xs:List Int):Nat→List Int
 | 0=>a
 | k+1=>(atK a xs k).set (xs.getD k 0).toNat ((atK a xs k).getD (xs.getD k 0).toNat 0+1)
theorem jbb (a xs:List Int):∀ k,a.length=4→(atK a xs k).length=4
 | 0,h=>h
 | k+1,h=>by simp only[atK];rw[jj3];exact jbb a xs k h
def atS (a xs:List Int):Nat→List Int
 | 0=>a
 | k+1=>atK a xs k
def wcv:Nat→D
 | 0 => .nil
 | k+1 => .bsl 109 0 (k+1) 2
def pcv:Nat→D
 | 0 => .nil
 | k+1 => .bsl 113 0 (k+1) 1
def pce (U:Nat→List Int):Nat→List D
 | 0=>[]
 | k+1=>pce U k++[.ints .i64 (U k)]
def tlv (W:Nat→Tx)(U:Nat→List Int):Nat→Hp
 | 0=>[]
 | k+1=>[(109,.box (wce W (k+1))),(113,.box (pce U (k+1)))]
theorem point1_t (z0 b0 out:Int)(data xs at' v:List Int)(W:Nat→Tx)(hl:at'.length=4)(ga:Cl 140 [.agg [.ints .i64 [z0],.int .i64 out,.ints .i64 data],.ints .i64 (at'.take 1)] (.tup [.ints .i64 v,.int .i64 0])) :
  Cl 82 [.agg [.ints .i64 [z0],.int .i64 out,.ints .i64 data,.ints .i64 [b0],.ints .i64 xs,V.sl2 2 [.str (W 0).1,.str (W 0).2,.str (W 1).1,.str (W 1).2]],.iarr .i64 at'] (.tup [.ints .i64 v,.int .i64 0]):=by
 obtain⟨a0,a1,a2,a3,rfl⟩:∃ a0 a1 a2 a3:Int,at'=[a0,a1,a2,a3]:=by
  match at',hl with
  | [a0,a1,a2,a3],_=>exact⟨a0,a1,a2,a3,rfl⟩
 refine V.en tbOk Tryz.func82 ?_
 refine V.r0 @ji8 ?_
 refine⟨Pq31z,[],V.pok,?_⟩
 refine jab [(3,.any),(4,.ints .i64 v),(5,.int .i64 0)] [(3,.gone)] ?_ ?_
 ·exact V.d1 @ji8 ga
 refine V.r0 @ji8 ?_
 exact Fin.of rfl
theorem corners1_t (z0 b0 out:Int)(data xs:List Int)(W:Nat→Tx):Cl 83 [.agg [.ints .i64 [z0],.int .i64 out,.ints .i64 data,.ints .i64 [b0],.ints .i64 xs,V.sl2 2 [.str (W 0).1,.str (W 0).2,.str (W 1).1,.str (W 1).2]]] (.fn 141 [] [.ref [.ints .i64 [z0],.int .i64 out,.ints .i64 data,.ints .i64 [b0],.ints .i64 xs,V.sl2 2 [.str (W 0).1,.str (W 0).2,.str (W 1).1,.str (W 1).2]]]):=by
 refine V.en tbOk Tryz.func83 ?_
 refine V.r0 @ji8 ?_
 exact Fin.of rfl
theorem jiR:type_of% @ji8∧type_of% @tn0∧type_of% @tn1∧type_of% @tn2∧type_of% @tn3∧type_of% @xd1∧type_of% @xd2∧type_of% @xd3∧type_of% @xt4:=⟨@ji8,@tn0,@tn1,@tn2,@tn3,@xd1,@xd2,@xd3,@xt4⟩
theorem value1_t (z0 b0 out:Int)(data xs:List Int)(W:Nat→Tx)(U:Nat→List Int)(Y:Nat→List D)(e0:Nat)(hl:xs.length=1)(hx:∀ k,k<1→0≤xs.getD k 0∧xs.getD k 0<4)(hi:∀ k,k<1→InR .i64 ((atK [b0,0,0,0] xs k).getD (xs.getD k 0).toNat 0+1))
  (pt:∀ k,k<2→Cl 82 [.agg [.ints .i64 [z0],.int .i64 out,.ints .i64 data,.ints .i64 [b0],.ints .i64 xs,V.sl2 2 [.str (W 0).1,.str (W 0).2,.str (W 1).1,.str (W 1).2]],.iarr .i64 (atK [b0,0,0,0] xs k)] (.tup [.ints .i64 (U k),.int .i64 0]))
  (li:Cl 84 [.int .i64 out,.fn 85 [] [.ref [.slf 1 2 (fun j=>List.take 1 (List.drop (j*1) [.ints .i64 (U 0),.ints .i64 (U 1)]))],.ref [V.sl2 2 [.str (W 0).1,.str (W 0).2,.str (W 1).1,.str (W 1).2]]]] (.tup [.slf 2 e0 Y,.int .i64 0])) :
  Cl 43 [.agg [.ints .i64 [z0],.int .i64 out,.ints .i64 data,.ints .i64 [b0],.ints .i64 xs,V.sl2 2 [.str (W 0).1,.str (W 0).2,.str (W 1).1,.str (W 1).2]]] (.tup [.slf 2 e0 Y,.int .i64 0]):=by
 have co:=corners1_t z0 b0 out data xs W
 refine V.en tbOk Tryz.func43 ?_
 refine V.r1 @ji8 co ?_
 refine⟨_,_,⟨Tryz.func141,rfl,rfl,ji1 rfl⟩,?_⟩
 refine V.r0 @ji8 ?_
 refine⟨(V.tk [0,1,2] (V.e1 3 [] .done)),[],V.pok,?_⟩
 refine jab [] [(47,.arr .i64 [b0,0,0,0])] ?_ ?_
 ·exact V.d0 @ji8
 refine V.r0 @ji8 ?_
 refine jad 0 (fun k=>k≤2) (fun k=>2-k) (fun k=>[(13,.int .i64 k)]) (fun k=>(43,.lp none)::(47,.arr .i64 (atS [b0,0,0,0] xs k))::(5,.box [wcv k])::(6,.box [pcv k])::(7,.box [.int .i64 0])::tlv W U k) ?_ ?_ ?_
 ·exact V.wk
 ·exact ji2 _
 intro k hk
 have hk4:k=0∨k=1∨k=2:=by omega
 rcases hk4 with e|e|e
 all_goals subst e
 ·simp only[k0,atS,wcv,pcv,tlv]
  have p:=pt 0 (by omega)
  simp only[atK] at p
  refine V.r1 jiR p ?_
  exact⟨1,by omega,by omega,V.wk⟩
 ·simp only[k1,atS,wcv,pcv,tlv]
  have p:=pt 1 (by omega)
  have g:=hx 0 (by omega)
  have h:=hi 0 (by omega)
  have l4:=jbb [b0,0,0,0] xs 0 rfl
  have l5:=jbb [b0,0,0,0] xs 1 rfl
  simp only[atK] at p h l4 l5 ⊢
  refine V.r1 jiR p ?_
  exact⟨2,by omega,by omega,V.wk⟩
 ·simp only[k2,atS,wcv,pcv,tlv]
  (conv=>whnf)
  repeat ((fail_if_success (with_reducible refine Cnd.split ?_));refine V.s1 ?_;(try simp only[ji8]))
  refine V.s1 ?_
  (conv=>whnf)
  repeat ((fail_if_success (with_reducible refine Cnd.split ?_));refine V.s1 ?_;(try simp only[ji8]))
  refine ja2 [(5,.ref [V.sl2 2 [.str (W 0).1,.str (W 0).2,.str (W 1).1,.str (W 1).2]]),(6,.ref [.slf 1 2 (fun j=>List.take 1 (List.drop (j*1) [.ints .i64 (U 0),.ints .i64 (U 1)]))])] [(5,.gone),(6,.gone),(109,.gone),(113,.gone)] (CondB.mk (fun h=>absurd h (by decide)) (fun _=>?_)) ?_
  ·(conv=>whnf)
   refine Wk.pub 109 ?_
   (conv=>whnf)
   refine Wk.pub 113 ?_
   (conv=>whnf)
   refine Wk.pub 5 ?_
   (conv=>whnf)
   refine Wk.pub 6 ?_
   (conv=>whnf)
   simp only[ji8]
   exact V.wk
  refine V.r1 @ji8 li ?_
  exact Fin.of rfl
theorem point2_t (z0 z1 b0 b1 out:Int)(data xs at' v:List Int)(W:Nat→Tx)(hl:at'.length=4)(ga:Cl 140 [.agg [.ints .i64 [z0,z1],.int .i64 out,.ints .i64 data],.ints .i64 (at'.take 2)] (.tup [.ints .i64 v,.int .i64 0])) :
  Cl 82 [.agg [.ints .i64 [z0,z1],.int .i64 out,.ints .i64 data,.ints .i64 [b0,b1],.ints .i64 xs,V.sl2 3 [.str (W 0).1,.str (W 0).2,.str (W 1).1,.str (W 1).2,.str (W 2).1,.str (W 2).2]],.iarr .i64 at'] (.tup [.ints .i64 v,.int .i64 0]):=by
 obtain⟨a0,a1,a2,a3,rfl⟩:∃ a0 a1 a2 a3:Int,at'=[a0,a1,a2,a3]:=by
  match at',hl with
  | [a0,a1,a2,a3],_=>exact⟨a0,a1,a2,a3,rfl⟩
 refine V.en tbOk Tryz.func82 ?_
 refine V.r0 @ji8 ?_
 refine⟨Pq31z,[],V.pok,?_⟩
 refine jab [(3,.any),(4,.ints .i64 v),(5,.int .i64 0)] [(3,.gone)] ?_ ?_
 ·exact V.d1 @ji8 ga
 refine V.r0 @ji8 ?_
 exact Fin.of rfl
theorem corners2_t (z0 z1 b0 b1 out:Int)(data xs:List Int)(W:Nat→Tx):Cl 83 [.agg [.ints .i64 [z0,z1],.int .i64 out,.ints .i64 data,.ints .i64 [b0,b1],.ints .i64 xs,V.sl2 3 [.str (W 0).1,.str (W 0).2,.str (W 1).1,.str (W 1).2,.str (W 2).1,.str (W 2).2]]] (.fn 141 [] [.ref [.ints .i64 [z0,z1],.int .i64 out,.ints .i64 data,.ints .i64 [b0,b1],.ints .i64 xs,V.sl2 3 [.str (W 0).1,.str (W 0).2,.str (W 1).1,.str (W 1).2,.str (W 2).1,.str (W 2).2]]]):=by
 refine V.en tbOk Tryz.func83 ?_
 refine V.r0 @ji8 ?_
 exact Fin.of rfl
theorem value2_t (z0 z1 b0 b1 out:Int)(data xs:List Int)(W:Nat→Tx)(U:Nat→List Int)(Y:Nat→List D)(e0:Nat)(hl:xs.length=2)(hx:∀ k,k<2→0≤xs.getD k 0∧xs.getD k 0<4)(hi:∀ k,k<2→InR .i64 ((atK [b0,b1,0,0] xs k).getD (xs.getD k 0).toNat 0+1))
  (pt:∀ k,k<3→Cl 82 [.agg [.ints .i64 [z0,z1],.int .i64 out,.ints .i64 data,.ints .i64 [b0,b1],.ints .i64 xs,V.sl2 3 [.str (W 0).1,.str (W 0).2,.str (W 1).1,.str (W 1).2,.str (W 2).1,.str (W 2).2]],.iarr .i64 (atK [b0,b1,0,0] xs k)] (.tup [.ints .i64 (U k),.int .i64 0]))
  (li:Cl 84 [.int .i64 out,.fn 85 [] [.ref [.slf 1 3 (fun j=>List.take 1 (List.drop (j*1) [.ints .i64 (U 0),.ints .i64 (U 1),.ints .i64 (U 2)]))],.ref [V.sl2 3 [.str (W 0).1,.str (W 0).2,.str (W 1).1,.str (W 1).2,.str (W 2).1,.str (W 2).2]]]] (.tup [.slf 2 e0 Y,.int .i64 0])) :
  Cl 43 [.agg [.ints .i64 [z0,z1],.int .i64 out,.ints .i64 data,.ints .i64 [b0,b1],.ints .i64 xs,V.sl2 3 [.str (W 0).1,.str (W 0).2,.str (W 1).1,.str (W 1).2,.str (W 2).1,.str (W 2).2]]] (.tup [.slf 2 e0 Y,.int .i64 0]):=by
 have co:=corners2_t z0 z1 b0 b1 out data xs W
 refine V.en tbOk Tryz.func43 ?_
 refine V.r1 @ji8 co ?_
 refine⟨_,_,⟨Tryz.func141,rfl,rfl,ji1 rfl⟩,?_⟩
 refine V.r0 @ji8 ?_
 refine⟨(V.tk [0,1,2] (V.e1 3 [] .done)),[],V.pok,?_⟩
 refine jab [] [(47,.arr .i64 [b0,b1,0,0])] ?_ ?_
 ·exact V.d0 @ji8
 refine V.r0 @ji8 ?_
 refine jad 0 (fun k=>k≤3) (fun k=>3-k) (fun k=>[(13,.int .i64 k)]) (fun k=>(43,.lp none)::(47,.arr .i64 (atS [b0,b1,0,0] xs k))::(5,.box [wcv k])::(6,.box [pcv k])::(7,.box [.int .i64 0])::tlv W U k) ?_ ?_ ?_
 ·exact V.wk
 ·exact ji2 _
 intro k hk
 have hk4:k=0∨k=1∨k=2∨k=3:=by omega
 rcases hk4 with e|e|e|e
 all_goals subst e
 ·simp only[k0,atS,wcv,pcv,tlv]
  have p:=pt 0 (by omega)
  simp only[atK] at p
  refine V.r1 jiR p ?_
  exact⟨1,by omega,by omega,V.wk⟩
 ·simp only[k1,atS,wcv,pcv,tlv]
  have p:=pt 1 (by omega)
  have g:=hx 0 (by omega)
  have h:=hi 0 (by omega)
  have l4:=jbb [b0,b1,0,0] xs 0 rfl
  have l5:=jbb [b0,b1,0,0] xs 1 rfl
  simp only[atK] at p h l4 l5 ⊢
  refine V.r1 jiR p ?_
  exact⟨2,by omega,by omega,V.wk⟩
 ·simp only[k2,atS,wcv,pcv,tlv]
  have p:=pt 2 (by omega)
  have g:=hx 1 (by omega)
  have h:=hi 1 (by omega)
  have l4:=jbb [b0,b1,0,0] xs 1 rfl
  have l5:=jbb [b0,b1,0,0] xs 2 rfl
  simp only[atK] at p h l4 l5 ⊢
  refine V.r1 jiR p ?_
  exact⟨3,by omega,by omega,V.wk⟩
 ·simp only[k3,atS,wcv,pcv,tlv]
  (conv=>whnf)
  repeat ((fail_if_success (with_reducible refine Cnd.split ?_));refine V.s1 ?_;(try simp only[ji8]))
  refine V.s1 ?_
  (conv=>whnf)
  repeat ((fail_if_success (with_reducible refine Cnd.split ?_));refine V.s1 ?_;(try simp only[ji8]))
  refine ja2 [(5,.ref [V.sl2 3 [.str (W 0).1,.str (W 0).2,.str (W 1).1,.str (W 1).2,.str (W 2).1,.str (W 2).2]]),(6,.ref [.slf 1 3 (fun j=>List.take 1 (List.drop (j*1) [.ints .i64 (U 0),.ints .i64 (U 1),.ints .i64 (U 2)]))])] [(5,.gone),(6,.gone),(109,.gone),(113,.gone)] (CondB.mk (fun h=>absurd h (by decide)) (fun _=>?_)) ?_
  ·(conv=>whnf)
   refine Wk.pub 109 ?_
   (conv=>whnf)
   refine Wk.pub 113 ?_
   (conv=>whnf)
   refine Wk.pub 5 ?_
   (conv=>whnf)
   refine Wk.pub 6 ?_
   (conv=>whnf)
   simp only[ji8]
   exact V.wk
  refine V.r1 @ji8 li ?_
  exact Fin.of rfl
theorem point3_t (z0 z1 z2 b0 b1 b2 out:Int)(data xs at' v:List Int)(W:Nat→Tx)(hl:at'.length=4)(ga:Cl 140 [.agg [.ints .i64 [z0,z1,z2],.int .i64 out,.ints .i64 data],.ints .i64 (at'.take 3)] (.tup [.ints .i64 v,.int .i64 0])) :
  Cl 82 [.agg [.ints .i64 [z0,z1,z2],.int .i64 out,.ints .i64 data,.ints .i64 [b0,b1,b2],.ints .i64 xs,V.sl2 4 [.str (W 0).1,.str (W 0).2,.str (W 1).1,.str (W 1).2,.str (W 2).1,.str (W 2).2,.str (W 3).1,.str (W 3).2]],.iarr .i64 at'] (.tup [.ints .i64 v,.int .i64 0]):=by
 obtain⟨a0,a1,a2,a3,rfl⟩:∃ a0 a1 a2 a3:Int,at'=[a0,a1,a2,a3]:=by
  match at',hl with
  | [a0,a1,a2,a3],_=>exact⟨a0,a1,a2,a3,rfl⟩
 refine V.en tbOk Tryz.func82 ?_
 refine V.r0 @ji8 ?_
 refine⟨Pq31z,[],V.pok,?_⟩
 refine jab [(3,.any),(4,.ints .i64 v),(5,.int .i64 0)] [(3,.gone)] ?_ ?_
 ·exact V.d1 @ji8 ga
 refine V.r0 @ji8 ?_
 exact Fin.of rfl
theorem corners3_t (z0 z1 z2 b0 b1 b2 out:Int)(data xs:List Int)(W:Nat→Tx):Cl 83 [.agg [.ints .i64 [z0,z1,z2],.int .i64 out,.ints .i64 data,.ints .i64 [b0,b1,b2],.ints .i64 xs,V.sl2 4 [.str (W 0).1,.str (W 0).2,.str (W 1).1,.str (W 1).2,.str (W 2).1,.str (W 2).2,.str (W 3).1,.str (W 3).2]]] (.fn 141 [] [.ref [.ints .i64 [z0,z1,z2],.int .i64 out,.ints .i64 data,.ints .i64 [b0,b1,b2],.ints .i64 xs,V.sl2 4 [.str (W 0).1,.str (W 0).2,.str (W 1).1,.str (W 1).2,.str (W 2).1,.str (W 2).2,.str (W 3).1,.str (W 3).2]]]):=by
 refine V.en tbOk Tryz.func83 ?_
 refine V.r0 @ji8 ?_
 exact Fin.of rfl
theorem value3_t (z0 z1 z2 b0 b1 b2 out:Int)(data xs:List Int)(W:Nat→Tx)(U:Nat→List Int)(Y:Nat→List D)(e0:Nat)(hl:xs.length=3)(hx:∀ k,k<3→0≤xs.getD k 0∧xs.getD k 0<4)(hi:∀ k,k<3→InR .i64 ((atK [b0,b1,b2,0] xs k).getD (xs.getD k 0).toNat 0+1))
  (pt:∀ k,k<4→Cl 82 [.agg [.ints .i64 [z0,z1,z2],.int .i64 out,.ints .i64 data,.ints .i64 [b0,b1,b2],.ints .i64 xs,V.sl2 4 [.str (W 0).1,.str (W 0).2,.str (W 1).1,.str (W 1).2,.str (W 2).1,.str (W 2).2,.str (W 3).1,.str (W 3).2]],.iarr .i64 (atK [b0,b1,b2,0] xs k)] (.tup [.ints .i64 (U k),.int .i64 0]))
  (li:Cl 84 [.int .i64 out,.fn 85 [] [.ref [.slf 1 4 (fun j=>List.take 1 (List.drop (j*1) [.ints .i64 (U 0),.ints .i64 (U 1),.ints .i64 (U 2),.ints .i64 (U 3)]))],.ref [V.sl2 4 [.str (W 0).1,.str (W 0).2,.str (W 1).1,.str (W 1).2,.str (W 2).1,.str (W 2).2,.str (W 3).1,.str (W 3).2]]]] (.tup [.slf 2 e0 Y,.int .i64 0])) :
  Cl 43 [.agg [.ints .i64 [z0,z1,z2],.int .i64 out,.ints .i64 data,.ints .i64 [b0,b1,b2],.ints .i64 xs,V.sl2 4 [.str (W 0).1,.str (W 0).2,.str (W 1).1,.str (W 1).2,.str (W 2).1,.str (W 2).2,.str (W 3).1,.str (W 3).2]]] (.tup [.slf 2 e0 Y,.int .i64 0]):=by
 have co:=corners3_t z0 z1 z2 b0 b1 b2 out data xs W
 refine V.en tbOk Tryz.func43 ?_
 refine V.r1 @ji8 co ?_
 refine⟨_,_,⟨Tryz.func141,rfl,rfl,ji1 rfl⟩,?_⟩
 refine V.r0 @ji8 ?_
 refine⟨(V.tk [0,1,2] (V.e1 3 [] .done)),[],V.pok,?_⟩
 refine jab [] [(47,.arr .i64 [b0,b1,b2,0])] ?_ ?_
 ·exact V.d0 @ji8
 refine V.r0 @ji8 ?_
 refine jad 0 (fun k=>k≤4) (fun k=>4-k) (fun k=>[(13,.int .i64 k)]) (fun k=>(43,.lp none)::(47,.arr .i64 (atS [b0,b1,b2,0] xs k))::(5,.box [wcv k])::(6,.box [pcv k])::(7,.box [.int .i64 0])::tlv W U k) ?_ ?_ ?_
 ·exact V.wk
 ·exact ji2 _
 intro k hk
 have hk4:k=0∨k=1∨k=2∨k=3∨k=4:=by omega
 rcases hk4 with e|e|e|e|e
 all_goals subst e
 ·simp only[k0,atS,wcv,pcv,tlv]
  have p:=pt 0 (by omega)
  simp only[atK] at p
  refine V.r1 jiR p ?_
  exact⟨1,by omega,by omega,V.wk⟩
 ·simp only[k1,atS,wcv,pcv,tlv]
  have p:=pt 1 (by omega)
  have g:=hx 0 (by omega)
  have h:=hi 0 (by omega)
  have l4:=jbb [b0,b1,b2,0] xs 0 rfl
  have l5:=jbb [b0,b1,b2,0] xs 1 rfl
  simp only[atK] at p h l4 l5 ⊢
  refine V.r1 jiR p ?_
  exact⟨2,by omega,by omega,V.wk⟩
 ·simp only[k2,atS,wcv,pcv,tlv]
  have p:=pt 2 (by omega)
  have g:=hx 1 (by omega)
  have h:=hi 1 (by omega)
  have l4:=jbb [b0,b1,b2,0] xs 1 rfl
  have l5:=jbb [b0,b1,b2,0] xs 2 rfl
  simp only[atK] at p h l4 l5 ⊢
  refine V.r1 jiR p ?_
  exact⟨3,by omega,by omega,V.wk⟩
 ·simp only[k3,atS,wcv,pcv,tlv]
  have p:=pt 3 (by omega)
  have g:=hx 2 (by omega)
  have h:=hi 2 (by omega)
  have l4:=jbb [b0,b1,b2,0] xs 2 rfl
  have l5:=jbb [b0,b1,b2,0] xs 3 rfl
  simp only[atK] at p h l4 l5 ⊢
  refine V.r1 jiR p ?_
  exact⟨4,by omega,by omega,V.wk⟩
 ·simp only[xk4,atS,wcv,pcv,tlv]
  (conv=>whnf)
  repeat ((fail_if_success (with_reducible refine Cnd.split ?_));refine V.s1 ?_;(try simp only[ji8]))
  refine V.s1 ?_
  (conv=>whnf)
  repeat ((fail_if_success (with_reducible refine Cnd.split ?_));refine V.s1 ?_;(try simp only[ji8]))
  refine ja2 [(5,.ref [V.sl2 4 [.str (W 0).1,.str (W 0).2,.str (W 1).1,.str (W 1).2,.str (W 2).1,.str (W 2).2,.str (W 3).1,.str (W 3).2]]),(6,.ref [.slf 1 4 (fun j=>List.take 1 (List.drop (j*1) [.ints .i64 (U 0),.ints .i64 (U 1),.ints .i64 (U 2),.ints .i64 (U 3)]))])] [(5,.gone),(6,.gone),(109,.gone),(113,.gone)] (CondB.mk (fun h=>absurd h (by decide)) (fun _=>?_)) ?_
  ·(conv=>whnf)
   refine Wk.pub 109 ?_
   (conv=>whnf)
   refine Wk.pub 113 ?_
   (conv=>whnf)
   refine Wk.pub 5 ?_
   (conv=>whnf)
   refine Wk.pub 6 ?_
   (conv=>whnf)
   simp only[ji8]
   exact V.wk
  refine V.r1 @ji8 li ?_
  exact Fin.of rfl
theorem jiO:type_of% @ji8∧type_of% @tn0∧type_of% @tn1∧type_of% @tn2∧type_of% @tn3:=⟨@ji8,@tn0,@tn1,@tn2,@tn3⟩
theorem jiI:type_of% @jjb∧type_of% @ji8∧type_of% @tns:=⟨@jjb,@ji8,@tns⟩
theorem jiN:type_of% @jj3 ∧ type_of% @ji8:=⟨@jj3,@ji8⟩
theorem find1_t (z0 out b0:Int)(data:List Int)(x0 y0 o0 o1:List UInt8)(R Bf W:Nat→Tx)
  (sp0:Cl 132 [.agg [.str x0,.str y0],.int .i64 z0] (.tup [.int .i64 b0,.agg [.str (R 0).1,.str (R 0).2],.int .i64 0]))
  (io:Cl 88 [.int .i64 1] (.agg [.str o0,.str o1])) (w:Int→Int→Int) (cm:∀ a b:Nat,a<1→b<1→Cl 134 [.int .i64 a,.int .i64 b,.ref [V.sl2 1 [.str (R 0).1,.str (R 0).2]]] (.int .i64 (w a b)))
  (hBf0:Bf 0=(o0,o1)) (hBf:∀ k,k<1→Bf (k+1)=R ((isoK w [0] (1-1)).getD k 0).toNat) (sb:∀ k,k<1→Cl 104 [.agg [.str (Bf k).1,.str (Bf k).2],.agg [.str (R ((isoK w [0] (1-1)).getD k 0).toNat).1,.str (R ((isoK w [0] (1-1)).getD k 0).toNat).2]] (.tup [.agg [.str (W k).1,.str (W k).2],.int .i64 0])) :
  Cl 73 [.agg [.ints .i64 [z0],.int .i64 out,.ints .i64 data],V.sl2 1 [.str x0,.str y0]] (.tup [.agg [.ints .i64 [z0],.int .i64 out,.ints .i64 data,.ints .i64 [b0],.ints .i64 (isoK w [0] (1-1)),V.sl2 2 [.str (W 0).1,.str (W 0).2,.str (Bf 1).1,.str (Bf 1).2]],.int .i64 0]):=by
  refine V.en tbOk Tryz.func73 ?_
  refine V.r0 @ji8 ?_
  refine⟨Pq54z,[],V.pok,?_⟩
  refine jab [(6,.box 6 0),(17,.osl 17 0 1),(20,.osl 20 0 1)] [(6,.box [.ints .i64 [z0],.int .i64 out,.ints .i64 data,.osl 17 0 1,.osl 20 0 1,.nil]),(17,.arr .i64 [0]),(20,.arr .i64 [0])] ?_ ?_
  ·exact V.d0 @ji8
  refine V.r0 @ji8 ?_
  refine V.il Tryz.func84 ?_
  refine V.r0 @ji8 ?_
  refine jad (0) (fun k=>k≤1) (fun k=>1-k) (fun k=>[(14,.int .i64 k)]) (fun k=>[(88,.box (preD (2*k) [.str (R 0).1,.str (R 0).2])),(17,.arr .i64 (preZ k [b0])),(20,.arr .i64 (preZ k [0]))]) ?_ ?_ ?_
  ·exact V.wk
  ·exact ji2 _
  intro k hk
  have hk4:k=0∨k=1:=by omega
  rcases hk4 with e|e
  all_goals subst e
  ·simp only[k0]
   have q1:(preZ 0 [b0]).length=1:=rfl
   have q2:(preZ 0 [0]).length=1:=rfl
   refine V.r0 jiO ?_
   refine V.il Tryz.func131 ?_
   refine V.r0 jiO ?_
   refine⟨Pq21z,[],V.pok,?_⟩
   refine jab [(8,.box 118 0),(7,.int .i64 b0),(9,.int .i64 0)] [(118,.box [.str (R 0).1,.str (R 0).2])] ?_ ?_
   ·exact V.d1 jiO sp0
   refine V.r0 jiO ?_
   refine⟨Pq23z,[],V.pok,?_⟩
   refine jab [] [(17,.arr .i64 (preZ 1 [b0])),(20,.arr .i64 (preZ 1 [0]))] ?_ ?_
   ·exact V.d0 jiO
   refine V.r0 jiO ?_
   exact⟨1,by omega,by omega,V.wk⟩
  ·simp only[k1]
   (conv=>whnf)
   repeat ((fail_if_success (with_reducible refine Cnd.split ?_));refine V.s1 ?_;(try simp only[ji8]))
   refine V.s1 ?_
   (conv=>whnf)
   repeat ((fail_if_success (with_reducible refine Cnd.split ?_));refine V.s1 ?_;(try simp only[ji8]))
   refine ja2 [(7,.ref [V.sl2 1 [.str (R 0).1,.str (R 0).2]]),(22,.any),(26,.any),(27,.any)] [(7,.gone),(88,.gone)] (CondB.mk (fun h=>absurd h (by decide)) (fun _=>?_)) ?_
   ·(conv=>whnf)
    refine Wk.pub 88 ?_
    (conv=>whnf)
    refine Wk.pub 7 ?_
    (conv=>whnf)
    simp only[ji8]
    exact V.wk
   refine V.r0 @ji8 ?_
   refine V.il Tryz.func133 ?_
   refine V.r0 @ji8 ?_
   refine V.il Tryz.func182 ?_
   refine V.r0 @ji8 ?_
   refine jad (0) (fun k=>k=0) (fun k=>k) (fun k=>[(7,.int .i64 0),(8,.int .i64 20)]) (fun k=>[]) ?_ ?_ ?_
   ·exact V.wk
   ·rfl
   intro k hk
   refine V.r0 @ji8 ?_
   refine V.il Tryz.func216 ?_
   refine V.r0 @ji8 ?_
   refine jad (0) (fun k=>k+1≤1) (fun k=>1-k) (fun k=>[(8,.int .i64 ((k+1:Nat):Int))]) (fun k=>[(20,.arr .i64 (isoK w [0] k))]) ?_ ?_ ?_
   ·exact V.wk
   ·omega
   clear hk
   intro k hk
   have hB:=jgS w (n:=1) (xs:=[0]) ⟨rfl,fun i hi=>by
    have:i=0∨i=1∨i=2:=by omega
    rcases this with e|e|e<;>subst e<;>first|decide|omega⟩ k (by omega)
   refine V.r0 @ji8 ?_
   refine V.br (fun hq=>?_) (fun hq=>?_)
   ·have hk2:k+1<1:=by simp at hq;omega
    refine V.r0 @ji8 ?_
    refine jad ((k+1,isoK w [0] k):Nat×List Int) (fun s=>s.1≤k+1∧Bel 1 s.2∧insJ w s.1 s.2=isoK w [0] (k+1)) (fun s=>s.1) (fun s=>[(9,.int .i64 s.1)]) (fun s=>[(20,.arr .i64 s.2)]) ?_ ?_ ?_
    ·exact V.wk
    ·exact⟨jjc _,hB,rfl⟩
    rintro⟨j,xs⟩ ⟨h1,h2,h3⟩
    dsimp only at h1 h2 h3 ⊢
    have hl:=h2.1
    refine V.r0 @ji8 ?_
    have c1:(decide ((j:Int)>0)=true)→Cl 134 [.int .i64 (xs.getD j 0),.int .i64 (xs.getD (j-1) 0),.ref [V.sl2 1 [.str (R 0).1,.str (R 0).2]]] (.int .i64 (w (xs.getD j 0) (xs.getD (j-1) 0))):=fun h=>by
     have hj:(j:Int)>0:=of_decide_eq_true h
     have g1:=h2.2 j (by omega)
     have g2:=h2.2 (j-1) (by omega)
     have c:=cm (xs.getD j 0).toNat (xs.getD (j-1) 0).toNat (by omega) (by omega)
     rw[jja g1.1,jja g2.1] at c
     exact c
    refine⟨Pq8z,[],V.pok,?_⟩
    refine jab [(34,.bool (decide ((j:Int)>0) && decide (w (xs.getD j 0) (xs.getD (j-1) 0)<0)))] [] ?_ ?_
    ·(conv=>whnf);(try simp only[jiI])
     repeat' (first|exact V.wk|((with_reducible refine And.intro ?_ jaA);(conv=>whnf);(try simp only[jiI]))|((with_reducible first|refine jar ?_ ?_|refine jau ?_ ?_)<;>(conv=>whnf);(try simp only[jiI]))|((first|refine V.s1 ?_|((with_reducible refine jan ?_ ?_);(focus ((conv=>whnf);(try simp only[jiI]);(repeat ((first|refine V.s1 ?_|((refine⟨_,c1,?_⟩);(conv=>whnf)));(try simp only[jiI])));exact⟨rfl⟩));(conv=>whnf))|((try ((with_reducible refine .ext ?_);(conv=>whnf);(try simp only[jiI])));(with_reducible refine jaa (r:=?_) ?_ ?_);rotate_left;(focus (first|fail));(conv=>whnf))|((refine⟨_,c1,?_⟩);(conv=>whnf)));(try simp only[jiI]))|(refine And.intro ?_ ?_<;>(conv=>whnf);(try simp only[jiI])))
    refine V.r0 @ji8 ?_
    refine V.br (fun hq2=>?_) (fun hq2=>?_)
    ·have hj:0<j∧w (xs.getD j 0) (xs.getD (j-1) 0)<0:=by
      rw[ji0,decide_eq_true_eq,decide_eq_true_eq] at hq2
      omega
     obtain⟨i,rfl⟩:∃ i,j=i+1:=⟨j-1,by omega⟩
     rw[show i+1-1=i by omega] at hj
     have hw:=jeN h2 (show i+1<1 by omega)
     have e1:((i+1:Nat):Int).toNat=i+1:=by omega
     have e2:(((i+1:Nat):Int)-1).toNat=i:=by omega
     have e3:((i+1:Nat):Int)-1=(i:Int):=by omega
     have e4:(i:Int).toNat=i:=by omega
     have h3':insJ w i ((xs.set (i+1) (xs.getD i 0)).set i (xs.getD (i+1) 0))=isoK w [0] (k+1):=by
      rw[← h3]
      simp only[insJ]
      rw[if_pos hj.2]
     refine V.r0 @ji8 ?_
     refine⟨Pq5z,[],V.pok,?_⟩
     refine jab [] [(20,.arr .i64 ((xs.set (i+1) (xs.getD i 0)).set i (xs.getD (i+1) 0)))] ?_ ?_
     ·(conv=>whnf);(try simp only[jiN,e1,e2,e3,e4])
      repeat' (first|exact V.wk|((with_reducible refine And.intro ?_ jaA);(conv=>whnf);(try simp only[jiN,e1,e2,e3,e4]))|((with_reducible first|refine jar ?_ ?_|refine jau ?_ ?_)<;>(conv=>whnf);(try simp only[jiN,e1,e2,e3,e4]))|((first|refine V.s1 ?_|((with_reducible refine jan ?_ ?_);(focus ((conv=>whnf);(try simp only[jiN,e1,e2,e3,e4]);(repeat ((first|refine V.s1 ?_);(try simp only[jiN,e1,e2,e3,e4])));exact⟨rfl⟩));(conv=>whnf)));(try simp only[jiN,e1,e2,e3,e4]))|(refine And.intro ?_ ?_<;>(conv=>whnf);(try simp only[jiN,e1,e2,e3,e4])))
     refine V.r0 (V.a2 @ji8 e3) ?_
     exact⟨(i,(xs.set (i+1) (xs.getD i 0)).set i (xs.getD (i+1) 0)),⟨by dsimp only;omega,hw,h3'⟩,by dsimp only;omega,V.wk⟩
    ·have hx:isoK w [0] (k+1)=xs:=by
      rw[← h3]
      cases j with
      | zero=>rfl
      | succ i=>
       simp only[insJ]
       rw[if_neg]
       intro h
       rw[Bool.and_eq_false_iff,decide_eq_false_iff_not,decide_eq_false_iff_not,show i+1-1=i by omega] at hq2
       omega
     refine V.r0 @ji8 ?_
     refine⟨k+1,by omega,by omega,?_⟩
     rw[hx]
     exact V.wk
   have hk2:k+1=1:=by simp at hq;omega
   have hk3:k=1-1:=by omega
   subst hk3
   refine V.r0 @ji8 ?_
   refine jad (0) (fun k=>k=0) (fun k=>k) (fun k=>[(6,.int .i64 20)]) (fun k=>[]) ?_ ?_ ?_
   ·exact V.wk
   ·rfl
   clear hk
   intro k hk
   refine V.r0 @ji8 ?_
   obtain⟨xs,hxs⟩:∃ xs,isoK w [0] (1-1)=xs:=⟨_,rfl⟩
   rw[hxs] at hB ⊢
   have hl:=hB.1
   refine V.r1 @ji8 io ?_
   have hr:∀ m,m<1→List.take 2 (List.drop (m*2) ([.str (R 0).1,.str (R 0).2]:List D))=[.str (R m).1,.str (R m).2]:=fun m hm=>by
    have:m=0∨m=1∨m=2:=by omega
    rcases this with e|e|e<;>subst e<;>first|rfl|omega
   have e0:=hr (xs.getD 0 0).toNat (by have:=hB.2 0 (by omega);omega)
   have g0:=hB.2 0 (by omega)
   have sb0:=sb 0 (by omega)
   have hb0:=hBf 0 (by omega)
   rw[hxs] at sb0 hb0
   have hb':(Bf 0).1=o0∧(Bf 0).2=o1:=by rw[hBf0];exact⟨rfl,rfl⟩
   refine jad 0 (fun k=>k≤1) (fun k=>1-k) (fun k=>[(41,.int .i64 k)]) (fun k=>(9,.box [.str (Bf k).1,.str (Bf k).2])::(6,.box [.ints .i64 [z0],.int .i64 out,.ints .i64 data,.osl 17 0 1,.osl 20 0 1,wcl k])::wch W k) ?_ ?_ ?_
   ·rw[hb'.1,hb'.2]
    exact V.wk
   ·exact ji2 _
   clear hk
   intro k hk
   have hk4:k=0∨k=1:=by omega
   rcases hk4 with e|e
   all_goals subst e
   ·simp only[k0,wcl,wch]
    refine V.r0 jiO ?_
    refine⟨Pq41z,[],V.pok,?_⟩
    refine jab [(12,.box 12 0),(13,.int .i64 0)] [(12,.box [.str (W 0).1,.str (W 0).2])] ?_ ?_
    ·(conv=>whnf);(try simp only[ji8])
     repeat' (first|exact V.wk|((with_reducible refine And.intro ?_ jaA);(conv=>whnf);(try simp only[ji8]))|((with_reducible first|refine jar ?_ ?_|refine jau ?_ ?_)<;>(conv=>whnf);(try simp only[ji8]))|((first|refine V.s1 ?_|((with_reducible refine jan ?_ ?_);(focus ((conv=>whnf);(try simp only[ji8]);(repeat ((first|refine V.s1 ?_|((simp only[e0]);(conv=>whnf)));(try simp only[ji8])));exact⟨rfl⟩));(conv=>whnf))|((try ((with_reducible refine .ext ?_);(conv=>whnf);(try simp only[ji8])));(with_reducible refine jaa (r:=?_) ?_ ?_);rotate_left;(focus (first|exact(sb0)));(conv=>whnf))|((simp only[e0]);(conv=>whnf)));(try simp only[ji8]))|(refine And.intro ?_ ?_<;>(conv=>whnf);(try simp only[ji8])))
    (conv=>whnf)
    (try simp only[ji8])
    repeat ((first|refine V.s1 ?_|((try ((with_reducible refine .ext ?_);(conv=>whnf);(try simp only[ji8])));(with_reducible refine jaa (r:=?_) ?_ ?_);rotate_left;(focus (first|fail));(conv=>whnf))|((simp only[e0]);(conv=>whnf)));(try simp only[ji8]))
    refine⟨1,by omega,by omega,?_⟩
    rw[hb0]
    exact V.wk
   ·simp only[k1,wcl,wch]
    have ht:List.take 1 xs=xs:=jjW (by omega)
    refine V.r0 (V.a2 @ji8 ht) ?_
    rw[← hxs]
    exact Fin.of rfl
theorem jiu:type_of% @ji8∧type_of% @tn0∧type_of% @tn1∧type_of% @tn2∧type_of% @tn3:=⟨@ji8,@tn0,@tn1,@tn2,@tn3⟩
theorem jiH:type_of% @jjb∧type_of% @ji8∧type_of% @tns:=⟨@jjb,@ji8,@tns⟩
theorem jiM:type_of% @jj3 ∧ type_of% @ji8:=⟨@jj3,@ji8⟩
theorem find2_t (z0 z1 out b0 b1:Int)(data:List Int)(x0 y0 x1 y1 o0 o1:List UInt8)(R Bf W:Nat→Tx)
  (sp0:Cl 132 [.agg [.str x0,.str y0],.int .i64 z0] (.tup [.int .i64 b0,.agg [.str (R 0).1,.str (R 0).2],.int .i64 0]))
  (sp1:Cl 132 [.agg [.str x1,.str y1],.int .i64 z1] (.tup [.int .i64 b1,.agg [.str (R 1).1,.str (R 1).2],.int .i64 0]))
  (io:Cl 88 [.int .i64 1] (.agg [.str o0,.str o1])) (w:Int→Int→Int) (cm:∀ a b:Nat,a<2→b<2→Cl 134 [.int .i64 a,.int .i64 b,.ref [V.sl2 2 [.str (R 0).1,.str (R 0).2,.str (R 1).1,.str (R 1).2]]] (.int .i64 (w a b)))
  (hBf0:Bf 0=(o0,o1)) (hBf:∀ k,k<2→Bf (k+1)=R ((isoK w [0,1] (2-1)).getD k 0).toNat) (sb:∀ k,k<2→Cl 104 [.agg [.str (Bf k).1,.str (Bf k).2],.agg [.str (R ((isoK w [0,1] (2-1)).getD k 0).toNat).1,.str (R ((isoK w [0,1] (2-1)).getD k 0).toNat).2]] (.tup [.agg [.str (W k).1,.str (W k).2],.int .i64 0])) :
  Cl 73 [.agg [.ints .i64 [z0,z1],.int .i64 out,.ints .i64 data],V.sl2 2 [.str x0,.str y0,.str x1,.str y1]] (.tup [.agg [.ints .i64 [z0,z1],.int .i64 out,.ints .i64 data,.ints .i64 [b0,b1],.ints .i64 (isoK w [0,1] (2-1)),V.sl2 3 [.str (W 0).1,.str (W 0).2,.str (W 1).1,.str (W 1).2,.str (Bf 2).1,.str (Bf 2).2]],.int .i64 0]):=by
  refine V.en tbOk Tryz.func73 ?_
  refine V.r0 @ji8 ?_
  refine⟨Pq54z,[],V.pok,?_⟩
  refine jab [(6,.box 6 0),(17,.osl 17 0 2),(20,.osl 20 0 2)] [(6,.box [.ints .i64 [z0,z1],.int .i64 out,.ints .i64 data,.osl 17 0 2,.osl 20 0 2,.nil]),(17,.arr .i64 [0,0]),(20,.arr .i64 [0,0])] ?_ ?_
  ·exact V.d0 @ji8
  refine V.r0 @ji8 ?_
  refine V.il Tryz.func84 ?_
  refine V.r0 @ji8 ?_
  refine jad (0) (fun k=>k≤2) (fun k=>2-k) (fun k=>[(14,.int .i64 k)]) (fun k=>[(88,.box (preD (2*k) [.str (R 0).1,.str (R 0).2,.str (R 1).1,.str (R 1).2])),(17,.arr .i64 (preZ k [b0,b1])),(20,.arr .i64 (preZ k [0,1]))]) ?_ ?_ ?_
  ·exact V.wk
  ·exact ji2 _
  intro k hk
  have hk4:k=0∨k=1∨k=2:=by omega
  rcases hk4 with e|e|e
  all_goals subst e
  ·simp only[k0]
   have q1:(preZ 0 [b0,b1]).length=2:=rfl
   have q2:(preZ 0 [0,1]).length=2:=rfl
   refine V.r0 jiu ?_
   refine V.il Tryz.func131 ?_
   refine V.r0 jiu ?_
   refine⟨Pq21z,[],V.pok,?_⟩
   refine jab [(8,.box 118 0),(7,.int .i64 b0),(9,.int .i64 0)] [(118,.box [.str (R 0).1,.str (R 0).2])] ?_ ?_
   ·exact V.d1 jiu sp0
   refine V.r0 jiu ?_
   refine⟨Pq23z,[],V.pok,?_⟩
   refine jab [] [(17,.arr .i64 (preZ 1 [b0,b1])),(20,.arr .i64 (preZ 1 [0,1]))] ?_ ?_
   ·exact V.d0 jiu
   refine V.r0 jiu ?_
   exact⟨1,by omega,by omega,V.wk⟩
  ·simp only[k1]
   have q1:(preZ 1 [b0,b1]).length=2:=rfl
   have q2:(preZ 1 [0,1]).length=2:=rfl
   refine V.r0 jiu ?_
   refine V.il Tryz.func131 ?_
   refine V.r0 jiu ?_
   refine⟨Pq21z,[],V.pok,?_⟩
   refine jab [(8,.box 118 0),(7,.int .i64 b1),(9,.int .i64 0)] [(118,.box [.str (R 1).1,.str (R 1).2])] ?_ ?_
   ·exact V.d1 jiu sp1
   refine V.r0 jiu ?_
   refine⟨Pq23z,[],V.pok,?_⟩
   refine jab [] [(17,.arr .i64 (preZ 2 [b0,b1])),(20,.arr .i64 (preZ 2 [0,1]))] ?_ ?_
   ·exact V.d0 jiu
   refine V.r0 jiu ?_
   exact⟨2,by omega,by omega,V.wk⟩
  ·simp only[k2]
   (conv=>whnf)
   repeat ((fail_if_success (with_reducible refine Cnd.split ?_));refine V.s1 ?_;(try simp only[ji8]))
   refine V.s1 ?_
   (conv=>whnf)
   repeat ((fail_if_success (with_reducible refine Cnd.split ?_));refine V.s1 ?_;(try simp only[ji8]))
   refine ja2 [(7,.ref [V.sl2 2 [.str (R 0).1,.str (R 0).2,.str (R 1).1,.str (R 1).2]]),(22,.any),(26,.any),(27,.any)] [(7,.gone),(88,.gone)] (CondB.mk (fun h=>absurd h (by decide)) (fun _=>?_)) ?_
   ·(conv=>whnf)
    refine Wk.pub 88 ?_
    (conv=>whnf)
    refine Wk.pub 7 ?_
    (conv=>whnf)
    simp only[ji8]
    exact V.wk
   refine V.r0 @ji8 ?_
   refine V.il Tryz.func133 ?_
   refine V.r0 @ji8 ?_
   refine V.il Tryz.func182 ?_
   refine V.r0 @ji8 ?_
   refine jad (0) (fun k=>k=0) (fun k=>k) (fun k=>[(7,.int .i64 0),(8,.int .i64 20)]) (fun k=>[]) ?_ ?_ ?_
   ·exact V.wk
   ·rfl
   intro k hk
   refine V.r0 @ji8 ?_
   refine V.il Tryz.func216 ?_
   refine V.r0 @ji8 ?_
   refine jad (0) (fun k=>k+1≤2) (fun k=>2-k) (fun k=>[(8,.int .i64 ((k+1:Nat):Int))]) (fun k=>[(20,.arr .i64 (isoK w [0,1] k))]) ?_ ?_ ?_
   ·exact V.wk
   ·omega
   clear hk
   intro k hk
   have hB:=jgS w (n:=2) (xs:=[0,1]) ⟨rfl,fun i hi=>by
    have:i=0∨i=1∨i=2:=by omega
    rcases this with e|e|e<;>subst e<;>first|decide|omega⟩ k (by omega)
   refine V.r0 @ji8 ?_
   refine V.br (fun hq=>?_) (fun hq=>?_)
   ·have hk2:k+1<2:=by simp at hq;omega
    refine V.r0 @ji8 ?_
    refine jad ((k+1,isoK w [0,1] k):Nat×List Int) (fun s=>s.1≤k+1∧Bel 2 s.2∧insJ w s.1 s.2=isoK w [0,1] (k+1)) (fun s=>s.1) (fun s=>[(9,.int .i64 s.1)]) (fun s=>[(20,.arr .i64 s.2)]) ?_ ?_ ?_
    ·exact V.wk
    ·exact⟨jjc _,hB,rfl⟩
    rintro⟨j,xs⟩ ⟨h1,h2,h3⟩
    dsimp only at h1 h2 h3 ⊢
    have hl:=h2.1
    refine V.r0 @ji8 ?_
    have c1:(decide ((j:Int)>0)=true)→Cl 134 [.int .i64 (xs.getD j 0),.int .i64 (xs.getD (j-1) 0),.ref [V.sl2 2 [.str (R 0).1,.str (R 0).2,.str (R 1).1,.str (R 1).2]]] (.int .i64 (w (xs.getD j 0) (xs.getD (j-1) 0))):=fun h=>by
     have hj:(j:Int)>0:=of_decide_eq_true h
     have g1:=h2.2 j (by omega)
     have g2:=h2.2 (j-1) (by omega)
     have c:=cm (xs.getD j 0).toNat (xs.getD (j-1) 0).toNat (by omega) (by omega)
     rw[jja g1.1,jja g2.1] at c
     exact c
    refine⟨Pq8z,[],V.pok,?_⟩
    refine jab [(34,.bool (decide ((j:Int)>0) && decide (w (xs.getD j 0) (xs.getD (j-1) 0)<0)))] [] ?_ ?_
    ·(conv=>whnf);(try simp only[jiH])
     repeat' (first|exact V.wk|((with_reducible refine And.intro ?_ jaA);(conv=>whnf);(try simp only[jiH]))|((with_reducible first|refine jar ?_ ?_|refine jau ?_ ?_)<;>(conv=>whnf);(try simp only[jiH]))|((first|refine V.s1 ?_|((with_reducible refine jan ?_ ?_);(focus ((conv=>whnf);(try simp only[jiH]);(repeat ((first|refine V.s1 ?_|((refine⟨_,c1,?_⟩);(conv=>whnf)));(try simp only[jiH])));exact⟨rfl⟩));(conv=>whnf))|((try ((with_reducible refine .ext ?_);(conv=>whnf);(try simp only[jiH])));(with_reducible refine jaa (r:=?_) ?_ ?_);rotate_left;(focus (first|fail));(conv=>whnf))|((refine⟨_,c1,?_⟩);(conv=>whnf)));(try simp only[jiH]))|(refine And.intro ?_ ?_<;>(conv=>whnf);(try simp only[jiH])))
    refine V.r0 @ji8 ?_
    refine V.br (fun hq2=>?_) (fun hq2=>?_)
    ·have hj:0<j∧w (xs.getD j 0) (xs.getD (j-1) 0)<0:=by
      rw[ji0,decide_eq_true_eq,decide_eq_true_eq] at hq2
      omega
     obtain⟨i,rfl⟩:∃ i,j=i+1:=⟨j-1,by omega⟩
     rw[show i+1-1=i by omega] at hj
     have hw:=jeN h2 (show i+1<2 by omega)
     have e1:((i+1:Nat):Int).toNat=i+1:=by omega
     have e2:(((i+1:Nat):Int)-1).toNat=i:=by omega
     have e3:((i+1:Nat):Int)-1=(i:Int):=by omega
     have e4:(i:Int).toNat=i:=by omega
     have h3':insJ w i ((xs.set (i+1) (xs.getD i 0)).set i (xs.getD (i+1) 0))=isoK w [0,1] (k+1):=by
      rw[← h3]
      simp only[insJ]
      rw[if_pos hj.2]
     refine V.r0 @ji8 ?_
     refine⟨Pq5z,[],V.pok,?_⟩
     refine jab [] [(20,.arr .i64 ((xs.set (i+1) (xs.getD i 0)).set i (xs.getD (i+1) 0)))] ?_ ?_
     ·(conv=>whnf);(try simp only[jiM,e1,e2,e3,e4])
      repeat' (first|exact V.wk|((with_reducible refine And.intro ?_ jaA);(conv=>whnf);(try simp only[jiM,e1,e2,e3,e4]))|((with_reducible first|refine jar ?_ ?_|refine jau ?_ ?_)<;>(conv=>whnf);(try simp only[jiM,e1,e2,e3,e4]))|((first|refine V.s1 ?_|((with_reducible refine jan ?_ ?_);(focus ((conv=>whnf);(try simp only[jiM,e1,e2,e3,e4]);(repeat ((first|refine V.s1 ?_);(try simp only[jiM,e1,e2,e3,e4])));exact⟨rfl⟩));(conv=>whnf)));(try simp only[jiM,e1,e2,e3,e4]))|(refine And.intro ?_ ?_<;>(conv=>whnf);(try simp only[jiM,e1,e2,e3,e4])))
     refine V.r0 (V.a2 @ji8 e3) ?_
     exact⟨(i,(xs.set (i+1) (xs.getD i 0)).set i (xs.getD (i+1) 0)),⟨by dsimp only;omega,hw,h3'⟩,by dsimp only;omega,V.wk⟩
    ·have hx:isoK w [0,1] (k+1)=xs:=by
      rw[← h3]
      cases j with
      | zero=>rfl
      | succ i=>
       simp only[insJ]
       rw[if_neg]
       intro h
       rw[Bool.and_eq_false_iff,decide_eq_false_iff_not,decide_eq_false_iff_not,show i+1-1=i by omega] at hq2
       omega
     refine V.r0 @ji8 ?_
     refine⟨k+1,by omega,by omega,?_⟩
     rw[hx]
     exact V.wk
   have hk2:k+1=2:=by simp at hq;omega
   have hk3:k=2-1:=by omega
   subst hk3
   refine V.r0 @ji8 ?_
   refine jad (0) (fun k=>k=0) (fun k=>k) (fun k=>[(6,.int .i64 20)]) (fun k=>[]) ?_ ?_ ?_
   ·exact V.wk
   ·rfl
   clear hk
   intro k hk
   refine V.r0 @ji8 ?_
   obtain⟨xs,hxs⟩:∃ xs,isoK w [0,1] (2-1)=xs:=⟨_,rfl⟩
   rw[hxs] at hB ⊢
   have hl:=hB.1
   refine V.r1 @ji8 io ?_
   have hr:∀ m,m<2→List.take 2 (List.drop (m*2) ([.str (R 0).1,.str (R 0).2,.str (R 1).1,.str (R 1).2]:List D))=[.str (R m).1,.str (R m).2]:=fun m hm=>by
    have:m=0∨m=1∨m=2:=by omega
    rcases this with e|e|e<;>subst e<;>first|rfl|omega
   have e0:=hr (xs.getD 0 0).toNat (by have:=hB.2 0 (by omega);omega)
   have g0:=hB.2 0 (by omega)
   have sb0:=sb 0 (by omega)
   have hb0:=hBf 0 (by omega)
   rw[hxs] at sb0 hb0
   have e1:=hr (xs.getD 1 0).toNat (by have:=hB.2 1 (by omega);omega)
   have g1:=hB.2 1 (by omega)
   have sb1:=sb 1 (by omega)
   have hb1:=hBf 1 (by omega)
   rw[hxs] at sb1 hb1
   have hb':(Bf 0).1=o0∧(Bf 0).2=o1:=by rw[hBf0];exact⟨rfl,rfl⟩
   refine jad 0 (fun k=>k≤2) (fun k=>2-k) (fun k=>[(41,.int .i64 k)]) (fun k=>(9,.box [.str (Bf k).1,.str (Bf k).2])::(6,.box [.ints .i64 [z0,z1],.int .i64 out,.ints .i64 data,.osl 17 0 2,.osl 20 0 2,wcl k])::wch W k) ?_ ?_ ?_
   ·rw[hb'.1,hb'.2]
    exact V.wk
   ·exact ji2 _
   clear hk
   intro k hk
   have hk4:k=0∨k=1∨k=2:=by omega
   rcases hk4 with e|e|e
   all_goals subst e
   ·simp only[k0,wcl,wch]
    refine V.r0 jiu ?_
    refine⟨Pq41z,[],V.pok,?_⟩
    refine jab [(12,.box 12 0),(13,.int .i64 0)] [(12,.box [.str (W 0).1,.str (W 0).2])] ?_ ?_
    ·(conv=>whnf);(try simp only[ji8])
     repeat' (first|exact V.wk|((with_reducible refine And.intro ?_ jaA);(conv=>whnf);(try simp only[ji8]))|((with_reducible first|refine jar ?_ ?_|refine jau ?_ ?_)<;>(conv=>whnf);(try simp only[ji8]))|((first|refine V.s1 ?_|((with_reducible refine jan ?_ ?_);(focus ((conv=>whnf);(try simp only[ji8]);(repeat ((first|refine V.s1 ?_|((simp only[e0]);(conv=>whnf)));(try simp only[ji8])));exact⟨rfl⟩));(conv=>whnf))|((try ((with_reducible refine .ext ?_);(conv=>whnf);(try simp only[ji8])));(with_reducible refine jaa (r:=?_) ?_ ?_);rotate_left;(focus (first|exact(sb0)));(conv=>whnf))|((simp only[e0]);(conv=>whnf)));(try simp only[ji8]))|(refine And.intro ?_ ?_<;>(conv=>whnf);(try simp only[ji8])))
    (conv=>whnf)
    (try simp only[ji8])
    repeat ((first|refine V.s1 ?_|((try ((with_reducible refine .ext ?_);(conv=>whnf);(try simp only[ji8])));(with_reducible refine jaa (r:=?_) ?_ ?_);rotate_left;(focus (first|fail));(conv=>whnf))|((simp only[e0]);(conv=>whnf)));(try simp only[ji8]))
    refine⟨1,by omega,by omega,?_⟩
    rw[hb0]
    exact V.wk
   ·simp only[k1,wcl,wch]
    refine V.r0 jiu ?_
    refine⟨Pq41z,[],V.pok,?_⟩
    refine jab [(12,.box 12 0),(13,.int .i64 0)] [(12,.box [.str (W 1).1,.str (W 1).2])] ?_ ?_
    ·(conv=>whnf);(try simp only[ji8])
     repeat' (first|exact V.wk|((with_reducible refine And.intro ?_ jaA);(conv=>whnf);(try simp only[ji8]))|((with_reducible first|refine jar ?_ ?_|refine jau ?_ ?_)<;>(conv=>whnf);(try simp only[ji8]))|((first|refine V.s1 ?_|((with_reducible refine jan ?_ ?_);(focus ((conv=>whnf);(try simp only[ji8]);(repeat ((first|refine V.s1 ?_|((simp only[e1]);(conv=>whnf)));(try simp only[ji8])));exact⟨rfl⟩));(conv=>whnf))|((try ((with_reducible refine .ext ?_);(conv=>whnf);(try simp only[ji8])));(with_reducible refine jaa (r:=?_) ?_ ?_);rotate_left;(focus (first|exact(sb1)));(conv=>whnf))|((simp only[e1]);(conv=>whnf)));(try simp only[ji8]))|(refine And.intro ?_ ?_<;>(conv=>whnf);(try simp only[ji8])))
    (conv=>whnf)
    (try simp only[ji8])
    repeat ((first|refine V.s1 ?_|((try ((with_reducible refine .ext ?_);(conv=>whnf);(try simp only[ji8])));(with_reducible refine jaa (r:=?_) ?_ ?_);rotate_left;(focus (first|fail));(conv=>whnf))|((simp only[e1]);(conv=>whnf)));(try simp only[ji8]))
    refine⟨2,by omega,by omega,?_⟩
    rw[hb1]
    exact V.wk
   ·simp only[k2,wcl,wch]
    have ht:List.take 2 xs=xs:=jjW (by omega)
    refine V.r0 (V.a2 @ji8 ht) ?_
    rw[← hxs]
    exact Fin.of rfl
theorem jil:type_of% @ji8∧type_of% @tn0∧type_of% @tn1∧type_of% @tn2∧type_of% @tn3:=⟨@ji8,@tn0,@tn1,@tn2,@tn3⟩
theorem jiG:type_of% @jjb∧type_of% @ji8∧type_of% @tns:=⟨@jjb,@ji8,@tns⟩
theorem jiL:type_of% @jj3 ∧ type_of% @ji8:=⟨@jj3,@ji8⟩
theorem find3_t (z0 z1 z2 out b0 b1 b2:Int)(data:List Int)(x0 y0 x1 y1 x2 y2 o0 o1:List UInt8)(R Bf W:Nat→Tx)
  (sp0:Cl 132 [.agg [.str x0,.str y0],.int .i64 z0] (.tup [.int .i64 b0,.agg [.str (R 0).1,.str (R 0).2],.int .i64 0]))
  (sp1:Cl 132 [.agg [.str x1,.str y1],.int .i64 z1] (.tup [.int .i64 b1,.agg [.str (R 1).1,.str (R 1).2],.int .i64 0]))
  (sp2:Cl 132 [.agg [.str x2,.str y2],.int .i64 z2] (.tup [.int .i64 b2,.agg [.str (R 2).1,.str (R 2).2],.int .i64 0]))
  (io:Cl 88 [.int .i64 1] (.agg [.str o0,.str o1])) (w:Int→Int→Int) (cm:∀ a b:Nat,a<3→b<3→Cl 134 [.int .i64 a,.int .i64 b,.ref [V.sl2 3 [.str (R 0).1,.str (R 0).2,.str (R 1).1,.str (R 1).2,.str (R 2).1,.str (R 2).2]]] (.int .i64 (w a b)))
  (hBf0:Bf 0=(o0,o1)) (hBf:∀ k,k<3→Bf (k+1)=R ((isoK w [0,1,2] (3-1)).getD k 0).toNat) (sb:∀ k,k<3→Cl 104 [.agg [.str (Bf k).1,.str (Bf k).2],.agg [.str (R ((isoK w [0,1,2] (3-1)).getD k 0).toNat).1,.str (R ((isoK w [0,1,2] (3-1)).getD k 0).toNat).2]] (.tup [.agg [.str (W k).1,.str (W k).2],.int .i64 0])) :
  Cl 73 [.agg [.ints .i64 [z0,z1,z2],.int .i64 out,.ints .i64 data],V.sl2 3 [.str x0,.str y0,.str x1,.str y1,.str x2,.str y2]] (.tup [.agg [.ints .i64 [z0,z1,z2],.int .i64 out,.ints .i64 data,.ints .i64 [b0,b1,b2],.ints .i64 (isoK w [0,1,2] (3-1)),V.sl2 4 [.str (W 0).1,.str (W 0).2,.str (W 1).1,.str (W 1).2,.str (W 2).1,.str (W 2).2,.str (Bf 3).1,.str (Bf 3).2]],.int .i64 0]):=by
  refine V.en tbOk Tryz.func73 ?_
  refine V.r0 @ji8 ?_
  refine⟨Pq54z,[],V.pok,?_⟩
  refine jab [(6,.box 6 0),(17,.osl 17 0 3),(20,.osl 20 0 3)] [(6,.box [.ints .i64 [z0,z1,z2],.int .i64 out,.ints .i64 data,.osl 17 0 3,.osl 20 0 3,.nil]),(17,.arr .i64 [0,0,0]),(20,.arr .i64 [0,0,0])] ?_ ?_
  ·exact V.d0 @ji8
  refine V.r0 @ji8 ?_
  refine V.il Tryz.func84 ?_
  refine V.r0 @ji8 ?_
  refine jad (0) (fun k=>k≤3) (fun k=>3-k) (fun k=>[(14,.int .i64 k)]) (fun k=>[(88,.box (preD (2*k) [.str (R 0).1,.str (R 0).2,.str (R 1).1,.str (R 1).2,.str (R 2).1,.str (R 2).2])),(17,.arr .i64 (preZ k [b0,b1,b2])),(20,.arr .i64 (preZ k [0,1,2]))]) ?_ ?_ ?_
  ·exact V.wk
  ·exact ji2 _
  intro k hk
  have hk4:k=0∨k=1∨k=2∨k=3:=by omega
  rcases hk4 with e|e|e|e
  all_goals subst e
  ·simp only[k0]
   have q1:(preZ 0 [b0,b1,b2]).length=3:=rfl
   have q2:(preZ 0 [0,1,2]).length=3:=rfl
   refine V.r0 jil ?_
   refine V.il Tryz.func131 ?_
   refine V.r0 jil ?_
   refine⟨Pq21z,[],V.pok,?_⟩
   refine jab [(8,.box 118 0),(7,.int .i64 b0),(9,.int .i64 0)] [(118,.box [.str (R 0).1,.str (R 0).2])] ?_ ?_
   ·exact V.d1 jil sp0
   refine V.r0 jil ?_
   refine⟨Pq23z,[],V.pok,?_⟩
   refine jab [] [(17,.arr .i64 (preZ 1 [b0,b1,b2])),(20,.arr .i64 (preZ 1 [0,1,2]))] ?_ ?_
   ·exact V.d0 jil
   refine V.r0 jil ?_
   exact⟨1,by omega,by omega,V.wk⟩
  ·simp only[k1]
   have q1:(preZ 1 [b0,b1,b2]).length=3:=rfl
   have q2:(preZ 1 [0,1,2]).length=3:=rfl
   refine V.r0 jil ?_
   refine V.il Tryz.func131 ?_
   refine V.r0 jil ?_
   refine⟨Pq21z,[],V.pok,?_⟩
   refine jab [(8,.box 118 0),(7,.int .i64 b1),(9,.int .i64 0)] [(118,.box [.str (R 1).1,.str (R 1).2])] ?_ ?_
   ·exact V.d1 jil sp1
   refine V.r0 jil ?_
   refine⟨Pq23z,[],V.pok,?_⟩
   refine jab [] [(17,.arr .i64 (preZ 2 [b0,b1,b2])),(20,.arr .i64 (preZ 2 [0,1,2]))] ?_ ?_
   ·exact V.d0 jil
   refine V.r0 jil ?_
   exact⟨2,by omega,by omega,V.wk⟩
  ·simp only[k2]
   have q1:(preZ 2 [b0,b1,b2]).length=3:=rfl
   have q2:(preZ 2 [0,1,2]).length=3:=rfl
   refine V.r0 jil ?_
   refine V.il Tryz.func131 ?_
   refine V.r0 jil ?_
   refine⟨Pq21z,[],V.pok,?_⟩
   refine jab [(8,.box 118 0),(7,.int .i64 b2),(9,.int .i64 0)] [(118,.box [.str (R 2).1,.str (R 2).2])] ?_ ?_
   ·exact V.d1 jil sp2
   refine V.r0 jil ?_
   refine⟨Pq23z,[],V.pok,?_⟩
   refine jab [] [(17,.arr .i64 (preZ 3 [b0,b1,b2])),(20,.arr .i64 (preZ 3 [0,1,2]))] ?_ ?_
   ·exact V.d0 jil
   refine V.r0 jil ?_
   exact⟨3,by omega,by omega,V.wk⟩
  ·simp only[k3]
   (conv=>whnf)
   repeat ((fail_if_success (with_reducible refine Cnd.split ?_));refine V.s1 ?_;(try simp only[ji8]))
   refine V.s1 ?_
   (conv=>whnf)
   repeat ((fail_if_success (with_reducible refine Cnd.split ?_));refine V.s1 ?_;(try simp only[ji8]))
   refine ja2 [(7,.ref [V.sl2 3 [.str (R 0).1,.str (R 0).2,.str (R 1).1,.str (R 1).2,.str (R 2).1,.str (R 2).2]]),(22,.any),(26,.any),(27,.any)] [(7,.gone),(88,.gone)] (CondB.mk (fun h=>absurd h (by decide)) (fun _=>?_)) ?_
   ·(conv=>whnf)
    refine Wk.pub 88 ?_
    (conv=>whnf)
    refine Wk.pub 7 ?_
    (conv=>whnf)
    simp only[ji8]
    exact V.wk
   refine V.r0 @ji8 ?_
   refine V.il Tryz.func133 ?_
   refine V.r0 @ji8 ?_
   refine V.il Tryz.func182 ?_
   refine V.r0 @ji8 ?_
   refine jad (0) (fun k=>k=0) (fun k=>k) (fun k=>[(7,.int .i64 0),(8,.int .i64 20)]) (fun k=>[]) ?_ ?_ ?_
   ·exact V.wk
   ·rfl
   intro k hk
   refine V.r0 @ji8 ?_
   refine V.il Tryz.func216 ?_
   refine V.r0 @ji8 ?_
   refine jad (0) (fun k=>k+1≤3) (fun k=>3-k) (fun k=>[(8,.int .i64 ((k+1:Nat):Int))]) (fun k=>[(20,.arr .i64 (isoK w [0,1,2] k))]) ?_ ?_ ?_
   ·exact V.wk
   ·omega
   clear hk
   intro k hk
   have hB:=jgS w (n:=3) (xs:=[0,1,2]) ⟨rfl,fun i hi=>by
    have:i=0∨i=1∨i=2:=by omega
    rcases this with e|e|e<;>subst e<;>first|decide|omega⟩ k (by omega)
   refine V.r0 @ji8 ?_
   refine V.br (fun hq=>?_) (fun hq=>?_)
   ·have hk2:k+1<3:=by simp at hq;omega
    refine V.r0 @ji8 ?_
    refine jad ((k+1,isoK w [0,1,2] k):Nat×List Int) (fun s=>s.1≤k+1∧Bel 3 s.2∧insJ w s.1 s.2=isoK w [0,1,2] (k+1)) (fun s=>s.1) (fun s=>[(9,.int .i64 s.1)]) (fun s=>[(20,.arr .i64 s.2)]) ?_ ?_ ?_
    ·exact V.wk
    ·exact⟨jjc _,hB,rfl⟩
    rintro⟨j,xs⟩ ⟨h1,h2,h3⟩
    dsimp only at h1 h2 h3 ⊢
    have hl:=h2.1
    refine V.r0 @ji8 ?_
    have c1:(decide ((j:Int)>0)=true)→Cl 134 [.int .i64 (xs.getD j 0),.int .i64 (xs.getD (j-1) 0),.ref [V.sl2 3 [.str (R 0).1,.str (R 0).2,.str (R 1).1,.str (R 1).2,.str (R 2).1,.str (R 2).2]]] (.int .i64 (w (xs.getD j 0) (xs.getD (j-1) 0))):=fun h=>by
     have hj:(j:Int)>0:=of_decide_eq_true h
     have g1:=h2.2 j (by omega)
     have g2:=h2.2 (j-1) (by omega)
     have c:=cm (xs.getD j 0).toNat (xs.getD (j-1) 0).toNat (by omega) (by omega)
     rw[jja g1.1,jja g2.1] at c
     exact c
    refine⟨Pq8z,[],V.pok,?_⟩
    refine jab [(34,.bool (decide ((j:Int)>0) && decide (w (xs.getD j 0) (xs.getD (j-1) 0)<0)))] [] ?_ ?_
    ·(conv=>whnf);(try simp only[jiG])
     repeat' (first|exact V.wk|((with_reducible refine And.intro ?_ jaA);(conv=>whnf);(try simp only[jiG]))|((with_reducible first|refine jar ?_ ?_|refine jau ?_ ?_)<;>(conv=>whnf);(try simp only[jiG]))|((first|refine V.s1 ?_|((with_reducible refine jan ?_ ?_);(focus ((conv=>whnf);(try simp only[jiG]);(repeat ((first|refine V.s1 ?_|((refine⟨_,c1,?_⟩);(conv=>whnf)));(try simp only[jiG])));exact⟨rfl⟩));(conv=>whnf))|((try ((with_reducible refine .ext ?_);(conv=>whnf);(try simp only[jiG])));(with_reducible refine jaa (r:=?_) ?_ ?_);rotate_left;(focus (first|fail));(conv=>whnf))|((refine⟨_,c1,?_⟩);(conv=>whnf)));(try simp only[jiG]))|(refine And.intro ?_ ?_<;>(conv=>whnf);(try simp only[jiG])))
    refine V.r0 @ji8 ?_
    refine V.br (fun hq2=>?_) (fun hq2=>?_)
    ·have hj:0<j∧w (xs.getD j 0) (xs.getD (j-1) 0)<0:=by
      rw[ji0,decide_eq_true_eq,decide_eq_true_eq] at hq2
      omega
     obtain⟨i,rfl⟩:∃ i,j=i+1:=⟨j-1,by omega⟩
     rw[show i+1-1=i by omega] at hj
     have hw:=jeN h2 (show i+1<3 by omega)
     have e1:((i+1:Nat):Int).toNat=i+1:=by omega
     have e2:(((i+1:Nat):Int)-1).toNat=i:=by omega
     have e3:((i+1:Nat):Int)-1=(i:Int):=by omega
     have e4:(i:Int).toNat=i:=by omega
     have h3':insJ w i ((xs.set (i+1) (xs.getD i 0)).set i (xs.getD (i+1) 0))=isoK w [0,1,2] (k+1):=by
      rw[← h3]
      simp only[insJ]
      rw[if_pos hj.2]
     refine V.r0 @ji8 ?_
     refine⟨Pq5z,[],V.pok,?_⟩
     refine jab [] [(20,.arr .i64 ((xs.set (i+1) (xs.getD i 0)).set i (xs.getD (i+1) 0)))] ?_ ?_
     ·(conv=>whnf);(try simp only[jiL,e1,e2,e3,e4])
      repeat' (first|exact V.wk|((with_reducible refine And.intro ?_ jaA);(conv=>whnf);(try simp only[jiL,e1,e2,e3,e4]))|((with_reducible first|refine jar ?_ ?_|refine jau ?_ ?_)<;>(conv=>whnf);(try simp only[jiL,e1,e2,e3,e4]))|((first|refine V.s1 ?_|((with_reducible refine jan ?_ ?_);(focus ((conv=>whnf);(try simp only[jiL,e1,e2,e3,e4]);(repeat ((first|refine V.s1 ?_);(try simp only[jiL,e1,e2,e3,e4])));exact⟨rfl⟩));(conv=>whnf)));(try simp only[jiL,e1,e2,e3,e4]))|(refine And.intro ?_ ?_<;>(conv=>whnf);(try simp only[jiL,e1,e2,e3,e4])))
     refine V.r0 (V.a2 @ji8 e3) ?_
     exact⟨(i,(xs.set (i+1) (xs.getD i 0)).set i (xs.getD (i+1) 0)),⟨by dsimp only;omega,hw,h3'⟩,by dsimp only;omega,V.wk⟩
    ·have hx:isoK w [0,1,2] (k+1)=xs:=by
      rw[← h3]
      cases j with
      | zero=>rfl
      | succ i=>
       simp only[insJ]
       rw[if_neg]
       intro h
       rw[Bool.and_eq_false_iff,decide_eq_false_iff_not,decide_eq_false_iff_not,show i+1-1=i by omega] at hq2
       omega
     refine V.r0 @ji8 ?_
     refine⟨k+1,by omega,by omega,?_⟩
     rw[hx]
     exact V.wk
   have hk2:k+1=3:=by simp at hq;omega
   have hk3:k=3-1:=by omega
   subst hk3
   refine V.r0 @ji8 ?_
   refine jad (0) (fun k=>k=0) (fun k=>k) (fun k=>[(6,.int .i64 20)]) (fun k=>[]) ?_ ?_ ?_
   ·exact V.wk
   ·rfl
   clear hk
   intro k hk
   refine V.r0 @ji8 ?_
   obtain⟨xs,hxs⟩:∃ xs,isoK w [0,1,2] (3-1)=xs:=⟨_,rfl⟩
   rw[hxs] at hB ⊢
   have hl:=hB.1
   refine V.r1 @ji8 io ?_
   have hr:∀ m,m<3→List.take 2 (List.drop (m*2) ([.str (R 0).1,.str (R 0).2,.str (R 1).1,.str (R 1).2,.str (R 2).1,.str (R 2).2]:List D))=[.str (R m).1,.str (R m).2]:=fun m hm=>by
    have:m=0∨m=1∨m=2:=by omega
    rcases this with e|e|e<;>subst e<;>first|rfl|omega
   have e0:=hr (xs.getD 0 0).toNat (by have:=hB.2 0 (by omega);omega)
   have g0:=hB.2 0 (by omega)
   have sb0:=sb 0 (by omega)
   have hb0:=hBf 0 (by omega)
   rw[hxs] at sb0 hb0
   have e1:=hr (xs.getD 1 0).toNat (by have:=hB.2 1 (by omega);omega)
   have g1:=hB.2 1 (by omega)
   have sb1:=sb 1 (by omega)
   have hb1:=hBf 1 (by omega)
   rw[hxs] at sb1 hb1
   have e2:=hr (xs.getD 2 0).toNat (by have:=hB.2 2 (by omega);omega)
   have g2:=hB.2 2 (by omega)
   have sb2:=sb 2 (by omega)
   have hb2:=hBf 2 (by omega)
   rw[hxs] at sb2 hb2
   have hb':(Bf 0).1=o0∧(Bf 0).2=o1:=by rw[hBf0];exact⟨rfl,rfl⟩
   refine jad 0 (fun k=>k≤3) (fun k=>3-k) (fun k=>[(41,.int .i64 k)]) (fun k=>(9,.box [.str (Bf k).1,.str (Bf k).2])::(6,.box [.ints .i64 [z0,z1,z2],.int .i64 out,.ints .i64 data,.osl 17 0 3,.osl 20 0 3,wcl k])::wch W k) ?_ ?_ ?_
   ·rw[hb'.1,hb'.2]
    exact V.wk
   ·exact ji2 _
   clear hk
   intro k hk
   have hk4:k=0∨k=1∨k=2∨k=3:=by omega
   rcases hk4 with e|e|e|e
   all_goals subst e
   ·simp only[k0,wcl,wch]
    refine V.r0 jil ?_
    refine⟨Pq41z,[],V.pok,?_⟩
    refine jab [(12,.box 12 0),(13,.int .i64 0)] [(12,.box [.str (W 0).1,.str (W 0).2])] ?_ ?_
    ·(conv=>whnf);(try simp only[ji8])
     repeat' (first|exact V.wk|((with_reducible refine And.intro ?_ jaA);(conv=>whnf);(try simp only[ji8]))|((with_reducible first|refine jar ?_ ?_|refine jau ?_ ?_)<;>(conv=>whnf);(try simp only[ji8]))|((first|refine V.s1 ?_|((with_reducible refine jan ?_ ?_);(focus ((conv=>whnf);(try simp only[ji8]);(repeat ((first|refine V.s1 ?_|((simp only[e0]);(conv=>whnf)));(try simp only[ji8])));exact⟨rfl⟩));(conv=>whnf))|((try ((with_reducible refine .ext ?_);(conv=>whnf);(try simp only[ji8])));(with_reducible refine jaa (r:=?_) ?_ ?_);rotate_left;(focus (first|exact(sb0)));(conv=>whnf))|((simp only[e0]);(conv=>whnf)));(try simp only[ji8]))|(refine And.intro ?_ ?_<;>(conv=>whnf);(try simp only[ji8])))
    (conv=>whnf)
    (try simp only[ji8])
    repeat ((first|refine V.s1 ?_|((try ((with_reducible refine .ext ?_);(conv=>whnf);(try simp only[ji8])));(with_reducible refine jaa (r:=?_) ?_ ?_);rotate_left;(focus (first|fail));(conv=>whnf))|((simp only[e0]);(conv=>whnf)));(try simp only[ji8]))
    refine⟨1,by omega,by omega,?_⟩
    rw[hb0]
    exact V.wk
   ·simp only[k1,wcl,wch]
    refine V.r0 jil ?_
    refine⟨Pq41z,[],V.pok,?_⟩
    refine jab [(12,.box 12 0),(13,.int .i64 0)] [(12,.box [.str (W 1).1,.str (W 1).2])] ?_ ?_
    ·(conv=>whnf);(try simp only[ji8])
     repeat' (first|exact V.wk|((with_reducible refine And.intro ?_ jaA);(conv=>whnf);(try simp only[ji8]))|((with_reducible first|refine jar ?_ ?_|refine jau ?_ ?_)<;>(conv=>whnf);(try simp only[ji8]))|((first|refine V.s1 ?_|((with_reducible refine jan ?_ ?_);(focus ((conv=>whnf);(try simp only[ji8]);(repeat ((first|refine V.s1 ?_|((simp only[e1]);(conv=>whnf)));(try simp only[ji8])));exact⟨rfl⟩));(conv=>whnf))|((try ((with_reducible refine .ext ?_);(conv=>whnf);(try simp only[ji8])));(with_reducible refine jaa (r:=?_) ?_ ?_);rotate_left;(focus (first|exact(sb1)));(conv=>whnf))|((simp only[e1]);(conv=>whnf)));(try simp only[ji8]))|(refine And.intro ?_ ?_<;>(conv=>whnf);(try simp only[ji8])))
    (conv=>whnf)
    (try simp only[ji8])
    repeat ((first|refine V.s1 ?_|((try ((with_reducible refine .ext ?_);(conv=>whnf);(try simp only[ji8])));(with_reducible refine jaa (r:=?_) ?_ ?_);rotate_left;(focus (first|fail));(conv=>whnf))|((simp only[e1]);(conv=>whnf)));(try simp only[ji8]))
    refine⟨2,by omega,by omega,?_⟩
    rw[hb1]
    exact V.wk
   ·simp only[k2,wcl,wch]
    refine V.r0 jil ?_
    refine⟨Pq41z,[],V.pok,?_⟩
    refine jab [(12,.box 12 0),(13,.int .i64 0)] [(12,.box [.str (W 2).1,.str (W 2).2])] ?_ ?_
    ·(conv=>whnf);(try simp only[ji8])
     repeat' (first|exact V.wk|((with_reducible refine And.intro ?_ jaA);(conv=>whnf);(try simp only[ji8]))|((with_reducible first|refine jar ?_ ?_|refine jau ?_ ?_)<;>(conv=>whnf);(try simp only[ji8]))|((first|refine V.s1 ?_|((with_reducible refine jan ?_ ?_);(focus ((conv=>whnf);(try simp only[ji8]);(repeat ((first|refine V.s1 ?_|((simp only[e2]);(conv=>whnf)));(try simp only[ji8])));exact⟨rfl⟩));(conv=>whnf))|((try ((with_reducible refine .ext ?_);(conv=>whnf);(try simp only[ji8])));(with_reducible refine jaa (r:=?_) ?_ ?_);rotate_left;(focus (first|exact(sb2)));(conv=>whnf))|((simp only[e2]);(conv=>whnf)));(try simp only[ji8]))|(refine And.intro ?_ ?_<;>(conv=>whnf);(try simp only[ji8])))
    (conv=>whnf)
    (try simp only[ji8])
    repeat ((first|refine V.s1 ?_|((try ((with_reducible refine .ext ?_);(conv=>whnf);(try simp only[ji8])));(with_reducible refine jaa (r:=?_) ?_ ?_);rotate_left;(focus (first|fail));(conv=>whnf))|((simp only[e2]);(conv=>whnf)));(try simp only[ji8]))
    refine⟨3,by omega,by omega,?_⟩
    rw[hb2]
    exact V.wk
   ·simp only[k3,wcl,wch]
    have ht:List.take 3 xs=xs:=jjW (by omega)
    refine V.r0 (V.a2 @ji8 ht) ?_
    rw[← hxs]
    exact Fin.of rfl
theorem jdO (p q:Rat):(ordQ p q<0)↔p<q:=by
 unfold ordQ
 by_cases h:p<q
 ·rw[if_pos h];exact⟨fun _=>h,fun _=>by decide⟩
 ·rw[if_neg h]
  by_cases g:p=q
  ·rw[if_pos g];exact⟨fun h'=>by omega,fun h'=>absurd h' h⟩
  ·rw[if_neg g];exact⟨fun h'=>by omega,fun h'=>absurd h' h⟩
def cmpW (r0 r1 r2:Rat)(a b:Int):Int:=ordQ (sel r0 r1 r2 b) (sel r0 r1 r2 a)
theorem iso1 (w:Int→Int→Int):isoK w [0] (1-1)=[0]:=rfl
theorem iso2 (r0 r1 r2:Rat):isoK (cmpW r0 r1 r2) [0,1] (2-1)=ord2 r0 r1:=by
 show insJ (cmpW r0 r1 r2) 1 [0,1]=_
 unfold ord2
 have e:(cmpW r0 r1 r2 1 0<0)↔r0<r1:=jdO _ _
 by_cases h:r0<r1
 ·rw[if_pos h]
  simp only[insJ]
  rw[if_pos (show cmpW r0 r1 r2 ([0,1].getD (0+1) 0) ([0,1].getD 0 0)<0 from e.2 h)]
  rfl
 ·rw[if_neg h]
  simp only[insJ]
  rw[if_neg (show ¬ cmpW r0 r1 r2 ([0,1].getD (0+1) 0) ([0,1].getD 0 0)<0 from fun g=>h (e.1 g))]
theorem jfj {w:Int→Int→Int}{j:Nat}{xs:List Int}(h:w (xs.getD (j+1) 0) (xs.getD j 0)<0):insJ w (j+1) xs=insJ w j ((xs.set (j+1) (xs.getD j 0)).set j (xs.getD (j+1) 0)):=by
 simp only[insJ];rw[if_pos h]
theorem jhd {w:Int→Int→Int}{j:Nat}{xs:List Int}(h:¬ w (xs.getD (j+1) 0) (xs.getD j 0)<0):insJ w (j+1) xs=xs:=by
 simp only[insJ];rw[if_neg h]
theorem iso3 (r0 r1 r2:Rat):isoK (cmpW r0 r1 r2) [0,1,2] (3-1)=ord3 r0 r1 r2:=by
 have e01:(cmpW r0 r1 r2 1 0<0)↔r0<r1:=jdO _ _
 have e02:(cmpW r0 r1 r2 2 0<0)↔r0<r2:=jdO _ _
 have e12:(cmpW r0 r1 r2 2 1<0)↔r1<r2:=jdO _ _
 show insJ (cmpW r0 r1 r2) 2 (insJ (cmpW r0 r1 r2) 1 [0,1,2])=_
 unfold ord3
 by_cases h01:r0<r1
 ·rw[if_pos h01,jfj (j:=0) (xs:=[0,1,2]) (e01.2 h01)]
  show insJ (cmpW r0 r1 r2) 2 [1,0,2]=_
  by_cases h02:r0<r2
  ·rw[if_pos h02,jfj (j:=1) (xs:=[1,0,2]) (e02.2 h02)]
   show insJ (cmpW r0 r1 r2) 1 [1,2,0]=_
   by_cases h12:r1<r2
   ·rw[if_pos h12,jfj (j:=0) (xs:=[1,2,0]) (e12.2 h12)]
    rfl
   ·rw[if_neg h12,jhd (j:=0) (xs:=[1,2,0]) fun g=>h12 (e12.1 g)]
  ·rw[if_neg h02,jhd (j:=1) (xs:=[1,0,2]) fun g=>h02 (e02.1 g)]
 ·rw[if_neg h01,jhd (j:=0) (xs:=[0,1,2]) fun g=>h01 (e01.1 g)]
  by_cases h12:r1<r2
  ·rw[if_pos h12,jfj (j:=1) (xs:=[0,1,2]) (e12.2 h12)]
   show insJ (cmpW r0 r1 r2) 1 [0,2,1]=_
   by_cases h02:r0<r2
   ·rw[if_pos h02,jfj (j:=0) (xs:=[0,2,1]) (e02.2 h02)]
    rfl
   ·rw[if_neg h02,jhd (j:=0) (xs:=[0,2,1]) fun g=>h02 (e02.1 g)]
  ·rw[if_neg h12,jhd (j:=1) (xs:=[0,1,2]) fun g=>h12 (e12.1 g)]
theorem jim:type_of% @ji8∧type_of% @tn0∧type_of% @tn1∧type_of% @tn2:=⟨@ji8,@tn0,@tn1,@tn2⟩
theorem cmp1_00 (R:Nat→Tx)(w:Int)(c:Cl 135 [.agg [.str (R 0).1,.str (R 0).2],.agg [.str (R 0).1,.str (R 0).2]] (.tup [.int .i64 w,.int .i64 0]))(hw:InR .i64 w):Cl 134 [.int .i64 0,.int .i64 0,.ref [V.sl2 1 [.str (R 0).1,.str (R 0).2]]] (.int .i64 w):=by
 refine V.en tbOk Tryz.func134 ?_
 refine V.r0 jim ?_
 refine⟨Pq26z,[],V.pok,?_⟩
 refine jab [(6,.int .i64 w)] [] ?_ ?_
 ·exact V.d1 jim c
 refine V.r0 @ji8 ?_
 exact Fin.of rfl
theorem cmp1 (R:Nat→Tx)(w:Int→Int→Int)(hw:∀ a b,InR .i64 (w a b))(c:∀ a b:Nat,a<1→b<1→Cl 135 [.agg [.str (R b).1,.str (R b).2],.agg [.str (R a).1,.str (R a).2]] (.tup [.int .i64 (w a b),.int .i64 0])):∀ a b:Nat,a<1→b<1→Cl 134 [.int .i64 a,.int .i64 b,.ref [V.sl2 1 [.str (R 0).1,.str (R 0).2]]] (.int .i64 (w a b)):=fun a b ha hb=>by
 have h1:a=0:=by omega
 have h2:b=0:=by omega
 have k:=c a b ha hb
 subst h1 h2
 ·exact cmp1_00 R _ k (hw _ _)
theorem cmp2_00 (R:Nat→Tx)(w:Int)(c:Cl 135 [.agg [.str (R 0).1,.str (R 0).2],.agg [.str (R 0).1,.str (R 0).2]] (.tup [.int .i64 w,.int .i64 0]))(hw:InR .i64 w):Cl 134 [.int .i64 0,.int .i64 0,.ref [V.sl2 2 [.str (R 0).1,.str (R 0).2,.str (R 1).1,.str (R 1).2]]] (.int .i64 w):=by
 refine V.en tbOk Tryz.func134 ?_
 refine V.r0 jim ?_
 refine⟨Pq26z,[],V.pok,?_⟩
 refine jab [(6,.int .i64 w)] [] ?_ ?_
 ·exact V.d1 jim c
 refine V.r0 @ji8 ?_
 exact Fin.of rfl
theorem cmp2_01 (R:Nat→Tx)(w:Int)(c:Cl 135 [.agg [.str (R 1).1,.str (R 1).2],.agg [.str (R 0).1,.str (R 0).2]] (.tup [.int .i64 w,.int .i64 0]))(hw:InR .i64 w):Cl 134 [.int .i64 0,.int .i64 1,.ref [V.sl2 2 [.str (R 0).1,.str (R 0).2,.str (R 1).1,.str (R 1).2]]] (.int .i64 w):=by
 refine V.en tbOk Tryz.func134 ?_
 refine V.r0 jim ?_
 refine⟨Pq26z,[],V.pok,?_⟩
 refine jab [(6,.int .i64 w)] [] ?_ ?_
 ·exact V.d1 jim c
 refine V.r0 @ji8 ?_
 exact Fin.of rfl
theorem cmp2_10 (R:Nat→Tx)(w:Int)(c:Cl 135 [.agg [.str (R 0).1,.str (R 0).2],.agg [.str (R 1).1,.str (R 1).2]] (.tup [.int .i64 w,.int .i64 0]))(hw:InR .i64 w):Cl 134 [.int .i64 1,.int .i64 0,.ref [V.sl2 2 [.str (R 0).1,.str (R 0).2,.str (R 1).1,.str (R 1).2]]] (.int .i64 w):=by
 refine V.en tbOk Tryz.func134 ?_
 refine V.r0 jim ?_
 refine⟨Pq26z,[],V.pok,?_⟩
 refine jab [(6,.int .i64 w)] [] ?_ ?_
 ·exact V.d1 jim c
 refine V.r0 @ji8 ?_
 exact Fin.of rfl
theorem cmp2_11 (R:Nat→Tx)(w:Int)(c:Cl 135 [.agg [.str (R 1).1,.str (R 1).2],.agg [.str (R 1).1,.str (R 1).2]] (.tup [.int .i64 w,.int .i64 0]))(hw:InR .i64 w):Cl 134 [.int .i64 1,.int .i64 1,.ref [V.sl2 2 [.str (R 0).1,.str (R 0).2,.str (R 1).1,.str (R 1).2]]] (.int .i64 w):=by
 refine V.en tbOk Tryz.func134 ?_
 refine V.r0 jim ?_
 refine⟨Pq26z,[],V.pok,?_⟩
 refine jab [(6,.int .i64 w)] [] ?_ ?_
 ·exact V.d1 jim c
 refine V.r0 @ji8 ?_
 exact Fin.of rfl
theorem cmp2 (R:Nat→Tx)(w:Int→Int→Int)(hw:∀ a b,InR .i64 (w a b))(c:∀ a b:Nat,a<2→b<2→Cl 135 [.agg [.str (R b).1,.str (R b).2],.agg [.str (R a).1,.str (R a).2]] (.tup [.int .i64 (w a b),.int .i64 0])):∀ a b:Nat,a<2→b<2→Cl 134 [.int .i64 a,.int .i64 b,.ref [V.sl2 2 [.str (R 0).1,.str (R 0).2,.str (R 1).1,.str (R 1).2]]] (.int .i64 (w a b)):=fun a b ha hb=>by
 have h1:a=0∨a=1:=by omega
 have h2:b=0∨b=1:=by omega
 have k:=c a b ha hb
 rcases h1 with e|e<;>rcases h2 with g|g<;>subst e<;>subst g
 ·exact cmp2_00 R _ k (hw _ _)
 ·exact cmp2_01 R _ k (hw _ _)
 ·exact cmp2_10 R _ k (hw _ _)
 ·exact cmp2_11 R _ k (hw _ _)
theorem cmp3_00 (R:Nat→Tx)(w:Int)(c:Cl 135 [.agg [.str (R 0).1,.str (R 0).2],.agg [.str (R 0).1,.str (R 0).2]] (.tup [.int .i64 w,.int .i64 0]))(hw:InR .i64 w):Cl 134 [.int .i64 0,.int .i64 0,.ref [V.sl2 3 [.str (R 0).1,.str (R 0).2,.str (R 1).1,.str (R 1).2,.str (R 2).1,.str (R 2).2]]] (.int .i64 w):=by
 refine V.en tbOk Tryz.func134 ?_
 refine V.r0 jim ?_
 refine⟨Pq26z,[],V.pok,?_⟩
 refine jab [(6,.int .i64 w)] [] ?_ ?_
 ·exact V.d1 jim c
 refine V.r0 @ji8 ?_
 exact Fin.of rfl
theorem cmp3_01 (R:Nat→Tx)(w:Int)(c:Cl 135 [.agg [.str (R 1).1,.str (R 1).2],.agg [.str (R 0).1,.str (R 0).2]] (.tup [.int .i64 w,.int .i64 0]))(hw:InR .i64 w):Cl 134 [.int .i64 0,.int .i64 1,.ref [V.sl2 3 [.str (R 0).1,.str (R 0).2,.str (R 1).1,.str (R 1).2,.str (R 2).1,.str (R 2).2]]] (.int .i64 w):=by
 refine V.en tbOk Tryz.func134 ?_
 refine V.r0 jim ?_
 refine⟨Pq26z,[],V.pok,?_⟩
 refine jab [(6,.int .i64 w)] [] ?_ ?_
 ·exact V.d1 jim c
 refine V.r0 @ji8 ?_
 exact Fin.of rfl
theorem cmp3_02 (R:Nat→Tx)(w:Int)(c:Cl 135 [.agg [.str (R 2).1,.str (R 2).2],.agg [.str (R 0).1,.str (R 0).2]] (.tup [.int .i64 w,.int .i64 0]))(hw:InR .i64 w):Cl 134 [.int .i64 0,.int .i64 2,.ref [V.sl2 3 [.str (R 0).1,.str (R 0).2,.str (R 1).1,.str (R 1).2,.str (R 2).1,.str (R 2).2]]] (.int .i64 w):=by
 refine V.en tbOk Tryz.func134 ?_
 refine V.r0 jim ?_
 refine⟨Pq26z,[],V.pok,?_⟩
 refine jab [(6,.int .i64 w)] [] ?_ ?_
 ·exact V.d1 jim c
 refine V.r0 @ji8 ?_
 exact Fin.of rfl
theorem cmp3_10 (R:Nat→Tx)(w:Int)(c:Cl 135 [.agg [.str (R 0).1,.str (R 0).2],.agg [.str (R 1).1,.str (R 1).2]] (.tup [.int .i64 w,.int .i64 0]))(hw:InR .i64 w):Cl 134 [.int .i64 1,.int .i64 0,.ref [V.sl2 3 [.str (R 0).1,.str (R 0).2,.str (R 1).1,.str (R 1).2,.str (R 2).1,.str (R 2).2]]] (.int .i64 w):=by
 refine V.en tbOk Tryz.func134 ?_
 refine V.r0 jim ?_
 refine⟨Pq26z,[],V.pok,?_⟩
 refine jab [(6,.int .i64 w)] [] ?_ ?_
 ·exact V.d1 jim c
 refine V.r0 @ji8 ?_
 exact Fin.of rfl
theorem cmp3_11 (R:Nat→Tx)(w:Int)(c:Cl 135 [.agg [.str (R 1).1,.str (R 1).2],.agg [.str (R 1).1,.str (R 1).2]] (.tup [.int .i64 w,.int .i64 0]))(hw:InR .i64 w):Cl 134 [.int .i64 1,.int .i64 1,.ref [V.sl2 3 [.str (R 0).1,.str (R 0).2,.str (R 1).1,.str (R 1).2,.str (R 2).1,.str (R 2).2]]] (.int .i64 w):=by
 refine V.en tbOk Tryz.func134 ?_
 refine V.r0 jim ?_
 refine⟨Pq26z,[],V.pok,?_⟩
 refine jab [(6,.int .i64 w)] [] ?_ ?_
 ·exact V.d1 jim c
 refine V.r0 @ji8 ?_
 exact Fin.of rfl
theorem cmp3_12 (R:Nat→Tx)(w:Int)(c:Cl 135 [.agg [.str (R 2).1,.str (R 2).2],.agg [.str (R 1).1,.str (R 1).2]] (.tup [.int .i64 w,.int .i64 0]))(hw:InR .i64 w):Cl 134 [.int .i64 1,.int .i64 2,.ref [V.sl2 3 [.str (R 0).1,.str (R 0).2,.str (R 1).1,.str (R 1).2,.str (R 2).1,.str (R 2).2]]] (.int .i64 w):=by
 refine V.en tbOk Tryz.func134 ?_
 refine V.r0 jim ?_
 refine⟨Pq26z,[],V.pok,?_⟩
 refine jab [(6,.int .i64 w)] [] ?_ ?_
 ·exact V.d1 jim c
 refine V.r0 @ji8 ?_
 exact Fin.of rfl
theorem cmp3_20 (R:Nat→Tx)(w:Int)(c:Cl 135 [.agg [.str (R 0).1,.str (R 0).2],.agg [.str (R 2).1,.str (R 2).2]] (.tup [.int .i64 w,.int .i64 0]))(hw:InR .i64 w):Cl 134 [.int .i64 2,.int .i64 0,.ref [V.sl2 3 [.str (R 0).1,.str (R 0).2,.str (R 1).1,.str (R 1).2,.str (R 2).1,.str (R 2).2]]] (.int .i64 w):=by
 refine V.en tbOk Tryz.func134 ?_
 refine V.r0 jim ?_
 refine⟨Pq26z,[],V.pok,?_⟩
 refine jab [(6,.int .i64 w)] [] ?_ ?_
 ·exact V.d1 jim c
 refine V.r0 @ji8 ?_
 exact Fin.of rfl
theorem cmp3_21 (R:Nat→Tx)(w:Int)(c:Cl 135 [.agg [.str (R 1).1,.str (R 1).2],.agg [.str (R 2).1,.str (R 2).2]] (.tup [.int .i64 w,.int .i64 0]))(hw:InR .i64 w):Cl 134 [.int .i64 2,.int .i64 1,.ref [V.sl2 3 [.str (R 0).1,.str (R 0).2,.str (R 1).1,.str (R 1).2,.str (R 2).1,.str (R 2).2]]] (.int .i64 w):=by
 refine V.en tbOk Tryz.func134 ?_
 refine V.r0 jim ?_
 refine⟨Pq26z,[],V.pok,?_⟩
 refine jab [(6,.int .i64 w)] [] ?_ ?_
 ·exact V.d1 jim c
 refine V.r0 @ji8 ?_
 exact Fin.of rfl
theorem cmp3_22 (R:Nat→Tx)(w:Int)(c:Cl 135 [.agg [.str (R 2).1,.str (R 2).2],.agg [.str (R 2).1,.str (R 2).2]] (.tup [.int .i64 w,.int .i64 0]))(hw:InR .i64 w):Cl 134 [.int .i64 2,.int .i64 2,.ref [V.sl2 3 [.str (R 0).1,.str (R 0).2,.str (R 1).1,.str (R 1).2,.str (R 2).1,.str (R 2).2]]] (.int .i64 w):=by
 refine V.en tbOk Tryz.func134 ?_
 refine V.r0 jim ?_
 refine⟨Pq26z,[],V.pok,?_⟩
 refine jab [(6,.int .i64 w)] [] ?_ ?_
 ·exact V.d1 jim c
 refine V.r0 @ji8 ?_
 exact Fin.of rfl
theorem cmp3 (R:Nat→Tx)(w:Int→Int→Int)(hw:∀ a b,InR .i64 (w a b))(c:∀ a b:Nat,a<3→b<3→Cl 135 [.agg [.str (R b).1,.str (R b).2],.agg [.str (R a).1,.str (R a).2]] (.tup [.int .i64 (w a b),.int .i64 0])):∀ a b:Nat,a<3→b<3→Cl 134 [.int .i64 a,.int .i64 b,.ref [V.sl2 3 [.str (R 0).1,.str (R 0).2,.str (R 1).1,.str (R 1).2,.str (R 2).1,.str (R 2).2]]] (.int .i64 (w a b)):=fun a b ha hb=>by
 have h1:a=0∨a=1∨a=2:=by omega
 have h2:b=0∨b=1∨b=2:=by omega
 have k:=c a b ha hb
 rcases h1 with e|e|e<;>rcases h2 with g|g|g<;>subst e<;>subst g
 ·exact cmp3_00 R _ k (hw _ _)
 ·exact cmp3_01 R _ k (hw _ _)
 ·exact cmp3_02 R _ k (hw _ _)
 ·exact cmp3_10 R _ k (hw _ _)
 ·exact cmp3_11 R _ k (hw _ _)
 ·exact cmp3_12 R _ k (hw _ _)
 ·exact cmp3_20 R _ k (hw _ _)
 ·exact cmp3_21 R _ k (hw _ _)
 ·exact cmp3_22 R _ k (hw _ _)
def txq (q:Rat):Tx:=(decZ q.num,dec q.den)
def rqN (r0 r1 r2:Rat):Nat→Rat
 | 0=>r0
 | 1=>r1
 | _=>r2
def bqN (rq:Nat→Rat)(o:List Int):Nat→Rat
 | 0=>1
 | k+1=>rq (o.getD k 0).toNat
def wqN (rq:Nat→Rat)(o:List Int)(n k:Nat):Rat:=if k=n then bqN rq o n else bqN rq o k-bqN rq o (k+1)
def slQ (Y:Nat→Tx)(n:Nat):D:=V.sl2 n (wce Y n)
theorem sel_n (r0 r1 r2:Rat):∀ i:Nat,sel r0 r1 r2 (i:Int)=rqN r0 r1 r2 i
 | 0=>by unfold sel;rw[if_pos (by rfl)];rfl
 | 1=>by unfold sel;rw[if_neg (by decide),if_pos (by rfl)];rfl
 | k+2=>by unfold sel;rw[if_neg (by omega),if_neg (by omega)];rfl
theorem cmpW_n (r0 r1 r2:Rat)(a b:Nat):cmpW r0 r1 r2 (a:Int) (b:Int)=ordQ (rqN r0 r1 r2 b) (rqN r0 r1 r2 a):=by unfold cmpW;rw[sel_n,sel_n]
theorem jhK (p q:Rat):InR .i64 (ordQ p q):=by
 unfold ordQ
 split
 ·exact⟨by decide,by decide⟩
 ·split<;>exact⟨by decide,by decide⟩
theorem jaX {n:Nat}{x:Rat}{s:Int}(h:Fq n x)(h0:0<n)(hs:2≤s∧s≤9):Fq (n+3) (spR s x):=by
 have fs:Fq 1 ((s-1:Int):Rat):=jaB (by omega) (by omega)
 have bb:=jb2 hs.1 x
 have fi:Fq 1 ((spB s x:Int):Rat):=jaB (by omega) (by omega)
 exact((fq_cl h h0).mul fs).sub fi
theorem fq_rq {r0 r1 r2:Rat}(h0:Fq 43 r0)(h1:Fq 43 r1)(h2:Fq 43 r2):∀ k,Fq 43 (rqN r0 r1 r2 k)
 | 0=>h0
 | 1=>h1
 | _+2=>h2
theorem fq_one:Fq 43 1:=⟨by decide,by decide⟩
theorem jbj:Fq 43 0:=⟨by decide,by decide⟩
theorem fq_bq {rq:Nat→Rat}(h:∀ k,Fq 43 (rq k))(o:List Int):∀ k,Fq 43 (bqN rq o k)
 | 0=>fq_one
 | k+1=>h _
theorem fq_wq {rq:Nat→Rat}(h:∀ k,Fq 43 (rq k))(o:List Int)(n k:Nat):Fq 87 (wqN rq o n k):=by
 unfold wqN
 split
 ·exact(fq_bq h o n).mono (by decide)
 ·exact(fq_bq h o k).sub (fq_bq h o (k+1))
theorem find1_q {x0:Rat}{z0:Int}(out:Int)(data:List Int)(h0:Fq 40 x0)(s0:2≤z0∧z0≤9) :
  Cl 73 [.agg [.ints .i64 [z0],.int .i64 out,.ints .i64 data],slQ (fun i=>txq (rqN x0 0 0 i)) 1] (.tup [.agg [.ints .i64 [z0],.int .i64 out,.ints .i64 data,.ints .i64 [spB z0 x0],.ints .i64 [0],slQ (fun k=>txq (wqN (rqN (spR z0 x0) 0 0) [0] 1 k)) 2],.int .i64 0]):=by
 have p0:=jd8 h0 (by decide) s0
 have f0:=jaX h0 (by decide) s0
 have io:=jat (n:=1) (by omega)
 rw[show ((1:Int):Rat)=1 from rfl] at io
 have fr:∀ k,Fq 43 (rqN (spR z0 x0) 0 0 k):=fq_rq f0 jbj jbj
 have cm:=cmp1 (fun i=>txq (rqN (spR z0 x0) 0 0 i)) (cmpW (spR z0 x0) 0 0) (fun a b=>jhK _ _) (fun a b _ _=>by
  have c:=zcmp (fr b) (fr a) (by decide) (by decide)
  rw[← cmpW_n] at c
  exact c)
 have g:=find1_t z0 out (spB z0 x0) data _ _ _ _ (fun i=>txq (rqN (spR z0 x0) 0 0 i)) (fun k=>txq (bqN (rqN (spR z0 x0) 0 0) (isoK (cmpW (spR z0 x0) 0 0) [0] (1-1)) k)) (fun k=>txq (bqN (rqN (spR z0 x0) 0 0) (isoK (cmpW (spR z0 x0) 0 0) [0] (1-1)) k-bqN (rqN (spR z0 x0) 0 0) (isoK (cmpW (spR z0 x0) 0 0) [0] (1-1)) (k+1))) p0 io (cmpW (spR z0 x0) 0 0) cm rfl (fun k _=>rfl) (fun k _=>zsub (fq_bq fr _ k) (fq_bq fr _ (k+1)) (by decide) (by decide) (by decide))
 have e:isoK (cmpW (spR z0 x0) 0 0) [0] (1-1)=[0]:=iso1 _
 rw[e] at g
 exact g
theorem find2_q {x0 x1:Rat}{z0 z1:Int}(out:Int)(data:List Int)(h0:Fq 40 x0)(h1:Fq 40 x1)(s0:2≤z0∧z0≤9)(s1:2≤z1∧z1≤9) :
  Cl 73 [.agg [.ints .i64 [z0,z1],.int .i64 out,.ints .i64 data],slQ (fun i=>txq (rqN x0 x1 0 i)) 2] (.tup [.agg [.ints .i64 [z0,z1],.int .i64 out,.ints .i64 data,.ints .i64 [spB z0 x0,spB z1 x1],.ints .i64 (ord2 (spR z0 x0) (spR z1 x1)),slQ (fun k=>txq (wqN (rqN (spR z0 x0) (spR z1 x1) 0) (ord2 (spR z0 x0) (spR z1 x1)) 2 k)) 3],.int .i64 0]):=by
 have p0:=jd8 h0 (by decide) s0
 have f0:=jaX h0 (by decide) s0
 have p1:=jd8 h1 (by decide) s1
 have f1:=jaX h1 (by decide) s1
 have io:=jat (n:=1) (by omega)
 rw[show ((1:Int):Rat)=1 from rfl] at io
 have fr:∀ k,Fq 43 (rqN (spR z0 x0) (spR z1 x1) 0 k):=fq_rq f0 f1 jbj
 have cm:=cmp2 (fun i=>txq (rqN (spR z0 x0) (spR z1 x1) 0 i)) (cmpW (spR z0 x0) (spR z1 x1) 0) (fun a b=>jhK _ _) (fun a b _ _=>by
  have c:=zcmp (fr b) (fr a) (by decide) (by decide)
  rw[← cmpW_n] at c
  exact c)
 have g:=find2_t z0 z1 out (spB z0 x0) (spB z1 x1) data _ _ _ _ _ _ (fun i=>txq (rqN (spR z0 x0) (spR z1 x1) 0 i)) (fun k=>txq (bqN (rqN (spR z0 x0) (spR z1 x1) 0) (isoK (cmpW (spR z0 x0) (spR z1 x1) 0) [0,1] (2-1)) k)) (fun k=>txq (bqN (rqN (spR z0 x0) (spR z1 x1) 0) (isoK (cmpW (spR z0 x0) (spR z1 x1) 0) [0,1] (2-1)) k-bqN (rqN (spR z0 x0) (spR z1 x1) 0) (isoK (cmpW (spR z0 x0) (spR z1 x1) 0) [0,1] (2-1)) (k+1))) p0 p1 io (cmpW (spR z0 x0) (spR z1 x1) 0) cm rfl (fun k _=>rfl) (fun k _=>zsub (fq_bq fr _ k) (fq_bq fr _ (k+1)) (by decide) (by decide) (by decide))
 have e:isoK (cmpW (spR z0 x0) (spR z1 x1) 0) [0,1] (2-1)=(ord2 (spR z0 x0) (spR z1 x1)):=iso2 _ _ _
 rw[e] at g
 exact g
theorem find3_q {x0 x1 x2:Rat}{z0 z1 z2:Int}(out:Int)(data:List Int)(h0:Fq 40 x0)(h1:Fq 40 x1)(h2:Fq 40 x2)(s0:2≤z0∧z0≤9)(s1:2≤z1∧z1≤9)(s2:2≤z2∧z2≤9) :
  Cl 73 [.agg [.ints .i64 [z0,z1,z2],.int .i64 out,.ints .i64 data],slQ (fun i=>txq (rqN x0 x1 x2 i)) 3] (.tup [.agg [.ints .i64 [z0,z1,z2],.int .i64 out,.ints .i64 data,.ints .i64 [spB z0 x0,spB z1 x1,spB z2 x2],.ints .i64 (ord3 (spR z0 x0) (spR z1 x1) (spR z2 x2)),slQ (fun k=>txq (wqN (rqN (spR z0 x0) (spR z1 x1) (spR z2 x2)) (ord3 (spR z0 x0) (spR z1 x1) (spR z2 x2)) 3 k)) 4],.int .i64 0]):=by
 have p0:=jd8 h0 (by decide) s0
 have f0:=jaX h0 (by decide) s0
 have p1:=jd8 h1 (by decide) s1
 have f1:=jaX h1 (by decide) s1
 have p2:=jd8 h2 (by decide) s2
 have f2:=jaX h2 (by decide) s2
 have io:=jat (n:=1) (by omega)
 rw[show ((1:Int):Rat)=1 from rfl] at io
 have fr:∀ k,Fq 43 (rqN (spR z0 x0) (spR z1 x1) (spR z2 x2) k):=fq_rq f0 f1 f2
 have cm:=cmp3 (fun i=>txq (rqN (spR z0 x0) (spR z1 x1) (spR z2 x2) i)) (cmpW (spR z0 x0) (spR z1 x1) (spR z2 x2)) (fun a b=>jhK _ _) (fun a b _ _=>by
  have c:=zcmp (fr b) (fr a) (by decide) (by decide)
  rw[← cmpW_n] at c
  exact c)
 have g:=find3_t z0 z1 z2 out (spB z0 x0) (spB z1 x1) (spB z2 x2) data _ _ _ _ _ _ _ _ (fun i=>txq (rqN (spR z0 x0) (spR z1 x1) (spR z2 x2) i)) (fun k=>txq (bqN (rqN (spR z0 x0) (spR z1 x1) (spR z2 x2)) (isoK (cmpW (spR z0 x0) (spR z1 x1) (spR z2 x2)) [0,1,2] (3-1)) k)) (fun k=>txq (bqN (rqN (spR z0 x0) (spR z1 x1) (spR z2 x2)) (isoK (cmpW (spR z0 x0) (spR z1 x1) (spR z2 x2)) [0,1,2] (3-1)) k-bqN (rqN (spR z0 x0) (spR z1 x1) (spR z2 x2)) (isoK (cmpW (spR z0 x0) (spR z1 x1) (spR z2 x2)) [0,1,2] (3-1)) (k+1))) p0 p1 p2 io (cmpW (spR z0 x0) (spR z1 x1) (spR z2 x2)) cm rfl (fun k _=>rfl) (fun k _=>zsub (fq_bq fr _ k) (fq_bq fr _ (k+1)) (by decide) (by decide) (by decide))
 have e:isoK (cmpW (spR z0 x0) (spR z1 x1) (spR z2 x2)) [0,1,2] (3-1)=(ord3 (spR z0 x0) (spR z1 x1) (spR z2 x2)):=iso3 _ _ _
 rw[e] at g
 exact g
end Go.Proofs.YtbnghipgicmpdaaGreatDoor
end
section
namespace Go.Proofs.YtbnghipgicmpdaaGreatDoor
open Go Go.V
theorem jey (n l h:Int):Cl 112 [.int .i64 n,.int .i64 l,.int .i64 h] (.bool (decide (l≤n) && decide (n≤h))):=by
 refine V.en tbOk Tryz.func112 ?_
 (conv=>whnf)
 refine V.st ?_
 exact Fin.same _
theorem jdA (n l h:Int):Cl 74 [.int .i64 n,.int .i64 l,.int .i64 h] (.bool (decide (l≤n) && decide (n≤h))):=by
 refine V.en tbOk Tryz.func74 ?_
 (conv=>whnf)
 refine V.st ?_
 exact Fin.same _
def prod (xs:List Int):Int:=xs.foldl (· * ·) 1
theorem jcd {xs:List Int}{k:Nat}{x:Int}(h:xs[k]? = some x):prod (xs.take (k+1))=prod (xs.take k)*x:=by
 rw[jj5,h];simp[prod]
theorem product_c (xs:List Int)(hx:∀ k,k≤xs.length→InR .i64 (prod (xs.take k)))(hl:xs.length≤281474976710656):Cl 113 [.ints .i64 xs] (.int .i64 (prod xs)):=by
 refine V.en tbOk Tryz.func113 ?_
 (conv=>whnf)
 refine lp_go (xs.length) (fun k=>True) (fun k=>[(3,.int .i64 (prod (xs.take k))),(8,.int .i64 k)]) (fun k=>[]) V.wk ?_ ?_
 ·trivial
 intro k hk _
 (conv=>whnf)
 refine V.st ?_
 refine V.br (fun h=>?_) (fun h=>?_)
 ·simp only[decide_eq_true_eq] at h
  obtain⟨x,hx1,ex⟩:=getx (xs:=xs) (k:=k) (by omega)
  have hp:=jcd hx1
  have hr:=hx (k+1) (by omega)
  (conv=>whnf)
  refine V.st ?_
  rw[ex,← hp]
  refine V.st ?_
  exact⟨k+1,⟨by omega,trivial⟩,by omega,V.wk⟩
 ·simp only[decide_eq_false_iff_not] at h
  (conv=>whnf)
  refine V.st ?_
  have:prod (xs.take k)=prod xs:=by rw[jjW (by omega)]
  rw[this]
  exact Fin.same _
theorem jeE (xs:List Int)(hx:∀ k,k≤xs.length→InR .i64 (prod (xs.take k)))(hl:xs.length≤281474976710656):Cl 62 [.ints .i64 xs] (.int .i64 (prod xs)):=by
 refine V.en tbOk Tryz.func62 ?_
 (conv=>whnf)
 refine lp_go (xs.length) (fun k=>True) (fun k=>[(3,.int .i64 (prod (xs.take k))),(4,.int .i64 k)]) (fun k=>[]) V.wk ?_ ?_
 ·trivial
 intro k hk _
 (conv=>whnf)
 refine V.st ?_
 refine V.br (fun h=>?_) (fun h=>?_)
 ·simp only[decide_eq_true_eq] at h
  obtain⟨x,hx1,ex⟩:=getx (xs:=xs) (k:=k) (by omega)
  have hp:=jcd hx1
  have hr:=hx (k+1) (by omega)
  (conv=>whnf)
  refine V.st ?_
  rw[ex,← hp]
  refine V.st ?_
  exact⟨k+1,⟨by omega,trivial⟩,by omega,V.wk⟩
 ·simp only[decide_eq_false_iff_not] at h
  (conv=>whnf)
  refine V.st ?_
  have:prod (xs.take k)=prod xs:=by rw[jjW (by omega)]
  rw[this]
  exact Fin.same _
theorem ints_c (xs ys:List Int)(hl:xs.length≤281474976710656)(hm:ys.length≤281474976710656):Cl 65 [.ints .i64 xs,.ints .i64 ys] (.bool (decide (xs=ys))):=by
 refine V.en tbOk Tryz.func65 ?_
 (conv=>whnf)
 refine V.br (fun h=>?_) (fun h=>?_)
 ·have hne:xs≠ys:=fun e=>by subst e;simp at h
  (conv=>whnf)
  refine V.st ?_
  exact Fin.of (by simp[hne])
 have hle:xs.length=ys.length:=by simp at h;omega
 clear h
 (conv=>whnf)
 refine V.st ?_
 refine lp_go (xs.length) (fun k=>xs.take k=ys.take k) (fun k=>[(5,.int .i64 k)]) (fun k=>[]) V.wk ?_ ?_
 ·rfl
 intro k hk hI
 (conv=>whnf)
 refine V.st ?_
 refine V.br (fun h=>?_) (fun h=>?_)
 ·simp only[decide_eq_true_eq] at h
  obtain⟨x,hx1,ex⟩:=getx (xs:=xs) (k:=k) (by omega)
  obtain⟨y,hy1,ey⟩:=getx (xs:=ys) (k:=k) (by omega)
  (conv=>whnf)
  refine V.st ?_
  refine⟨Pq24z,[],V.pok,.go (jac ?_)⟩
  (conv=>whnf)
  refine V.st ?_
  rw[ex,ey]
  refine V.br (fun hb=>?_) (fun hb=>?_)
  ·have hne:xs≠ys:=fun e=>by subst e;rw[hx1] at hy1;cases hy1;simp at hb
   (conv=>whnf)
   refine V.st ?_
   exact Fin.of (by simp[hne])
  ·have hxy:x=y:=by simpa using hb
   (conv=>whnf)
   refine V.st ?_
   exact⟨k+1,⟨by omega,(by rw[jj5,jj5,hI,hx1,hy1,hxy])⟩,by omega,V.wk⟩
 ·simp only[decide_eq_false_iff_not] at h
  have:xs=ys:=by rw[← jjW (l:=xs) (i:=k) (by omega),← jjW (l:=ys) (i:=k) (by omega),hI]
  (conv=>whnf)
  refine V.st ?_
  exact Fin.of (by simp[this])
theorem jfm (xs ys:List Int)(hl:xs.length≤281474976710656)(hm:ys.length≤281474976710656):Cl 15 [.ints .i64 xs,.ints .i64 ys] (.bool (decide (xs=ys))):=by
 refine V.en tbOk Tryz.func15 ?_
 (conv=>whnf)
 refine V.br (fun h=>?_) (fun h=>?_)
 ·have hne:xs≠ys:=fun e=>by subst e;simp at h
  (conv=>whnf)
  refine V.st ?_
  exact Fin.of (by simp[hne])
 have hle:xs.length=ys.length:=by simp at h;omega
 clear h
 (conv=>whnf)
 refine V.st ?_
 refine lp_go (xs.length) (fun k=>xs.take k=ys.take k) (fun k=>[(13,.int .i64 k)]) (fun k=>[]) V.wk ?_ ?_
 ·rfl
 intro k hk hI
 (conv=>whnf)
 refine V.st ?_
 refine V.br (fun h=>?_) (fun h=>?_)
 ·simp only[decide_eq_true_eq] at h
  obtain⟨x,hx1,ex⟩:=getx (xs:=xs) (k:=k) (by omega)
  obtain⟨y,hy1,ey⟩:=getx (xs:=ys) (k:=k) (by omega)
  (conv=>whnf)
  refine V.st ?_
  refine⟨Pq24z,[],V.pok,.go (jac ?_)⟩
  (conv=>whnf)
  refine V.st ?_
  rw[ex,ey]
  refine V.br (fun hb=>?_) (fun hb=>?_)
  ·have hne:xs≠ys:=fun e=>by subst e;rw[hx1] at hy1;cases hy1;simp at hb
   (conv=>whnf)
   refine V.st ?_
   exact Fin.of (by simp[hne])
  ·have hxy:x=y:=by simpa using hb
   (conv=>whnf)
   refine V.st ?_
   exact⟨k+1,⟨by omega,(by rw[jj5,jj5,hI,hx1,hy1,hxy])⟩,by omega,V.wk⟩
 ·simp only[decide_eq_false_iff_not] at h
  have:xs=ys:=by rw[← jjW (l:=xs) (i:=k) (by omega),← jjW (l:=ys) (i:=k) (by omega),hI]
  (conv=>whnf)
  refine V.st ?_
  exact Fin.of (by simp[this])
theorem jie (xs:List Int)(hl:xs.length≤17592186044416):Cl 25 [.ints .i64 xs] (.ints .i64 xs):=by
 refine V.en tbOk Tryz.func25 ?_
 (conv=>whnf)
 refine⟨fun h=>?_,fun _=>?_⟩
 ·have hx:=h rfl
  subst hx
  (conv=>whnf)
  refine V.st ?_
  exact Fin.nil _
 ·(conv=>whnf)
  refine⟨fun _=>⟨rfl,by simpa using hl⟩,?_⟩
  (conv=>whnf)
  exact Fin.of (by simp)
end Go.Proofs.YtbnghipgicmpdaaGreatDoor
end
