/- What functions of the program answer at given values, part 7. Conditions: those that each theorem names. -/
import Derived.Test.YtbhpaandigaanaaGreatDoorLocateBackH6
import Derived.Lib.ItoaNum
import Derived.Lib.LaidTab
import Derived.Stop.LaidErr
import Derived.LaidMore
import Derived.Test.YtbhpaandigaanaaGreatDoorLocateBackSi
import Derived.Lib.AppendIntMem
set_option linter.unusedSimpArgs false
set_option linter.unusedVariables false
set_option maxHeartbeats 8000000
set_option maxRecDepth 100000
section
namespace Go.Proofs.YtbhpaandigaanaaGreatDoor
open Go Go.V Go.RowKit
theorem okWide_arr {P:Program}{w:World}{r:Reach}{base:Nat}{t n e:Nat}{v:Value}(ht:P.underlying t=some (.array n e))(h:Value.okWide P w r base t v):∃ cs,v = .agg cs∧cs.size=P.cellsOf t:=by
 simp only[Value.okWide,ht] at h
 obtain⟨cs,h1,h2,_⟩:=h
 exact⟨cs,h1,h2⟩
theorem glW_of_tab {w:World}(h:Lib.TabIs Tryz.prog w "internal/strconv.uint64pow10" .u64 Lib.pow10Tab)(h2:w.var? Tryz.prog "verdigris/locate.orders" = some #[.int .i64 0,.int .i64 1,.int .i64 2,.int .i64 0,.int .i64 2,.int .i64 1,.int .i64 1,.int .i64 0,.int .i64 2,.int .i64 1,.int .i64 2,.int .i64 0,.int .i64 2,.int .i64 0,.int .i64 1,.int .i64 2,.int .i64 1,.int .i64 0]){tp:TypeId}{p:Value}(h3:w.var? Tryz.prog "strconv.ErrRange" = some #[.iface tp p]):GlW w:=by
 refine⟨?_,?_⟩
 rotate_left
 ·intro g hg
  simp only[glbE,jhH,List.not_mem_nil,or_false] at hg
  subst hg
  unfold World.var? at h3
  have hn:Tryz.prog.globalNamed "strconv.ErrRange" = some 2:=by kernel_rfl
  rw[hn] at h3
  simp only[Option.bind_some] at h3
  split at h3
  ·rename_i cs T f he
   cases h3
   exact⟨tp,p,T,f,he⟩
  ·cases h3
 intro g vs hg
 simp only[glb,jhH,List.not_mem_nil,or_false,Prod.mk.injEq] at hg
 rcases hg with⟨rfl,rfl⟩|⟨rfl,rfl⟩
 ·refine⟨by simp,?_⟩
  unfold World.var? at h2
  have hg:Tryz.prog.globalNamed "verdigris/locate.orders" = some 0:=by kernel_rfl
  rw[hg] at h2
  simp only[Option.bind_some] at h2
  split at h2
  ·rename_i cs T f he
   cases h2
   exact⟨T,f,he⟩
  ·cases h2
 ·refine⟨by simp,?_⟩
  unfold Lib.TabIs World.var? at h
  have hg:Tryz.prog.globalNamed "internal/strconv.uint64pow10" = some 3:=by kernel_rfl
  rw[hg] at h
  simp only[Option.bind_some] at h
  split at h
  ·rename_i cs T f he
   cases h
   exact⟨T,f,he⟩
  ·cases h
theorem jdY {w:World}{k:IntKind} : ∀ {n:Nat} {vs:List Value},leavesOk w (List.replicate n (Lf.int k)) vs → ∃ xs:List Int,xs.length=n∧vs=xs.map (Value.int k) ∧ ∀ x∈xs,InR k x
 | 0,vs,h=>⟨[],rfl,h,fun x hx=>by cases hx⟩
 | n+1,vs,h=>by
  rw[List.replicate_succ] at h
  obtain⟨v,r,rfl,⟨x,rfl,hx⟩,h2⟩:=h
  obtain⟨xs,h3,h4,h5⟩:=jdY h2
  subst h4
  refine⟨x::xs,by simp[h3],rfl,fun y hy=>?_⟩
  rcases jhH.1 hy with e|e
  ·rw[e];exact hx
  ·exact h5 y e
theorem iarr_den {w:World}{k:IntKind}{n:Nat}{cs:Array Value}(h:leavesOk w (List.replicate n (Lf.int k)) cs.toList):∃ xs:List Int,xs.length=n∧Den Env.dummy (pubOf w) (.iarr k xs) (.agg cs) ∧ ∀ x∈xs,InR k x:=by
 obtain⟨xs,h1,h2,h3⟩:=jdY h
 refine⟨xs,h1,?_,h3⟩
 simp only[Den]
 refine⟨?_,h3⟩
 congr 1
 apply Array.toList_inj.1
 simpa using h2
def u8x4L:List Lf:=[.int .u8,.int .u8,.int .u8,.int .u8]
def i16x3L:List Lf:=[.int .i16,.int .i16,.int .i16]
def cubeLf:List Lf:=[.int .u8,.int .u8,.int .u8,.int .u16,.int .u16,.int .u16,.int .u16,.int .u16,.int .u16,.int .u16,.int .u16,.int .u16,.ints .i16]
def gdraftL:List Lf:=[.ints .u8,.int .u8,.ints .u16,.bool]
theorem cube_den {w:World}{cs:Array Value}(h:leavesOk w cubeLf cs.toList):∃ (a b c:Int) (m off:List Int),m.length=9∧Den Env.dummy (pubOf w) (.agg (.int .u8 a :: .int .u8 b :: .int .u8 c::(m.map (D.int .u16)++[.ints .i16 off]))) (.agg cs) ∧
  ((0≤a∧a≤255)∧(0≤b∧b≤255)∧(0≤c∧c≤255))∧(∀ x∈m,0≤x∧x≤65535)∧(∀ x∈off, -32768≤x∧x≤32767)∧off.length≤281474976710656:=by
 obtain⟨v0,r0,e0,⟨a,h0,h0'⟩,v1,r1,e1,⟨b,h1,h1'⟩,v2,r2,e2,⟨c,h2,h2'⟩,v3,r3,e3,⟨m0,k0,k0'⟩,v4,r4,e4,⟨m1,k1,k1'⟩,v5,r5,e5,⟨m2,k2,k2'⟩,v6,r6,e6,⟨m3,k3,k3'⟩,v7,r7,e7,⟨m4,k4,k4'⟩,v8,r8,e8,⟨m5,k5,k5'⟩,v9,r9,e9,⟨m6,k6,k6'⟩,v10,r10,e10,⟨m7,k7,k7'⟩,v11,r11,e11,⟨m8,k8,k8'⟩,v12,r12,e12,⟨off,h12⟩,e13⟩:=h
 subst e13 e12 e11 e10 e9 e8 e7 e6 e5 e4 e3 e2 e1
 obtain rfl:cs = #[v0,v1,v2,v3,v4,v5,v6,v7,v8,v9,v10,v11,v12]:=by cases cs;simp_all
 subst h0 h1 h2 k0 k1 k2 k3 k4 k5 k6 k7 k8
 have g:=h12
 obtain⟨a1,c1,x1,_,y1,z1,_⟩:=g
 have u16:∀ {x:Int},InR .u16 x→0≤x∧x≤65535:=fun h=>by simpa [InR,V.lo,V.hi] using h
 refine⟨a,b,c,[m0,m1,m2,m3,m4,m5,m6,m7,m8],off,rfl,⟨_,rfl,⟨_,_,rfl,⟨rfl,h0'⟩,_,_,rfl,⟨rfl,h1'⟩,_,_,rfl,⟨rfl,h2'⟩,_,_,rfl,⟨rfl,k0'⟩,_,_,rfl,⟨rfl,k1'⟩,_,_,rfl,⟨rfl,k2'⟩,_,_,rfl,⟨rfl,k3'⟩,_,_,rfl,⟨rfl,k4'⟩,_,_,rfl,⟨rfl,k5'⟩,_,_,rfl,⟨rfl,k6'⟩,_,_,rfl,⟨rfl,k7'⟩,_,_,rfl,⟨rfl,k8'⟩,_,_,rfl,h12,rfl⟩,?_⟩,
  ⟨by simpa [InR,V.lo,V.hi] using h0',by simpa [InR,V.lo,V.hi] using h1',by simpa [InR,V.lo,V.hi] using h2'⟩,fun x hx=>?_,fun x hx=>by simpa [InR,V.lo,V.hi] using z1 x hx,y1⟩
 ·subst x1
  intro v hv
  simp only[jhH,List.not_mem_nil,or_false] at hv
  rcases hv with rfl|rfl|rfl|rfl|rfl|rfl|rfl|rfl|rfl|rfl|rfl|rfl|rfl<;>rfl
 ·simp only[jhH,List.not_mem_nil,or_false] at hx
  rcases hx with rfl|rfl|rfl|rfl|rfl|rfl|rfl|rfl|rfl
  all_goals (apply u16;assumption)
theorem gdraft_den {w:World}{cs:Array Value}(h:leavesOk w gdraftL cs.toList):∃ ds o vals sm,Den Env.dummy (pubOf w) (.agg [.ints .u8 ds,.int .u8 o,.ints .u16 vals,.bool sm]) (.agg cs) ∧
  (∀ v∈ds,0≤v∧v≤255)∧ds.length≤281474976710656∧(0≤o∧o≤255)∧(∀ v∈vals,0≤v∧v≤65535)∧vals.length≤281474976710656:=by
 obtain⟨v0,r0,e0,⟨ds,h0⟩,v1,r1,e1,⟨o,h1,h1'⟩,v2,r2,e2,⟨vals,h2⟩,v3,r3,e3,⟨sm,h3⟩,e4⟩:=h
 subst e4 e3 e2 e1
 obtain rfl:cs = #[v0,v1,v2,v3]:=by cases cs;simp_all
 subst h1 h3
 have g0:=h0
 have g2:=h2
 obtain⟨a0,c0,x0,_,y0,z0,_⟩:=g0
 obtain⟨a2,c2,x2,_,y2,z2,_⟩:=g2
 refine⟨ds,o,vals,sm,⟨[v0,.int .u8 o,v2,.bool sm],rfl,⟨v0,_,rfl,h0,_,_,rfl,⟨rfl,h1'⟩,_,_,rfl,h2,_,_,rfl,rfl,rfl⟩,?_⟩,?_,y0,?_,?_,y2⟩
 ·subst x0 x2
  intro v hv
  simp only[jhH,List.not_mem_nil,or_false] at hv
  rcases hv with rfl|rfl|rfl|rfl<;>rfl
 ·intro v hv
  simpa [InR,V.lo,V.hi] using z0 v hv
 ·simpa [InR,V.lo,V.hi] using h1'
 ·intro v hv
  simpa [InR,V.lo,V.hi] using z2 v hv
theorem jdn {α:Type}(m:Nat):∀ (rows:List (List α)) (cs:List α),cs.length=rows.length*m→(∀ i r,rows[i]? = some r→(cs.drop (i*m)).take m=r)→cs=rows.flatten
 | [],cs,hl,_=>by
  simp only[List.length_nil,Nat.zero_mul] at hl
  rw[jhG.1 hl]
  rfl
 | r::rows,cs,hl,h=>by
  have h0:=h 0 r rfl
  rw[Nat.zero_mul,jhW] at h0
  rw[jhS,jg7,Nat.one_mul] at hl
  have ih:=jdn m rows (cs.drop m) (by rw[jhV];omega) fun i q hq=>by
   have:=h (i+1) q hq
   rw[List.drop_drop]
   rw[jg7,Nat.one_mul,Nat.add_comm] at this
   exact this
  rw[List.flatten_cons,← ih,← h0,List.take_append_drop]
theorem jfk {H:Type}{enc:TypeId×Value→H}{P:Go.Program}{w:World}{base:Nat}{sp:Nat→Bool}{held:Bool}{fuel:Nat}{t e u:TypeId}{n m:Nat}{k:IntKind}{cs:List Value}{rows:List (List Int)}{p:List MemPlace}
  (ht:P.underlying t=some (.array n e)) (he:P.underlying e=some (.array m u)) (hu:P.underlying u=some (.int k)) (hcu:P.cellsOf u=1) (hce:P.cellsOf e=m) (hct:P.cellsOf t=n*m)
  (h:DataW.trod enc P w base sp held fuel t cs=some (.agg (rows.map (Lib.tabData k)),p)):cs=rows.flatten.map fun z=>Value.int k z:=by
 cases fuel with
 | zero=>simp[DataW.trod] at h
 | succ fuel=>
  simp only[DataW.trod,ht,hce,hct] at h
  split at h
  ·rename_i hl
   obtain⟨xs,hm,hx⟩:=Option.map_eq_some_iff.1 h
   have hxs:xs.map (·.1)=rows.map (Lib.tabData (H:=H) k):=by
    have:=congrArg Prod.fst hx
    simpa using this
   have hxl:xs.length=n:=by simpa using Lib.mapM_length hm
   have hzl:rows.length=n:=by
    have:=congrArg List.length hxs
    simp at this
    omega
   have hl':cs.length=n*m:=by simpa using hl
   have key:=jdn m (rows.map fun r=>r.map fun z=>Value.int k z) cs (by rw[List.length_map,hzl];exact hl') fun i r hr=>by
    rw[List.getElem?_map,Option.map_eq_some_iff] at hr
    obtain⟨r',hr',rfl⟩:=hr
    have hi:i<n:=by rw[← hzl];exact(jhO.1 hr').1
    obtain⟨b,hb,hf⟩:=Lib.mapM_at hm i i (by simp[hi])
    have h2:(xs.map (·.1))[i]? = some b.1:=by simp[hb]
    rw[hxs,List.getElem?_map,hr',Option.map_some,Option.some.injEq] at h2
    have hf':DataW.trod enc P w base sp held fuel e ((cs.drop (i*m)).take m)=some (Lib.tabData k r',b.2):=by
     rw[hf,h2]
    exact Lib.cells_of_tab he hu hcu hce hf'
   rw[key,List.map_flatten]
  ·cases h
theorem rows_of_head {P:Go.Program}{W:World}{name:String}{k:IntKind}{rows:List (List Int)}{rest:List (String×DataW Unit)}{g:Nat}{t e u:TypeId}{n m:Nat}
  (hg:P.globalNamed name=some g) (hty:(P.globals[g]?).map (·.type)=some t) (ht:P.underlying t=some (.array n e)) (he:P.underlying e=some (.array m u)) (hu:P.underlying u=some (.int k)) (hcu:P.cellsOf u=1) (hce:P.cellsOf e=m) (hct:P.cellsOf t=n*m)
  (h:laidMet P ((name,.agg (rows.map (Lib.tabData k)))::rest) W):W.var? P name=some (rows.flatten.map fun z=>Value.int k z).toArray:=by
 obtain⟨ps,⟨g',t',cs,fuel,p,q,hg',ht',hvar,hd,_,_⟩,_⟩:=h
 obtain rfl:=Option.some.inj (hg.symm.trans hg')
 obtain rfl:=Option.some.inj (hty.symm.trans ht')
 rw[hvar,← jfk ht he hu hcu hce hct hd]
end Go.Proofs.YtbhpaandigaanaaGreatDoor
end
section
namespace Go.Proofs.YtbhpaandigaanaaGreatDoor
open Go Go.V
def det3 (a0 a1 a2 b0 b1 b2 c0 c1 c2:Int):Int:=a0*(b1*c2-b2*c1)-a1*(b0*c2-b2*c0)+a2*(b0*c1-b1*c0)
def Bd (M x:Int):Prop := -M≤x∧x≤M
theorem jen {M N x y:Int}(hx:Bd M x)(hy:Bd N y)(hM:0≤M)(hN:0≤N):Bd (M*N) (x*y):=by
 unfold Bd at *
 have h1:x.natAbs≤M.natAbs:=by omega
 have h2:y.natAbs≤N.natAbs:=by omega
 have h3:=jhj h1 h2
 rw[← Int.natAbs_mul,← Int.natAbs_mul] at h3
 have h4:=jg4 hM hN
 omega
theorem bd2 {x y:Int}(hx:Bd 65535 x)(hy:Bd 65535 y):Bd 4294836225 (x*y):=jen hx hy (by omega) (by omega)
theorem det3_bd {a0 a1 a2 b0 b1 b2 c0 c1 c2:Int}(ha:Bd 65535 a0∧Bd 65535 a1∧Bd 65535 a2)(hb:Bd 65535 b0∧Bd 65535 b1∧Bd 65535 b2)(hc:Bd 65535 c0∧Bd 65535 c1∧Bd 65535 c2):Bd 1688772552032250 (det3 a0 a1 a2 b0 b1 b2 c0 c1 c2):=by
 have e1:=bd2 hb.2.1 hc.2.2
 have e2:=bd2 hb.2.2 hc.2.1
 have e3:=bd2 hb.1 hc.2.2
 have e4:=bd2 hb.2.2 hc.1
 have e5:=bd2 hb.1 hc.2.1
 have e6:=bd2 hb.2.1 hc.1
 have f1:=jen (N:=8589672450) ha.1 (show Bd 8589672450 (b1*c2-b2*c1) by unfold Bd at *; omega) (by omega) (by omega)
 have f2:=jen (N:=8589672450) ha.2.1 (show Bd 8589672450 (b0*c2-b2*c0) by unfold Bd at *; omega) (by omega) (by omega)
 have f3:=jen (N:=8589672450) ha.2.2 (show Bd 8589672450 (b0*c1-b1*c0) by unfold Bd at *; omega) (by omega) (by omega)
 unfold det3
 generalize a0*(b1*c2-b2*c1)=x at *
 generalize a1*(b0*c2-b2*c0)=y at *
 generalize a2*(b0*c1-b1*c0)=z at *
 unfold Bd at *
 omega
theorem num_parts {B C i j k o:Nat}(hj:j<B)(hk:k<C)(ho:o<6) :
  (((i*B+j)*C+k)*6+o)%6=o∧(((i*B+j)*C+k)*6+o)/6/(B*C)=i∧(((i*B+j)*C+k)*6+o)/6/C%B=j∧(((i*B+j)*C+k)*6+o)/6%C=k:=by
 have h6:(((i*B+j)*C+k)*6+o)/6=(i*B+j)*C+k:=by omega
 have hC:0<C:=by omega
 have hB:0<B:=by omega
 have e1:((i*B+j)*C+k)/C=i*B+j:=by
  rw[jhf,Nat.mul_add_div hC,Nat.div_eq_of_lt hk,jg9]
 rw[h6]
 refine⟨by omega,?_,?_,?_⟩
 ·rw[jhf B C,← Nat.div_div_eq_div_mul,e1,jhf,Nat.mul_add_div hB,Nat.div_eq_of_lt hj,jg9]
 ·rw[e1,jhf,Nat.mul_add_mod,Nat.mod_eq_of_lt hj]
 ·rw[jhf,Nat.mul_add_mod,Nat.mod_eq_of_lt hk]
theorem num_lt {A B C i j k o:Nat}(hi:i<A)(hj:j<B)(hk:k<C)(ho:o<6):((i*B+j)*C+k)*6+o<6*(A*B*C):=by
 have h1:i*B+j+1≤A*B:=by
  have:=jhd B (show i+1≤A from hi)
  rw[jg7] at this
  omega
 have h2:(i*B+j)*C+k+1≤A*B*C:=by
  have:=jhd C h1
  rw[jg7] at this
  omega
 omega
theorem num_of {A B C n:Nat}(h:n<6*(A*B*C)):∃ i j k o,i<A∧j<B∧k<C∧o<6∧n=((i*B+j)*C+k)*6+o:=by
 have hABC:n/6<A*B*C:=by omega
 have hpos:0<A*B*C:=by omega
 have hC:0<C:=Nat.pos_of_mul_pos_left (a:=A*B) hpos |> fun _=>by
  rcases jhe C with e|e
  ·rw[e,Nat.mul_zero] at hpos;omega
  ·exact e
 have hB:0<B:=by
  rcases jhe B with e|e
  ·rw[e,Nat.mul_zero,Nat.zero_mul] at hpos;omega
  ·exact e
 refine⟨n/6/C/B,n/6/C%B,n/6%C,n%6,?_,Nat.mod_lt _ hB,Nat.mod_lt _ hC,Nat.mod_lt _ (by omega),?_⟩
 ·rw[Nat.div_div_eq_div_mul,Nat.div_lt_iff_lt_mul (Nat.mul_pos hC hB),jhf C B,← Nat.mul_assoc]
  exact hABC
 ·have e1:n/6/C/B*B+n/6/C%B=n/6/C:=Nat.div_add_mod' _ _
  have e2:n/6/C*C+n/6%C=n/6:=Nat.div_add_mod' _ _
  rw[e1,e2]
  omega
abbrev V3:=Int×Int×Int
def sb (a b:V3):V3:=(a.1-b.1,a.2.1-b.2.1,a.2.2-b.2.2)
def dt (a b c:V3):Int:=det3 a.1 a.2.1 a.2.2 b.1 b.2.1 b.2.2 c.1 c.2.1 c.2.2
def Bd3 (M:Int)(a:V3):Prop:=Bd M a.1∧Bd M a.2.1∧Bd M a.2.2
theorem dt_bd {a b c:V3}(ha:Bd3 65535 a)(hb:Bd3 65535 b)(hc:Bd3 65535 c):Bd 1688772552032250 (dt a b c):=det3_bd ha hb hc
def Vl (a:V3):Prop:=(0≤a.1∧a.1≤65535)∧(0≤a.2.1∧a.2.1≤65535)∧(0≤a.2.2∧a.2.2≤65535)
theorem sb_bd {a b:V3}(ha:Vl a)(hb:Vl b):Bd3 65535 (sb a b):=by
 unfold Vl at *
 unfold Bd3 Bd sb
 dsimp only
 omega
def sg1 (w:Int):Int:=if w<0 then -1 else 1
def hld (v0 v1 v2 v3 t:V3):Option (Int×Int×Int×Int):=
 let r1:=sb v1 v0
 let r2:=sb v2 v0
 let r3:=sb v3 v0
 let g:=sb t v0
 let W:=dt r1 r2 r3
 let s:=sg1 W
 if W=0∨s*dt g r2 r3<0∨s*dt r1 g r3<0∨s*dt r1 r2 g<0∨W*s-s*dt g r2 r3-s*dt r1 g r3-s*dt r1 r2 g<0 then none
 else some (s*dt g r2 r3,s*dt r1 g r3,s*dt r1 r2 g,W*s)
theorem hld_bd {v0 v1 v2 v3 t:V3}(h0:Vl v0)(h1:Vl v1)(h2:Vl v2)(h3:Vl v3)(ht:Vl t){a b c d:Int}(h:hld v0 v1 v2 v3 t=some (a,b,c,d)) :
  (0≤a∧a≤d)∧(0≤b∧b≤d)∧(0≤c∧c≤d)∧a+b+c≤d∧0<d∧d≤1688772552032250:=by
 have hW:=dt_bd (sb_bd h1 h0) (sb_bd h2 h0) (sb_bd h3 h0)
 unfold hld at h
 dsimp only at h
 split at h
 ·cases h
 ·rename_i hn
  simp only[Option.some.injEq,Prod.mk.injEq] at h
  obtain⟨rfl,rfl,rfl,rfl⟩:=h
  generalize dt (sb v1 v0) (sb v2 v0) (sb v3 v0)=W at *
  have e:W*sg1 W=W.natAbs:=by
   unfold sg1
   split<;>omega
  rw[e] at hn ⊢
  unfold Bd at hW
  omega
theorem jby {E:Env}{h:Pub}{k:IntKind} : ∀ {xs:List Int},(∀ n∈xs,InR k n)→DenL E h (xs.map (D.int k)) (xs.map (Value.int k))
 | [],_=>by simp[DenL]
 | x::xs,hx=>by
  simp only[List.map_cons,DenL]
  exact⟨_,_,rfl,⟨rfl,hx x (by simp)⟩,jby fun n hn=>hx n (by simp[hn])⟩
theorem den_iarr {E:Env}{h:Pub}{k:IntKind}{xs:List Int}{v:Value}(H:Den E h (.iarr k xs) v):Den E h (.agg (xs.map (D.int k))) v:=by
 simp only[Den] at H ⊢
 obtain⟨rfl,hx⟩:=H
 refine⟨_,rfl,jby hx,fun v hv=>?_⟩
 obtain⟨n,_,rfl⟩:=List.mem_map.1 hv
 rfl
theorem Fin.iarr {k:IntKind}{xs:List Int} : Fin (.agg (xs.map (D.int k))) (.iarr k xs):=⟨fun _ _ h=>den_iarr h⟩
abbrev N3:=Nat×Nat×Nat
def ordA (o:Nat):N3:=match o with
 | 0=>(0,1,2)
 | 1=>(0,2,1)
 | 2=>(1,0,2)
 | 3=>(1,2,0)
 | 4=>(2,0,1)
 | _=>(2,1,0)
def inc3 (x:N3)(d:Nat):N3:=match d with
 | 0=>(x.1+1,x.2.1,x.2.2)
 | 1=>(x.1,x.2.1+1,x.2.2)
 | _=>(x.1,x.2.1,x.2.2+1)
def gv (data:List Int)(p:Nat):V3:=(data.getD (3*p) 0,data.getD (3*p+1) 0,data.getD (3*p+2) 0)
def plc (s1 s2:Nat)(x:N3):Nat:=(x.1*s1+x.2.1)*s2+x.2.2
def cnr (data:List Int)(s1 s2:Nat)(x:N3):V3:=gv data (plc s1 s2 x)
def hldX (data:List Int)(s1 s2:Nat)(x o:N3)(t:V3):Option (Int×Int×Int×Int):=
 hld (cnr data s1 s2 x) (cnr data s1 s2 (inc3 x o.1)) (cnr data s1 s2 (inc3 (inc3 x o.1) o.2.1)) (cnr data s1 s2 (inc3 (inc3 (inc3 x o.1) o.2.1) o.2.2)) t
def cellN (s1 s2 n:Nat):N3:=(n/6/((s1-1)*(s2-1)),n/6/(s2-1)%(s1-1),n/6%(s2-1))
def hldN (data:List Int)(s1 s2 n:Nat)(t:V3):Option (Int×Int×Int×Int):=hldX data s1 s2 (cellN s1 s2 n) (ordA (n%6)) t
def jaW (s0 s1 s2:Nat):Nat:=(s0-1)*(s1-1)*(s2-1)
def fndN (data:List Int)(s0 s1 s2:Nat)(t:V3):Option Nat:=(List.range (6*jaW s0 s1 s2)).find? fun n=>(hldN data s1 s2 n t).isSome
def cntN (data:List Int)(s1 s2 m:Nat)(t:V3):Nat:=((List.range m).filter fun n=>(hldN data s1 s2 n t).isSome).length
theorem cellN_of {s1 s2 i j k o:Nat}(hj:j<s1-1)(hk:k<s2-1)(ho:o<6):cellN s1 s2 (((i*(s1-1)+j)*(s2-1)+k)*6+o)=(i,j,k)∧(((i*(s1-1)+j)*(s2-1)+k)*6+o)%6=o:=by
 obtain⟨h1,h2,h3,h4⟩:=num_parts (i:=i) hj hk ho
 unfold cellN
 rw[h2,h3,h4]
 exact⟨rfl,h1⟩
theorem fnd_none {data:List Int}{s0 s1 s2:Nat}{t:V3}(h:∀ n,n<6*jaW s0 s1 s2→hldN data s1 s2 n t=none):fndN data s0 s1 s2 t=none:=by
 unfold fndN
 rw[List.find?_eq_none]
 intro n hn
 rw[h n (List.mem_range.1 hn)]
 simp
theorem fnd_some {data:List Int}{s0 s1 s2 n:Nat}{t:V3}(h:∀ m,m<n→hldN data s1 s2 m t=none)(hn:n<6*jaW s0 s1 s2){r:Int×Int×Int×Int}(hr:hldN data s1 s2 n t=some r):fndN data s0 s1 s2 t=some n:=by
 unfold fndN
 rw[List.find?_range_eq_some]
 refine⟨by rw[hr];rfl,by simpa using hn,fun j hj=>by rw[h j hj];rfl⟩
theorem cnt_succ (data:List Int)(s1 s2 m:Nat)(t:V3):cntN data s1 s2 (m+1) t=cntN data s1 s2 m t+(if (hldN data s1 s2 m t).isSome=true then 1 else 0):=by
 unfold cntN
 rw[List.range_succ,List.filter_append,jhK]
 congr 1
 simp only[List.filter_cons,List.filter_nil]
 split<;>rfl
theorem cnt_le (data:List Int)(s1 s2 m:Nat)(t:V3):cntN data s1 s2 m t≤m:=by
 unfold cntN
 have:=List.length_filter_le (fun n=>(hldN data s1 s2 n t).isSome) (List.range m)
 rw[List.length_range] at this
 exact this
theorem plc_lt {s0 s1 s2:Nat}{x:N3}(h:x.1<s0∧x.2.1<s1∧x.2.2<s2):plc s1 s2 x<s0*s1*s2:=by
 unfold plc
 have h1:x.1*s1+x.2.1+1≤s0*s1:=by
  have:=jhd s1 (show x.1+1≤s0 from h.1)
  rw[jg7] at this
  omega
 have h2:=jhd s2 h1
 rw[jg7] at h2
 omega
theorem gv_vl {data:List Int}(hd:∀ v∈data,0≤v∧v≤65535)(p:Nat):Vl (gv data p):=by
 have key:∀ i,0≤data.getD i 0∧data.getD i 0≤65535:=fun i=>by
  rw[jhF]
  cases h:data[i]? with
  | none=>simp
  | some v=>exact hd v (jhJ h)
 exact⟨key _,key _,key _⟩
theorem jdt (n l h:Int):Cl 53 [.int .i64 n,.int .i64 l,.int .i64 h] (.bool (decide (l≤n) && decide (n≤h))):=by
 refine V.en tbOk Tryz.func53 ?_
 (conv=>whnf)
 refine V.st ?_
 exact Fin.same _
def prod (xs:List Int):Int:=xs.foldl (· * ·) 1
theorem jcx {xs:List Int}{k:Nat}{x:Int}(h:xs[k]? = some x):prod (xs.take (k+1))=prod (xs.take k)*x:=by
 rw[List.take_add_one,h];simp[prod]
theorem product_c (xs:List Int)(hx:∀ k,k≤xs.length→InR .i64 (prod (xs.take k)))(hl:xs.length≤281474976710656):Cl 54 [.ints .i64 xs] (.int .i64 (prod xs)):=by
 refine V.en tbOk Tryz.func54 ?_
 (conv=>whnf)
 refine lp_go (xs.length) (fun k=>True) (fun k=>[(3,.int .i64 (prod (xs.take k))),(8,.int .i64 k)]) (fun k=>[]) V.wk ?_ ?_
 ·trivial
 intro k hk _
 (conv=>whnf)
 refine V.st ?_
 refine V.br (fun h=>?_) (fun h=>?_)
 ·simp only[decide_eq_true_eq] at h
  obtain⟨x,hx1,ex⟩:=getx (xs:=xs) (k:=k) (by omega)
  have hp:=jcx hx1
  have hr:=hx (k+1) (by omega)
  (conv=>whnf)
  refine V.st ?_
  rw[ex,← hp]
  refine V.st ?_
  exact⟨k+1,⟨by omega,trivial⟩,by omega,V.wk⟩
 ·simp only[decide_eq_false_iff_not] at h
  (conv=>whnf)
  refine V.st ?_
  have:prod (xs.take k)=prod xs:=by rw[jhT (by omega)]
  rw[this]
  exact Fin.same _
theorem points_c (xs:List Int)(hx:∀ k,k≤xs.length→InR .i64 (prod (xs.take k)))(hl:xs.length≤281474976710656):Cl 26 [.ints .i64 xs] (.int .i64 (prod xs)):=by
 refine V.en tbOk Tryz.func26 ?_
 (conv=>whnf)
 refine lp_go (xs.length) (fun k=>True) (fun k=>[(3,.int .i64 (prod (xs.take k))),(4,.int .i64 k)]) (fun k=>[]) V.wk ?_ ?_
 ·trivial
 intro k hk _
 (conv=>whnf)
 refine V.st ?_
 refine V.br (fun h=>?_) (fun h=>?_)
 ·simp only[decide_eq_true_eq] at h
  obtain⟨x,hx1,ex⟩:=getx (xs:=xs) (k:=k) (by omega)
  have hp:=jcx hx1
  have hr:=hx (k+1) (by omega)
  (conv=>whnf)
  refine V.st ?_
  rw[ex,← hp]
  refine V.st ?_
  exact⟨k+1,⟨by omega,trivial⟩,by omega,V.wk⟩
 ·simp only[decide_eq_false_iff_not] at h
  (conv=>whnf)
  refine V.st ?_
  have:prod (xs.take k)=prod xs:=by rw[jhT (by omega)]
  rw[this]
  exact Fin.same _
def gridD (size:List Int)(out:Int)(data:List Int):D := .agg [.ints .i64 size,.int .i64 out,.ints .i64 data]
def jaw (size:List Int)(out:Int)(data:List Int):Bool:=
 decide (1≤size.length∧size.length≤4) && decide (1≤out∧out≤4) && size.all (fun n=>decide (2≤n∧n≤9)) && decide ((data.length:Int)≤4096∧(data.length:Int)=prod size*out) && data.all fun v=>decide (0≤v∧v≤65535)
theorem jgd {size:List Int}{out:Int}{data:List Int}{k:Nat}{x:Int}(hx:size[k]? = some x)(h:¬ (2≤x∧x≤9)):jaw size out data=false:=by
 have hm:x∈size:=jhJ hx
 have:size.all (fun n=>decide (2≤n∧n≤9))=false:=by
  rw[List.all_eq_false];exact⟨x,hm,by simpa using h⟩
 unfold jaw;rw[this];simp only[Bool.and_false,Bool.false_and]
theorem jge {size:List Int}{out:Int}{data:List Int}{k:Nat}{x:Int}(hx:data[k]? = some x)(h:¬ (0≤x∧x≤65535)):jaw size out data=false:=by
 have hm:x∈data:=jhJ hx
 have:data.all (fun v=>decide (0≤v∧v≤65535))=false:=by
  rw[List.all_eq_false];exact⟨x,hm,by simpa using h⟩
 unfold jaw;rw[this];simp only[Bool.and_false,Bool.false_and]
theorem je5 {size:List Int}(hall:size.all (fun n=>decide (2≤n∧n≤9))=true)(k:Nat):0≤prod (size.take k)∧(size.length≤4→prod (size.take k)≤6561)∧(size.length≤4→InR .i64 (prod (size.take k))):=by
 have hb:∀ l:List Int,(∀ n∈l,2≤n∧n≤9) → ∀ a:Int,0≤a→0≤l.foldl (· * ·) a∧l.foldl (· * ·) a≤a*9^l.length:=by
  intro l
  induction l with
  | nil=>intro _ a ha;simp;exact ha
  | cons x l ih=>
   intro hl a ha
   have hx:=hl x (by simp)
   have h1:0≤a*x:=jg4 ha (by omega)
   have h2:=ih (fun n hn=>hl n (by simp[hn])) (a*x) h1
   refine⟨h2.1,Int.le_trans h2.2 ?_⟩
   have h3:a*x≤a*9:=jhl hx.2 ha
   have h4:a*x*9^l.length≤a*9*9^l.length:=jhg h3 (Int.pow_nonneg (by omega))
   have h5:a*9^(x::l).length=a*9*9^l.length:=by
    rw[jhS,Int.pow_succ,jhm _ 9,← jhn]
   rw[h5];exact h4
 simp only[jhE,decide_eq_true_eq] at hall
 have h1:=hb (size.take k) (fun n hn=>hall n (jhQ hn)) 1 (by omega)
 have h2:size.length≤4→prod (size.take k)≤6561:=by
  intro h
  refine Int.le_trans h1.2 ?_
  have:(size.take k).length≤4:=by simp;omega
  generalize (size.take k).length=m at this
  match m,this with
  | 0,_=>decide
  | 1,_=>decide
  | 2,_=>decide
  | 3,_=>decide
  | 4,_=>decide
  | m+5,h=>omega
 refine⟨h1.1,h2,fun h=>?_⟩
 have h3:=h2 h
 have h4:=h1.1
 simp only[V.InR,lo,hi]
 simp only[prod] at *
 omega
theorem prodm_bd {size:List Int}{out:Int}(hall:size.all (fun n=>decide (2≤n∧n≤9))=true)(h1:size.length≤4)(h2:1≤out∧out≤4):InR .i64 (prod size*out):=by
 have h3:=je5 hall size.length
 rw[jhZ] at h3
 have h4:prod size≤6561:=h3.2.1 h1
 have h5:0≤prod size*out:=jg4 h3.1 (by omega)
 have h6:prod size*out≤6561*4:=Int.mul_le_mul h4 h2.2 (by omega) (by omega)
 simp only[V.InR,lo,hi];omega
theorem jgB (size:List Int)(out:Int)(data:List Int)(hs:size.length≤281474976710656)(hd:data.length≤281474976710656) :
  Cl 28 [gridD size out data] (.int .i64 (if jaw size out data then 0 else 100)):=by
 refine V.en tbOk Tryz.func28 ?_
 (conv=>whnf)
 refine V.st ?_
 repeat ((try ((with_reducible refine .ext ?_);(conv=>whnf)));(with_reducible refine jaa (r:=?_) ?_ ?_);rotate_left;(focus (first|exact(jdt _ _ _)));(conv=>whnf);refine V.st ?_)
 refine V.br (fun h=>?_) (fun h=>?_)
 ·(conv=>whnf)
  refine V.st ?_
  refine Fin.of ?_
  have:jaw size out data=false:=by
   simp only[jaw]
   simp at h
   simp
   omega
  rw[this];rfl
 have h1:1≤size.length∧size.length≤4∧1≤out∧out≤4:=by
  simp at h;omega
 clear h
 (conv=>whnf)
 refine V.st ?_
 refine lp_inv size.length (fun k=>(size.take k).all (fun n=>decide (2≤n∧n≤9))=true) (fun k=>[(1,.box 1 0),(19,.ints .i64 size),(20,.int .i64 size.length),(21,.int .i64 k)]) (fun _=>[(1,.box [.ints .i64 size,.int .i64 out,.ints .i64 data])]) ?_ rfl ?_
 ·exact Wk.of ⟨rfl,rfl,rfl,rfl,trivial⟩ ⟨rfl,trivial⟩
 intro k hk hI
 (conv=>whnf)
 refine V.st ?_
 refine V.br (fun h=>?_) (fun h=>?_)
 ·simp only[decide_eq_true_eq] at h
  obtain⟨x,hx1⟩:∃ x,size[k]? = some x:=⟨size[k],jhI (by omega)⟩
  have ex:=V.getD_toNat size k x hx1
  (conv=>whnf)
  refine V.st ?_
  repeat ((try ((with_reducible refine .ext ?_);(conv=>whnf)));(with_reducible refine jaa (r:=?_) ?_ ?_);rotate_left;(focus (first|exact(jdt _ _ _)));(conv=>whnf);refine V.st ?_)
  rw[ex]
  refine V.br (fun h=>?_) (fun h=>?_)
  ·(conv=>whnf)
   refine V.st ?_
   refine Fin.of ?_
   rw[jgd hx1 (by simp at h;omega)];rfl
  ·(conv=>whnf)
   refine V.st ?_
   exact⟨k+1,⟨by omega,by rw[List.take_add_one,List.all_append,hI,hx1];simp at h ⊢; omega⟩,by omega,Wk.of ⟨rfl,rfl,rfl,rfl,trivial⟩ ⟨rfl,trivial⟩⟩
 ·(conv=>whnf)
  refine V.st ?_
  simp only[decide_eq_false_iff_not] at h
  have hall:size.all (fun n=>decide (2≤n∧n≤9))=true:=by rw[← hI,jhT (by omega)]
  have hp:=je5 hall
  have hm:=prodm_bd hall h1.2.1 h1.2.2
  refine⟨(V.tk [0,1,2,3,4,5,6,7,8,9,11,12] (V.e1 10 [12,11,7,6,5] (V.tk [13,14,15] .done))),[],V.pok,.go (jab ?_)⟩
  (conv=>whnf)
  refine V.st ?_
  repeat ((try ((with_reducible refine .ext ?_);(conv=>whnf)));(with_reducible refine jaa (r:=?_) ?_ ?_);rotate_left;(focus (first|exact(product_c _ (fun k _=>(hp k).2.2 h1.2.1) hs)));(conv=>whnf);refine V.st ?_)
  refine V.br (fun h=>?_) (fun h=>?_)
  ·(conv=>whnf)
   refine V.st ?_
   refine Fin.of ?_
   have:jaw size out data=false:=by
    unfold jaw
    have:(decide ((data.length:Int)≤4096∧(data.length:Int)=prod size*out))=false:=by simp at h ⊢; omega
    rw[this];simp
   rw[this];rfl
  have h2:(data.length:Int)≤4096∧(data.length:Int)=prod size*out:=by simp at h;omega
  clear h
  (conv=>whnf)
  refine V.st ?_
  refine lp_inv data.length (fun k=>(data.take k).all (fun v=>decide (0≤v∧v≤65535))=true) (fun k=>[(1,.box 1 0),(46,.ints .i64 data),(47,.int .i64 data.length),(48,.int .i64 k)]) (fun _=>[(1,.box [.ints .i64 size,.int .i64 out,.ints .i64 data])]) ?_ rfl ?_
  ·exact Wk.of ⟨rfl,rfl,rfl,rfl,trivial⟩ ⟨rfl,trivial⟩
  intro k hk hI
  (conv=>whnf)
  refine V.st ?_
  refine V.br (fun h=>?_) (fun h=>?_)
  ·simp only[decide_eq_true_eq] at h
   obtain⟨x,hx1⟩:∃ x,data[k]? = some x:=⟨data[k],jhI (by omega)⟩
   have ex:=V.getD_toNat data k x hx1
   (conv=>whnf)
   refine V.st ?_
   repeat ((try ((with_reducible refine .ext ?_);(conv=>whnf)));(with_reducible refine jaa (r:=?_) ?_ ?_);rotate_left;(focus (first|exact(jdt _ _ _)));(conv=>whnf);refine V.st ?_)
   rw[ex]
   refine V.br (fun h=>?_) (fun h=>?_)
   ·(conv=>whnf)
    refine V.st ?_
    refine Fin.of ?_
    rw[jge hx1 (by simp at h;omega)];rfl
   ·(conv=>whnf)
    refine V.st ?_
    exact⟨k+1,⟨by omega,by rw[List.take_add_one,List.all_append,hI,hx1];simp at h ⊢; omega⟩,by omega,Wk.of ⟨rfl,rfl,rfl,rfl,trivial⟩ ⟨rfl,trivial⟩⟩
  ·(conv=>whnf)
   refine V.st ?_
   simp only[decide_eq_false_iff_not] at h
   have hall2:data.all (fun v=>decide (0≤v∧v≤65535))=true:=by rw[← hI,jhT (by omega)]
   have:jaw size out data=true:=by
    unfold jaw
    rw[hall,hall2];simp;omega
   refine Fin.of ?_
   rw[this];rfl
theorem g3_0 (a b c:Int):[a,b,c].getD 0 0=a:=rfl
theorem g3_1 (a b c:Int):[a,b,c].getD 1 0=b:=rfl
theorem g3_2 (a b c:Int):[a,b,c].getD 2 0=c:=rfl
theorem i3_0 (a b c:Int):[a,b,c].getD (0:Int).toNat 0=a:=rfl
theorem i3_1 (a b c:Int):[a,b,c].getD (1:Int).toNat 0=b:=rfl
theorem i3_2 (a b c:Int):[a,b,c].getD (2:Int).toNat 0=c:=rfl
def v3D (a:V3):D := .agg [.int .i64 a.1,.int .i64 a.2.1,.int .i64 a.2.2]
def v3I (a:V3):D := .iarr .i64 [a.1,a.2.1,a.2.2]
theorem v3_IA {E:Env}{h:Pub}{a:V3}{v:Value}(H:Den E h (v3I a) v):Den E h (v3D a) v:=den_iarr H
def Is3 (d:D)(a:V3):Prop:=d=v3D a∨d=v3I a
theorem Is3.agg {a b c:Int} : Is3 (.agg [.int .i64 a,.int .i64 b,.int .i64 c]) (a,b,c) := .inl rfl
theorem Is3.iarr {a b c:Int} : Is3 (.iarr .i64 [a,b,c]) (a,b,c) := .inr rfl
theorem Is3.den {E:Env}{h:Pub}{d:D}{a:V3}{v:Value}(H:Is3 d a)(K:Den E h d v):Den E h (v3D a) v:=by
 rcases H with e|e
 ·rw[e] at K;exact K
 ·rw[e] at K;exact v3_IA K
def sz3 (s0 s1 s2:Nat):List Int:=[(s0:Int),(s1:Int),(s2:Int)]
theorem sz3_0 (s0 s1 s2:Nat):(sz3 s0 s1 s2).getD (0:Int).toNat 0=s0:=rfl
theorem sz3_1 (s0 s1 s2:Nat):(sz3 s0 s1 s2).getD (1:Int).toNat 0=s1:=rfl
theorem sz3_2 (s0 s1 s2:Nat):(sz3 s0 s1 s2).getD (2:Int).toNat 0=s2:=rfl
theorem jeV (s0 s1 s2:Nat):(sz3 s0 s1 s2).length=3:=rfl
structure Cu (s0 s1 s2:Nat)(data:List Int):Prop where
 h0:2≤s0∧s0≤9
 h1:2≤s1∧s1≤9
 h2:2≤s2∧s2≤9
 hl:data.length=3*(s0*s1*s2)
 hd:∀ v∈data,0≤v∧v≤65535
def n3I (x:N3):D := .iarr .i64 [(x.1:Int),(x.2.1:Int),(x.2.2:Int)]
def n3D (x:N3):D := .agg [.int .i64 (x.1:Int),.int .i64 (x.2.1:Int),.int .i64 (x.2.2:Int)]
theorem plc_cast (s1 s2:Nat)(x:N3):((x.1:Int)*s1+x.2.1)*s2+x.2.2=((plc s1 s2 x:Nat):Int):=by
 unfold plc;simp only[Int.natCast_add,jho]
theorem plc_facts {s0 s1 s2:Nat}{data:List Int}(C:Cu s0 s1 s2 data){x:N3}(hx:x.1<s0∧x.2.1<s1∧x.2.2<s2):(0≤(x.1:Int)*s1∧(x.1:Int)*s1≤81)∧(0≤((x.1:Int)*s1+x.2.1)*s2∧((x.1:Int)*s1+x.2.1)*s2≤810)∧3*plc s1 s2 x+2<data.length∧plc s1 s2 x≤819:=by
 have h0:=C.h0
 have h1:=C.h1
 have h2:=C.h2
 have a1:x.1*s1≤9*9:=jhj (by omega) (by omega)
 have a2:(x.1*s1+x.2.1)*s2≤90*9:=jhj (by omega) (by omega)
 have hp:=plc_lt hx
 have e1:(x.1:Int)*s1=((x.1*s1:Nat):Int):=by simp
 have e2:((x.1:Int)*s1+x.2.1)*s2=(((x.1*s1+x.2.1)*s2:Nat):Int):=by simp
 rw[e2,e1,C.hl]
 refine⟨by omega,by omega,by omega,?_⟩
 unfold plc
 omega
theorem cell_in {s0 s1 s2 n:Nat}(h:n<6*jaW s0 s1 s2)(h0:2≤s0)(h1:2≤s1)(h2:2≤s2):(cellN s1 s2 n).1+1<s0∧(cellN s1 s2 n).2.1+1<s1∧(cellN s1 s2 n).2.2+1<s2:=by
 obtain⟨i,j,k,o,hi,hj,hk,ho,rfl⟩:=num_of h
 rw[(cellN_of hj hk ho).1]
 dsimp only
 omega
theorem k0:((0:Nat):Int)=0:=rfl
theorem k1:((1:Nat):Int)=1:=rfl
theorem k2:((2:Nat):Int)=2:=rfl
theorem k3:((3:Nat):Int)=3:=rfl
theorem tn0:(0:Int).toNat=0:=rfl
theorem tn1:(1:Int).toNat=1:=rfl
theorem tn2:(2:Int).toNat=2:=rfl
def stX (x o:N3):Nat→N3
 | 0=>x
 | 1=>inc3 x o.1
 | 2=>inc3 (inc3 x o.1) o.2.1
 | _=>inc3 (inc3 (inc3 x o.1) o.2.1) o.2.2
theorem stX_in {s0 s1 s2 o:Nat}{x:N3}(h:x.1+1<s0∧x.2.1+1<s1∧x.2.2+1<s2)(ho:o<6)(k:Nat):(stX x (ordA o) k).1<s0∧(stX x (ordA o) k).2.1<s1∧(stX x (ordA o) k).2.2<s2:=by
 have h6:o=0∨o=1∨o=2∨o=3∨o=4∨o=5:=by omega
 match k with
 | 0=>show x.1<s0∧x.2.1<s1∧x.2.2<s2;omega
 | 1=>rcases h6 with e|e|e|e|e|e<;>subst e<;>(simp only[stX,ordA,inc3];omega)
 | 2=>rcases h6 with e|e|e|e|e|e<;>subst e<;>(simp only[stX,ordA,inc3];omega)
 | k+3=>rcases h6 with e|e|e|e|e|e<;>subst e<;>(simp only[stX,ordA,inc3];omega)
def n3L (x:N3):List Int:=[(x.1:Int),(x.2.1:Int),(x.2.2:Int)]
theorem cs1 (a:Nat):(a:Int)+1=((a+1:Nat):Int):=rfl
theorem g4_0 (a b c d:Int):[a,b,c,d].getD 0 0=a:=rfl
theorem g4_1 (a b c d:Int):[a,b,c,d].getD 1 0=b:=rfl
theorem g4_2 (a b c d:Int):[a,b,c,d].getD 2 0=c:=rfl
theorem g4_3 (a b c d:Int):[a,b,c,d].getD 3 0=d:=rfl
theorem i4_0 (a b c d:Int):[a,b,c,d].getD (0:Int).toNat 0=a:=rfl
theorem i4_1 (a b c d:Int):[a,b,c,d].getD (1:Int).toNat 0=b:=rfl
theorem i4_2 (a b c d:Int):[a,b,c,d].getD (2:Int).toNat 0=c:=rfl
theorem i4_3 (a b c d:Int):[a,b,c,d].getD (3:Int).toNat 0=d:=rfl
theorem sm1:(1:Int)-1=0:=rfl
theorem sm2:(2:Int)-1=1:=rfl
theorem sm3:(3:Int)-1=2:=rfl
theorem s3_0 (a b c d:Int):[a,b,c].set 0 d=[d,b,c]:=rfl
theorem s3_1 (a b c d:Int):[a,b,c].set 1 d=[a,d,c]:=rfl
theorem s3_2 (a b c d:Int):[a,b,c].set 2 d=[a,b,d]:=rfl
theorem tn3:(3:Int).toNat=3:=rfl
theorem cp_j (data:List Int)(p j:Nat)(h:j<3):((data.take ((p:Int)*3+3).toNat).drop ((p:Int)*3).toNat).getD j 0=data.getD (3*p+j) 0:=by
 have e1:((p:Int)*3).toNat=3*p:=by omega
 have e2:((p:Int)*3+3).toNat=3*p+3:=by omega
 rw[e1,e2,jhF,jhF,List.getElem?_drop,List.getElem?_take,if_pos (by omega)]
theorem cp_0 (data:List Int)(p:Nat):((data.take ((p:Int)*3+3).toNat).drop ((p:Int)*3).toNat).getD 0 0=(gv data p).1:=cp_j data p 0 (by omega)
theorem cp_1 (data:List Int)(p:Nat):((data.take ((p:Int)*3+3).toNat).drop ((p:Int)*3).toNat).getD 1 0=(gv data p).2.1:=cp_j data p 1 (by omega)
theorem cp_2 (data:List Int)(p:Nat):((data.take ((p:Int)*3+3).toNat).drop ((p:Int)*3).toNat).getD (1+1) 0=(gv data p).2.2:=cp_j data p 2 (by omega)
def v3L (a:V3):List Int:=[a.1,a.2.1,a.2.2]
def zL:List Int:=[0,0,0]
def tetL (x o:N3)(c:Nat→V3):Nat→List Int
 | 0=>n3L x++n3L o++zL++zL++zL++zL
 | 1=>n3L x++n3L o++v3L (c 0)++zL++zL++zL
 | 2=>n3L x++n3L o++v3L (c 0)++v3L (c 1)++zL++zL
 | 3=>n3L x++n3L o++v3L (c 0)++v3L (c 1)++v3L (c 2)++zL
 | _=>n3L x++n3L o++v3L (c 0)++v3L (c 1)++v3L (c 2)++v3L (c 3)
def tetD (x o:N3)(c:Nat→V3):D := .agg ((tetL x o c 4).map (D.int .i64))
theorem jgK:type_of% @jg8∧type_of% @cs1∧type_of% @g3_0∧type_of% @g3_1∧type_of% @g3_2∧type_of% @i3_0∧type_of% @i3_1∧type_of% @i3_2∧type_of% @k0∧type_of% @k1∧type_of% @k2∧type_of% @s3_0∧type_of% @s3_1∧type_of% @s3_2∧type_of% @sm1∧type_of% @sm2∧type_of% @sm3∧type_of% @tn0∧type_of% @tn1∧type_of% @tn2:=⟨@jg8,@cs1,@g3_0,@g3_1,@g3_2,@i3_0,@i3_1,@i3_2,@k0,@k1,@k2,@s3_0,@s3_1,@s3_2,@sm1,@sm2,@sm3,@tn0,@tn1,@tn2⟩
theorem jgH:type_of% @jg8∧type_of% @cp_0∧type_of% @cp_1∧type_of% @cp_2∧type_of% @cs1∧type_of% @g3_0∧type_of% @g3_1∧type_of% @g3_2∧type_of% @i3_0∧type_of% @i3_1∧type_of% @i3_2∧type_of% @k0∧type_of% @k1∧type_of% @k2∧type_of% @s3_0∧type_of% @s3_1∧type_of% @s3_2∧type_of% @sm1∧type_of% @sm2∧type_of% @sm3∧type_of% @tn0∧type_of% @tn1∧type_of% @tn2∧type_of% @tn3:=⟨@jg8,@cp_0,@cp_1,@cp_2,@cs1,@g3_0,@g3_1,@g3_2,@i3_0,@i3_1,@i3_2,@k0,@k1,@k2,@s3_0,@s3_1,@s3_2,@sm1,@sm2,@sm3,@tn0,@tn1,@tn2,@tn3⟩
theorem made_0 {s0 s1 s2:Nat}{data:List Int}(C:Cu s0 s1 s2 data){x:N3}{o:Nat}(ho:o<6)(hx:x.1+1<s0∧x.2.1+1<s1∧x.2.2+1<s2)(c:Nat→V3)(hc:∀ k,c k=cnr data s1 s2 (stX x (ordA o) k)) :
  Cl 30 [gridD (sz3 s0 s1 s2) 3 data,n3D x,n3I (ordA o)] (tetD x (ordA o) c):=by
 have h0:=C.h0
 have h1:=C.h1
 have h2:=C.h2
 have z0:=sz3_0 s0 s1 s2
 have z1:=sz3_1 s0 s1 s2
 have z2:=sz3_2 s0 s1 s2
 have zl:=jeV s0 s1 s2
 have y1:(sz3 s0 s1 s2).getD 1 0=s1:=rfl
 have y2:(sz3 s0 s1 s2).getD 2 0=s2:=rfl
 have hf:∀ k,_:=fun k=>plc_facts C (stX_in hx ho k)
 have he:∀ k,_:=fun k=>plc_cast s1 s2 (stX x (ordA o) k)
 have hcv:∀ k,c k=gv data (plc s1 s2 (stX x (ordA o) k)):=hc
 clear hc
 unfold gridD
 generalize sz3 s0 s1 s2=sz at *
 obtain⟨x0,x1,x2⟩:=x
 dsimp only at hx
 unfold n3D n3I
 have h6:o=0∨o=1∨o=2∨o=3∨o=4∨o=5:=by omega
 rcases h6 with h6|h6|h6|h6|h6|h6
 all_goals subst h6
 ·refine V.en tbOk Tryz.func30 ?_
  refine V.r0 @jg8 ?_
  refine jae (0) (fun k=>k≤4) (fun k=>4-k) (fun k=>[(15,.int .i64 k)]) (fun k=>[(8,.arr .i64 (n3L (stX (x0,x1,x2) (ordA 0) (k-1)))),(7,.box ((tetL (x0,x1,x2) (ordA 0) c k).map (D.int .i64)))]) ?_ ?_ ?_
  exact V.wk
  exact jg2 _
  intro k hk
  refine V.r0 @jg8 ?_
  refine V.br (fun hq=>?_) (fun hq=>?_)
  ·rw[decide_eq_true_eq] at hq
   have hk3:k=0∨k=1∨k=2∨k=3:=by omega
   rcases hk3 with e|e|e|e
   ·subst e
    have e0:=he 0
    have f0:=hf 0
    have c0:=(hcv 0).symm
    simp only[stX,n3L,v3L,ordA,inc3,k0,tetL,zL,jhD,jhR,List.map_cons,List.map_nil,jhp,jhq,jhr,Nat.reduceSub] at e0 f0 c0 ⊢
    refine V.r0 jgK ?_
    refine⟨Pq1z,[],V.pok,.go (jab ?_)⟩
    refine V.r0 (V.a7 jgH z1 z2 y1 y2 e0 c0) ?_
    refine⟨Pq15z,[],V.pok,.go (jab ?_)⟩
    refine V.r0 (V.a7 jgH z1 z2 y1 y2 e0 c0) ?_
    exact⟨1,by omega,by omega,V.wk⟩
   ·subst e
    have e0:=he 1
    have f0:=hf 1
    have c0:=(hcv 1).symm
    simp only[stX,n3L,v3L,ordA,inc3,k1,tetL,zL,jhD,jhR,List.map_cons,List.map_nil,jhp,jhq,jhr,Nat.reduceSub] at e0 f0 c0 ⊢
    refine V.r0 jgK ?_
    refine⟨Pq1z,[],V.pok,.go (jab ?_)⟩
    refine V.r0 (V.a7 jgH z1 z2 y1 y2 e0 c0) ?_
    refine⟨Pq15z,[],V.pok,.go (jab ?_)⟩
    refine V.r0 (V.a7 jgH z1 z2 y1 y2 e0 c0) ?_
    exact⟨2,by omega,by omega,V.wk⟩
   ·subst e
    have e0:=he 2
    have f0:=hf 2
    have c0:=(hcv 2).symm
    simp only[stX,n3L,v3L,ordA,inc3,k2,tetL,zL,jhD,jhR,List.map_cons,List.map_nil,jhp,jhq,jhr,Nat.reduceSub] at e0 f0 c0 ⊢
    refine V.r0 jgK ?_
    refine⟨Pq1z,[],V.pok,.go (jab ?_)⟩
    refine V.r0 (V.a7 jgH z1 z2 y1 y2 e0 c0) ?_
    refine⟨Pq15z,[],V.pok,.go (jab ?_)⟩
    refine V.r0 (V.a7 jgH z1 z2 y1 y2 e0 c0) ?_
    exact⟨3,by omega,by omega,V.wk⟩
   ·subst e
    have e0:=he 3
    have f0:=hf 3
    have c0:=(hcv 3).symm
    simp only[stX,n3L,v3L,ordA,inc3,k3,tetL,zL,jhD,jhR,List.map_cons,List.map_nil,jhp,jhq,jhr,Nat.reduceSub] at e0 f0 c0 ⊢
    refine V.r0 jgK ?_
    refine⟨Pq1z,[],V.pok,.go (jab ?_)⟩
    refine V.r0 (V.a7 jgH z1 z2 y1 y2 e0 c0) ?_
    refine⟨Pq15z,[],V.pok,.go (jab ?_)⟩
    refine V.r0 (V.a7 jgH z1 z2 y1 y2 e0 c0) ?_
    exact⟨4,by omega,by omega,V.wk⟩
  ·rw[decide_eq_false_iff_not] at hq
   have hk3:k=4:=by omega
   subst hk3
   refine V.r0 @jg8 ?_
   exact Fin.of rfl
 ·refine V.en tbOk Tryz.func30 ?_
  refine V.r0 @jg8 ?_
  refine jae (0) (fun k=>k≤4) (fun k=>4-k) (fun k=>[(15,.int .i64 k)]) (fun k=>[(8,.arr .i64 (n3L (stX (x0,x1,x2) (ordA 1) (k-1)))),(7,.box ((tetL (x0,x1,x2) (ordA 1) c k).map (D.int .i64)))]) ?_ ?_ ?_
  exact V.wk
  exact jg2 _
  intro k hk
  refine V.r0 @jg8 ?_
  refine V.br (fun hq=>?_) (fun hq=>?_)
  ·rw[decide_eq_true_eq] at hq
   have hk3:k=0∨k=1∨k=2∨k=3:=by omega
   rcases hk3 with e|e|e|e
   ·subst e
    have e0:=he 0
    have f0:=hf 0
    have c0:=(hcv 0).symm
    simp only[stX,n3L,v3L,ordA,inc3,k0,tetL,zL,jhD,jhR,List.map_cons,List.map_nil,jhp,jhq,jhr,Nat.reduceSub] at e0 f0 c0 ⊢
    refine V.r0 jgK ?_
    refine⟨Pq1z,[],V.pok,.go (jab ?_)⟩
    refine V.r0 (V.a7 jgH z1 z2 y1 y2 e0 c0) ?_
    refine⟨Pq15z,[],V.pok,.go (jab ?_)⟩
    refine V.r0 (V.a7 jgH z1 z2 y1 y2 e0 c0) ?_
    exact⟨1,by omega,by omega,V.wk⟩
   ·subst e
    have e0:=he 1
    have f0:=hf 1
    have c0:=(hcv 1).symm
    simp only[stX,n3L,v3L,ordA,inc3,k1,tetL,zL,jhD,jhR,List.map_cons,List.map_nil,jhp,jhq,jhr,Nat.reduceSub] at e0 f0 c0 ⊢
    refine V.r0 jgK ?_
    refine⟨Pq1z,[],V.pok,.go (jab ?_)⟩
    refine V.r0 (V.a7 jgH z1 z2 y1 y2 e0 c0) ?_
    refine⟨Pq15z,[],V.pok,.go (jab ?_)⟩
    refine V.r0 (V.a7 jgH z1 z2 y1 y2 e0 c0) ?_
    exact⟨2,by omega,by omega,V.wk⟩
   ·subst e
    have e0:=he 2
    have f0:=hf 2
    have c0:=(hcv 2).symm
    simp only[stX,n3L,v3L,ordA,inc3,k2,tetL,zL,jhD,jhR,List.map_cons,List.map_nil,jhp,jhq,jhr,Nat.reduceSub] at e0 f0 c0 ⊢
    refine V.r0 jgK ?_
    refine⟨Pq1z,[],V.pok,.go (jab ?_)⟩
    refine V.r0 (V.a7 jgH z1 z2 y1 y2 e0 c0) ?_
    refine⟨Pq15z,[],V.pok,.go (jab ?_)⟩
    refine V.r0 (V.a7 jgH z1 z2 y1 y2 e0 c0) ?_
    exact⟨3,by omega,by omega,V.wk⟩
   ·subst e
    have e0:=he 3
    have f0:=hf 3
    have c0:=(hcv 3).symm
    simp only[stX,n3L,v3L,ordA,inc3,k3,tetL,zL,jhD,jhR,List.map_cons,List.map_nil,jhp,jhq,jhr,Nat.reduceSub] at e0 f0 c0 ⊢
    refine V.r0 jgK ?_
    refine⟨Pq1z,[],V.pok,.go (jab ?_)⟩
    refine V.r0 (V.a7 jgH z1 z2 y1 y2 e0 c0) ?_
    refine⟨Pq15z,[],V.pok,.go (jab ?_)⟩
    refine V.r0 (V.a7 jgH z1 z2 y1 y2 e0 c0) ?_
    exact⟨4,by omega,by omega,V.wk⟩
  ·rw[decide_eq_false_iff_not] at hq
   have hk3:k=4:=by omega
   subst hk3
   refine V.r0 @jg8 ?_
   exact Fin.of rfl
 ·refine V.en tbOk Tryz.func30 ?_
  refine V.r0 @jg8 ?_
  refine jae (0) (fun k=>k≤4) (fun k=>4-k) (fun k=>[(15,.int .i64 k)]) (fun k=>[(8,.arr .i64 (n3L (stX (x0,x1,x2) (ordA 2) (k-1)))),(7,.box ((tetL (x0,x1,x2) (ordA 2) c k).map (D.int .i64)))]) ?_ ?_ ?_
  exact V.wk
  exact jg2 _
  intro k hk
  refine V.r0 @jg8 ?_
  refine V.br (fun hq=>?_) (fun hq=>?_)
  ·rw[decide_eq_true_eq] at hq
   have hk3:k=0∨k=1∨k=2∨k=3:=by omega
   rcases hk3 with e|e|e|e
   ·subst e
    have e0:=he 0
    have f0:=hf 0
    have c0:=(hcv 0).symm
    simp only[stX,n3L,v3L,ordA,inc3,k0,tetL,zL,jhD,jhR,List.map_cons,List.map_nil,jhp,jhq,jhr,Nat.reduceSub] at e0 f0 c0 ⊢
    refine V.r0 jgK ?_
    refine⟨Pq1z,[],V.pok,.go (jab ?_)⟩
    refine V.r0 (V.a7 jgH z1 z2 y1 y2 e0 c0) ?_
    refine⟨Pq15z,[],V.pok,.go (jab ?_)⟩
    refine V.r0 (V.a7 jgH z1 z2 y1 y2 e0 c0) ?_
    exact⟨1,by omega,by omega,V.wk⟩
   ·subst e
    have e0:=he 1
    have f0:=hf 1
    have c0:=(hcv 1).symm
    simp only[stX,n3L,v3L,ordA,inc3,k1,tetL,zL,jhD,jhR,List.map_cons,List.map_nil,jhp,jhq,jhr,Nat.reduceSub] at e0 f0 c0 ⊢
    refine V.r0 jgK ?_
    refine⟨Pq1z,[],V.pok,.go (jab ?_)⟩
    refine V.r0 (V.a7 jgH z1 z2 y1 y2 e0 c0) ?_
    refine⟨Pq15z,[],V.pok,.go (jab ?_)⟩
    refine V.r0 (V.a7 jgH z1 z2 y1 y2 e0 c0) ?_
    exact⟨2,by omega,by omega,V.wk⟩
   ·subst e
    have e0:=he 2
    have f0:=hf 2
    have c0:=(hcv 2).symm
    simp only[stX,n3L,v3L,ordA,inc3,k2,tetL,zL,jhD,jhR,List.map_cons,List.map_nil,jhp,jhq,jhr,Nat.reduceSub] at e0 f0 c0 ⊢
    refine V.r0 jgK ?_
    refine⟨Pq1z,[],V.pok,.go (jab ?_)⟩
    refine V.r0 (V.a7 jgH z1 z2 y1 y2 e0 c0) ?_
    refine⟨Pq15z,[],V.pok,.go (jab ?_)⟩
    refine V.r0 (V.a7 jgH z1 z2 y1 y2 e0 c0) ?_
    exact⟨3,by omega,by omega,V.wk⟩
   ·subst e
    have e0:=he 3
    have f0:=hf 3
    have c0:=(hcv 3).symm
    simp only[stX,n3L,v3L,ordA,inc3,k3,tetL,zL,jhD,jhR,List.map_cons,List.map_nil,jhp,jhq,jhr,Nat.reduceSub] at e0 f0 c0 ⊢
    refine V.r0 jgK ?_
    refine⟨Pq1z,[],V.pok,.go (jab ?_)⟩
    refine V.r0 (V.a7 jgH z1 z2 y1 y2 e0 c0) ?_
    refine⟨Pq15z,[],V.pok,.go (jab ?_)⟩
    refine V.r0 (V.a7 jgH z1 z2 y1 y2 e0 c0) ?_
    exact⟨4,by omega,by omega,V.wk⟩
  ·rw[decide_eq_false_iff_not] at hq
   have hk3:k=4:=by omega
   subst hk3
   refine V.r0 @jg8 ?_
   exact Fin.of rfl
 ·refine V.en tbOk Tryz.func30 ?_
  refine V.r0 @jg8 ?_
  refine jae (0) (fun k=>k≤4) (fun k=>4-k) (fun k=>[(15,.int .i64 k)]) (fun k=>[(8,.arr .i64 (n3L (stX (x0,x1,x2) (ordA 3) (k-1)))),(7,.box ((tetL (x0,x1,x2) (ordA 3) c k).map (D.int .i64)))]) ?_ ?_ ?_
  exact V.wk
  exact jg2 _
  intro k hk
  refine V.r0 @jg8 ?_
  refine V.br (fun hq=>?_) (fun hq=>?_)
  ·rw[decide_eq_true_eq] at hq
   have hk3:k=0∨k=1∨k=2∨k=3:=by omega
   rcases hk3 with e|e|e|e
   ·subst e
    have e0:=he 0
    have f0:=hf 0
    have c0:=(hcv 0).symm
    simp only[stX,n3L,v3L,ordA,inc3,k0,tetL,zL,jhD,jhR,List.map_cons,List.map_nil,jhp,jhq,jhr,Nat.reduceSub] at e0 f0 c0 ⊢
    refine V.r0 jgK ?_
    refine⟨Pq1z,[],V.pok,.go (jab ?_)⟩
    refine V.r0 (V.a7 jgH z1 z2 y1 y2 e0 c0) ?_
    refine⟨Pq15z,[],V.pok,.go (jab ?_)⟩
    refine V.r0 (V.a7 jgH z1 z2 y1 y2 e0 c0) ?_
    exact⟨1,by omega,by omega,V.wk⟩
   ·subst e
    have e0:=he 1
    have f0:=hf 1
    have c0:=(hcv 1).symm
    simp only[stX,n3L,v3L,ordA,inc3,k1,tetL,zL,jhD,jhR,List.map_cons,List.map_nil,jhp,jhq,jhr,Nat.reduceSub] at e0 f0 c0 ⊢
    refine V.r0 jgK ?_
    refine⟨Pq1z,[],V.pok,.go (jab ?_)⟩
    refine V.r0 (V.a7 jgH z1 z2 y1 y2 e0 c0) ?_
    refine⟨Pq15z,[],V.pok,.go (jab ?_)⟩
    refine V.r0 (V.a7 jgH z1 z2 y1 y2 e0 c0) ?_
    exact⟨2,by omega,by omega,V.wk⟩
   ·subst e
    have e0:=he 2
    have f0:=hf 2
    have c0:=(hcv 2).symm
    simp only[stX,n3L,v3L,ordA,inc3,k2,tetL,zL,jhD,jhR,List.map_cons,List.map_nil,jhp,jhq,jhr,Nat.reduceSub] at e0 f0 c0 ⊢
    refine V.r0 jgK ?_
    refine⟨Pq1z,[],V.pok,.go (jab ?_)⟩
    refine V.r0 (V.a7 jgH z1 z2 y1 y2 e0 c0) ?_
    refine⟨Pq15z,[],V.pok,.go (jab ?_)⟩
    refine V.r0 (V.a7 jgH z1 z2 y1 y2 e0 c0) ?_
    exact⟨3,by omega,by omega,V.wk⟩
   ·subst e
    have e0:=he 3
    have f0:=hf 3
    have c0:=(hcv 3).symm
    simp only[stX,n3L,v3L,ordA,inc3,k3,tetL,zL,jhD,jhR,List.map_cons,List.map_nil,jhp,jhq,jhr,Nat.reduceSub] at e0 f0 c0 ⊢
    refine V.r0 jgK ?_
    refine⟨Pq1z,[],V.pok,.go (jab ?_)⟩
    refine V.r0 (V.a7 jgH z1 z2 y1 y2 e0 c0) ?_
    refine⟨Pq15z,[],V.pok,.go (jab ?_)⟩
    refine V.r0 (V.a7 jgH z1 z2 y1 y2 e0 c0) ?_
    exact⟨4,by omega,by omega,V.wk⟩
  ·rw[decide_eq_false_iff_not] at hq
   have hk3:k=4:=by omega
   subst hk3
   refine V.r0 @jg8 ?_
   exact Fin.of rfl
 ·refine V.en tbOk Tryz.func30 ?_
  refine V.r0 @jg8 ?_
  refine jae (0) (fun k=>k≤4) (fun k=>4-k) (fun k=>[(15,.int .i64 k)]) (fun k=>[(8,.arr .i64 (n3L (stX (x0,x1,x2) (ordA 4) (k-1)))),(7,.box ((tetL (x0,x1,x2) (ordA 4) c k).map (D.int .i64)))]) ?_ ?_ ?_
  exact V.wk
  exact jg2 _
  intro k hk
  refine V.r0 @jg8 ?_
  refine V.br (fun hq=>?_) (fun hq=>?_)
  ·rw[decide_eq_true_eq] at hq
   have hk3:k=0∨k=1∨k=2∨k=3:=by omega
   rcases hk3 with e|e|e|e
   ·subst e
    have e0:=he 0
    have f0:=hf 0
    have c0:=(hcv 0).symm
    simp only[stX,n3L,v3L,ordA,inc3,k0,tetL,zL,jhD,jhR,List.map_cons,List.map_nil,jhp,jhq,jhr,Nat.reduceSub] at e0 f0 c0 ⊢
    refine V.r0 jgK ?_
    refine⟨Pq1z,[],V.pok,.go (jab ?_)⟩
    refine V.r0 (V.a7 jgH z1 z2 y1 y2 e0 c0) ?_
    refine⟨Pq15z,[],V.pok,.go (jab ?_)⟩
    refine V.r0 (V.a7 jgH z1 z2 y1 y2 e0 c0) ?_
    exact⟨1,by omega,by omega,V.wk⟩
   ·subst e
    have e0:=he 1
    have f0:=hf 1
    have c0:=(hcv 1).symm
    simp only[stX,n3L,v3L,ordA,inc3,k1,tetL,zL,jhD,jhR,List.map_cons,List.map_nil,jhp,jhq,jhr,Nat.reduceSub] at e0 f0 c0 ⊢
    refine V.r0 jgK ?_
    refine⟨Pq1z,[],V.pok,.go (jab ?_)⟩
    refine V.r0 (V.a7 jgH z1 z2 y1 y2 e0 c0) ?_
    refine⟨Pq15z,[],V.pok,.go (jab ?_)⟩
    refine V.r0 (V.a7 jgH z1 z2 y1 y2 e0 c0) ?_
    exact⟨2,by omega,by omega,V.wk⟩
   ·subst e
    have e0:=he 2
    have f0:=hf 2
    have c0:=(hcv 2).symm
    simp only[stX,n3L,v3L,ordA,inc3,k2,tetL,zL,jhD,jhR,List.map_cons,List.map_nil,jhp,jhq,jhr,Nat.reduceSub] at e0 f0 c0 ⊢
    refine V.r0 jgK ?_
    refine⟨Pq1z,[],V.pok,.go (jab ?_)⟩
    refine V.r0 (V.a7 jgH z1 z2 y1 y2 e0 c0) ?_
    refine⟨Pq15z,[],V.pok,.go (jab ?_)⟩
    refine V.r0 (V.a7 jgH z1 z2 y1 y2 e0 c0) ?_
    exact⟨3,by omega,by omega,V.wk⟩
   ·subst e
    have e0:=he 3
    have f0:=hf 3
    have c0:=(hcv 3).symm
    simp only[stX,n3L,v3L,ordA,inc3,k3,tetL,zL,jhD,jhR,List.map_cons,List.map_nil,jhp,jhq,jhr,Nat.reduceSub] at e0 f0 c0 ⊢
    refine V.r0 jgK ?_
    refine⟨Pq1z,[],V.pok,.go (jab ?_)⟩
    refine V.r0 (V.a7 jgH z1 z2 y1 y2 e0 c0) ?_
    refine⟨Pq15z,[],V.pok,.go (jab ?_)⟩
    refine V.r0 (V.a7 jgH z1 z2 y1 y2 e0 c0) ?_
    exact⟨4,by omega,by omega,V.wk⟩
  ·rw[decide_eq_false_iff_not] at hq
   have hk3:k=4:=by omega
   subst hk3
   refine V.r0 @jg8 ?_
   exact Fin.of rfl
 ·refine V.en tbOk Tryz.func30 ?_
  refine V.r0 @jg8 ?_
  refine jae (0) (fun k=>k≤4) (fun k=>4-k) (fun k=>[(15,.int .i64 k)]) (fun k=>[(8,.arr .i64 (n3L (stX (x0,x1,x2) (ordA 5) (k-1)))),(7,.box ((tetL (x0,x1,x2) (ordA 5) c k).map (D.int .i64)))]) ?_ ?_ ?_
  exact V.wk
  exact jg2 _
  intro k hk
  refine V.r0 @jg8 ?_
  refine V.br (fun hq=>?_) (fun hq=>?_)
  ·rw[decide_eq_true_eq] at hq
   have hk3:k=0∨k=1∨k=2∨k=3:=by omega
   rcases hk3 with e|e|e|e
   ·subst e
    have e0:=he 0
    have f0:=hf 0
    have c0:=(hcv 0).symm
    simp only[stX,n3L,v3L,ordA,inc3,k0,tetL,zL,jhD,jhR,List.map_cons,List.map_nil,jhp,jhq,jhr,Nat.reduceSub] at e0 f0 c0 ⊢
    refine V.r0 jgK ?_
    refine⟨Pq1z,[],V.pok,.go (jab ?_)⟩
    refine V.r0 (V.a7 jgH z1 z2 y1 y2 e0 c0) ?_
    refine⟨Pq15z,[],V.pok,.go (jab ?_)⟩
    refine V.r0 (V.a7 jgH z1 z2 y1 y2 e0 c0) ?_
    exact⟨1,by omega,by omega,V.wk⟩
   ·subst e
    have e0:=he 1
    have f0:=hf 1
    have c0:=(hcv 1).symm
    simp only[stX,n3L,v3L,ordA,inc3,k1,tetL,zL,jhD,jhR,List.map_cons,List.map_nil,jhp,jhq,jhr,Nat.reduceSub] at e0 f0 c0 ⊢
    refine V.r0 jgK ?_
    refine⟨Pq1z,[],V.pok,.go (jab ?_)⟩
    refine V.r0 (V.a7 jgH z1 z2 y1 y2 e0 c0) ?_
    refine⟨Pq15z,[],V.pok,.go (jab ?_)⟩
    refine V.r0 (V.a7 jgH z1 z2 y1 y2 e0 c0) ?_
    exact⟨2,by omega,by omega,V.wk⟩
   ·subst e
    have e0:=he 2
    have f0:=hf 2
    have c0:=(hcv 2).symm
    simp only[stX,n3L,v3L,ordA,inc3,k2,tetL,zL,jhD,jhR,List.map_cons,List.map_nil,jhp,jhq,jhr,Nat.reduceSub] at e0 f0 c0 ⊢
    refine V.r0 jgK ?_
    refine⟨Pq1z,[],V.pok,.go (jab ?_)⟩
    refine V.r0 (V.a7 jgH z1 z2 y1 y2 e0 c0) ?_
    refine⟨Pq15z,[],V.pok,.go (jab ?_)⟩
    refine V.r0 (V.a7 jgH z1 z2 y1 y2 e0 c0) ?_
    exact⟨3,by omega,by omega,V.wk⟩
   ·subst e
    have e0:=he 3
    have f0:=hf 3
    have c0:=(hcv 3).symm
    simp only[stX,n3L,v3L,ordA,inc3,k3,tetL,zL,jhD,jhR,List.map_cons,List.map_nil,jhp,jhq,jhr,Nat.reduceSub] at e0 f0 c0 ⊢
    refine V.r0 jgK ?_
    refine⟨Pq1z,[],V.pok,.go (jab ?_)⟩
    refine V.r0 (V.a7 jgH z1 z2 y1 y2 e0 c0) ?_
    refine⟨Pq15z,[],V.pok,.go (jab ?_)⟩
    refine V.r0 (V.a7 jgH z1 z2 y1 y2 e0 c0) ?_
    exact⟨4,by omega,by omega,V.wk⟩
  ·rw[decide_eq_false_iff_not] at hq
   have hk3:k=4:=by omega
   subst hk3
   refine V.r0 @jg8 ?_
   exact Fin.of rfl
def okT (ts:List Int):Bool:=ts.all fun v=>decide (0≤v∧v≤65535)
def chk (size:List Int)(out:Int)(data ts:List Int):Int:=
 if jaw size out data then (if size.length=3∧out=3∧ts.length=3 then (if okT ts then 0 else 2) else 2) else 100
theorem okT3 (a b c:Int):okT [a,b,c]=true↔(0≤a∧a≤65535)∧(0≤b∧b≤65535)∧(0≤c∧c≤65535):=by
 simp[okT]
theorem lcheck_c (size:List Int)(out:Int)(data ts:List Int)(hs:size.length≤281474976710656)(hd:data.length≤281474976710656)(ht:ts.length≤281474976710656) :
  Cl 16 [gridD size out data,.ints .i64 ts] (.int .i64 (chk size out data ts)):=by
 have hg:=jgB size out data hs hd
 unfold chk
 cases hok:jaw size out data
 ·rw[hok] at hg
  simp only[if_neg (show ¬ (false=true) by decide)] at hg ⊢
  unfold gridD
  refine V.en tbOk Tryz.func16 ?_
  refine V.r1 @jg8 hg ?_
  exact Fin.of rfl
 rw[hok] at hg
 simp only[if_pos (show true=true from rfl)] at hg ⊢
 rcases Decidable.em (size.length=3∧out=3∧ts.length=3) with h3|h3
 rotate_left
 ·rw[if_neg h3]
  unfold gridD
  refine V.en tbOk Tryz.func16 ?_
  refine V.r1 @jg8 hg ?_
  refine V.br (fun hq=>?_) (fun hq=>?_)
  ·refine V.r0 @jg8 ?_
   exact Fin.of rfl
  ·exfalso
   apply h3
   simp at hq
   omega
 rw[if_pos h3]
 obtain⟨e1,e2,e3⟩:=h3
 match ts,e3 with
 | [a,b,c],_=>
  have hT:=okT3 a b c
  subst e2
  unfold gridD
  refine V.en tbOk Tryz.func16 ?_
  refine V.r1 @jg8 hg ?_
  refine V.br (fun hq=>?_) (fun hq=>?_)
  ·exfalso
   simp at hq
   omega
  refine V.r0 @jg8 ?_
  refine jae (0) (fun k=>k≤3∧(1≤k→0≤a∧a≤65535)∧(2≤k→0≤b∧b≤65535)∧(3≤k→0≤c∧c≤65535)) (fun k=>3-k) (fun k=>[(29,.int .i64 k)]) (fun k=>[]) ?_ ?_ ?_
  ·exact V.wk
  ·omega
  intro k hk
  refine V.r0 @jg8 ?_
  refine V.br (fun hq2=>?_) (fun hq2=>?_)
  ·have hk3:k=0∨k=1∨k=2:=by
    simp at hq2
    omega
   rcases hk3 with e|e|e
   ·subst e
    simp only[k0]
    refine V.r0 (V.a4 @jg8 @i3_0 @g3_0 @tn0) ?_
    refine V.br (fun hq3=>?_) (fun hq3=>?_)
    ·have hn:¬ okT [a,b,c]=true:=fun h=>by
      have:=hT.1 h
      simp at hq3
      omega
     rw[if_neg hn]
     refine V.r0 @jg8 ?_
     exact Fin.of rfl
    ·simp at hq3
     refine V.r0 @jg8 ?_
     exact⟨1,by omega,by omega,V.wk⟩
   ·subst e
    simp only[k1]
    refine V.r0 (V.a4 @jg8 @i3_1 @g3_1 @tn1) ?_
    refine V.br (fun hq3=>?_) (fun hq3=>?_)
    ·have hn:¬ okT [a,b,c]=true:=fun h=>by
      have:=hT.1 h
      simp at hq3
      omega
     rw[if_neg hn]
     refine V.r0 @jg8 ?_
     exact Fin.of rfl
    ·simp at hq3
     refine V.r0 @jg8 ?_
     exact⟨2,by omega,by omega,V.wk⟩
   ·subst e
    simp only[k2]
    refine V.r0 (V.a4 @jg8 @i3_2 @g3_2 @tn2) ?_
    refine V.br (fun hq3=>?_) (fun hq3=>?_)
    ·have hn:¬ okT [a,b,c]=true:=fun h=>by
      have:=hT.1 h
      simp at hq3
      omega
     rw[if_neg hn]
     refine V.r0 @jg8 ?_
     exact Fin.of rfl
    ·simp at hq3
     refine V.r0 @jg8 ?_
     exact⟨3,by omega,by omega,V.wk⟩
  ·have hk3:k=3:=by
    simp at hq2
    omega
   subst hk3
   rw[if_pos (hT.2 (by omega))]
   refine V.r0 @jg8 ?_
   exact Fin.of rfl
def m9D (a b c:V3):D := .agg [.int .i64 a.1,.int .i64 a.2.1,.int .i64 a.2.2,.int .i64 b.1,.int .i64 b.2.1,.int .i64 b.2.2,.int .i64 c.1,.int .i64 c.2.1,.int .i64 c.2.2]
theorem pdet_c (a b c:V3)(ha:Bd3 65535 a)(hb:Bd3 65535 b)(hc:Bd3 65535 c):Cl 31 [m9D a b c] (.int .i64 (dt a b c)):=by
 obtain⟨a0,a1,a2⟩:=a
 obtain⟨b0,b1,b2⟩:=b
 obtain⟨c0,c1,c2⟩:=c
 unfold Bd3 at ha hb hc
 dsimp only at ha hb hc
 have e1:=bd2 hb.2.1 hc.2.2
 have e2:=bd2 hb.2.2 hc.2.1
 have e3:=bd2 hb.2.2 hc.1
 have e4:=bd2 hb.1 hc.2.2
 have e5:=bd2 hb.1 hc.2.1
 have e6:=bd2 hb.2.1 hc.1
 have f1:=jen (N:=8589672450) ha.1 (show Bd 8589672450 (b1*c2-b2*c1) by unfold Bd at *; omega) (by omega) (by omega)
 have f2:=jen (N:=8589672450) ha.2.1 (show Bd 8589672450 (b0*c2-b2*c0) by unfold Bd at *; omega) (by omega) (by omega)
 have f3:=jen (N:=8589672450) ha.2.2 (show Bd 8589672450 (b0*c1-b1*c0) by unfold Bd at *; omega) (by omega) (by omega)
 unfold Bd at ha hb hc e1 e2 e3 e4 e5 e6 f1 f2 f3
 unfold m9D dt det3
 dsimp only
 refine V.en tbOk Tryz.func31 ?_
 (conv=>whnf)
 refine V.st ?_
 refine⟨(V.tk [0,1,2,3,4,5] (.ev (.cons 6 [5,4,3,2,1,0] (.ev (.cons 7 [5,4,3,2,1,0] (V.e1 8 [5,4,3,2,1,0] (V.e1 9 [5,4,3,2] (V.e1 10 [5,4] (V.e1 11 [] .done)))) (.cons 8 [5,4,3,2,1,0] (V.e1 7 [5,4,3,2,1,0] (V.e1 9 [5,4,3,2] (V.e1 10 [5,4] (V.e1 11 [] .done)))) .nil))) (.cons 7 [5,4,3,2,1,0] (.ev (.cons 6 [5,4,3,2,1,0] (V.e1 8 [5,4,3,2,1,0] (V.e1 9 [5,4,3,2] (V.e1 10 [5,4] (V.e1 11 [] .done)))) (.cons 8 [5,4,3,2,1,0] (V.e1 6 [5,4,3,2,1,0] (V.e1 9 [5,4,3,2] (V.e1 10 [5,4] (V.e1 11 [] .done)))) .nil))) (.cons 8 [5,4,3,2,1,0] (.ev (.cons 6 [5,4,3,2,1,0] (V.e1 7 [5,4,3,2,1,0] (V.e1 9 [5,4,3,2] (V.e1 10 [5,4] (V.e1 11 [] .done)))) (.cons 7 [5,4,3,2,1,0] (V.e1 6 [5,4,3,2,1,0] (V.e1 9 [5,4,3,2] (V.e1 10 [5,4] (V.e1 11 [] .done)))) .nil))) .nil))))),[],V.pok,?_⟩
 refine jad [(3,.box 3 0),(4,.box 4 0),(5,.box 5 0)] [(3,.arr .i64 [a0,a1,a2]),(4,.arr .i64 [b0,b1,b2]),(5,.arr .i64 [c0,c1,c2])] ?_ ?_
 ·exact V.d0 @jg8
 refine V.r0 (V.a7 @jg8 @g3_0 @g3_1 @g3_2 @i3_0 @i3_1 @i3_2) ?_
 exact Fin.of rfl
def stRow (a0 a1 a2:Int):Nat→List D
 | 0=>[.int .i64 0,.int .i64 0,.int .i64 0]
 | 1=>[.int .i64 a0,.int .i64 0,.int .i64 0]
 | 2=>[.int .i64 a0,.int .i64 a1,.int .i64 0]
 | _=>[.int .i64 a0,.int .i64 a1,.int .i64 a2]
def stRC (a b c:V3)(d:Nat):Nat→List D
 | 0=>stRow a.1 a.2.1 a.2.2 d++stRow b.1 b.2.1 b.2.2 d++stRow c.1 c.2.1 c.2.2 d
 | 1=>stRow a.1 a.2.1 a.2.2 (d+1)++stRow b.1 b.2.1 b.2.2 d++stRow c.1 c.2.1 c.2.2 d
 | 2=>stRow a.1 a.2.1 a.2.2 (d+1)++stRow b.1 b.2.1 b.2.2 (d+1)++stRow c.1 c.2.1 c.2.2 d
 | _=>stRow a.1 a.2.1 a.2.2 (d+1)++stRow b.1 b.2.1 b.2.2 (d+1)++stRow c.1 c.2.1 c.2.2 (d+1)
def stG (a0 a1 a2:Int):Nat→List Int
 | 0=>[0,0,0]
 | 1=>[a0,0,0]
 | 2=>[a0,a1,0]
 | _=>[a0,a1,a2]
def stF (W a b c:Int):Nat→Int
 | 0=>W
 | 1=>W-a
 | 2=>W-a-b
 | _=>W-a-b-c
theorem jgN:type_of% @jg8∧type_of% @g3_0∧type_of% @g3_1∧type_of% @g3_2∧type_of% @i3_0∧type_of% @i3_1∧type_of% @i3_2∧type_of% @s3_0∧type_of% @s3_1∧type_of% @s3_2∧type_of% @tn0∧type_of% @tn1∧type_of% @tn2∧type_of% @tn3:=⟨@jg8,@g3_0,@g3_1,@g3_2,@i3_0,@i3_1,@i3_2,@s3_0,@s3_1,@s3_2,@tn0,@tn1,@tn2,@tn3⟩
theorem weights_0 (x o:N3)(c:Nat→V3)(hv:∀ k,Vl (c k)){t:V3}(ht:Vl t):∃ p q r d,
  Cl 18 [tetD x o c,.ints .i64 (v3L t)] (.tup [.iarr .i64 [p,q,r],.int .i64 d,.bool (hld (c 0) (c 1) (c 2) (c 3) t).isSome]) ∧ ∀ y,hld (c 0) (c 1) (c 2) (c 3) t=some y→y=(p,q,r,d):=by
 unfold tetD tetL
 obtain⟨v0,h0⟩:∃ v0,c 0=v0:=⟨_,rfl⟩
 obtain⟨v1,h1⟩:∃ v1,c 1=v1:=⟨_,rfl⟩
 obtain⟨v2,h2⟩:∃ v2,c 2=v2:=⟨_,rfl⟩
 obtain⟨v3,h3⟩:∃ v3,c 3=v3:=⟨_,rfl⟩
 have b1:Bd3 65535 (sb v1 v0):=h1▸h0▸sb_bd (hv 1) (hv 0)
 have b2:Bd3 65535 (sb v2 v0):=h2▸h0▸sb_bd (hv 2) (hv 0)
 have b3:Bd3 65535 (sb v3 v0):=h3▸h0▸sb_bd (hv 3) (hv 0)
 have bg:Bd3 65535 (sb t v0):=h0▸sb_bd ht (hv 0)
 rw[h0,h1,h2,h3]
 have l0:Vl v0:=h0▸hv 0
 have l1:Vl v1:=h1▸hv 1
 have l2:Vl v2:=h2▸hv 2
 have l3:Vl v3:=h3▸hv 3
 clear hv h0 h1 h2 h3
 obtain⟨x0,x1,x2⟩:=x
 obtain⟨o0,o1,o2⟩:=o
 simp only[n3L,v3L,jhD,jhR,List.map_cons,List.map_nil]
 have hdW:=pdet_c _ _ _ b1 b2 b3
 have hda:=pdet_c _ _ _ bg b2 b3
 have hdb:=pdet_c _ _ _ b1 bg b3
 have hdc:=pdet_c _ _ _ b1 b2 bg
 obtain⟨W,eW⟩:∃ W,dt (sb v1 v0) (sb v2 v0) (sb v3 v0)=W:=⟨_,rfl⟩
 obtain⟨wa,ea⟩:∃ wa,dt (sb t v0) (sb v2 v0) (sb v3 v0)=wa:=⟨_,rfl⟩
 obtain⟨wb,eb⟩:∃ wb,dt (sb v1 v0) (sb t v0) (sb v3 v0)=wb:=⟨_,rfl⟩
 obtain⟨wc,ec⟩:∃ wc,dt (sb v1 v0) (sb v2 v0) (sb t v0)=wc:=⟨_,rfl⟩
 have bW:=dt_bd b1 b2 b3
 have ba:=dt_bd bg b2 b3
 have bb:=dt_bd b1 bg b3
 have bc:=dt_bd b1 b2 bg
 rw[eW] at hdW bW
 rw[ea] at hda ba
 rw[eb] at hdb bb
 rw[ec] at hdc bc
 have eh:hld v0 v1 v2 v3 t=if W=0∨sg1 W*wa<0∨sg1 W*wb<0∨sg1 W*wc<0∨W*sg1 W-sg1 W*wa-sg1 W*wb-sg1 W*wc<0 then none else some (sg1 W*wa,sg1 W*wb,sg1 W*wc,W*sg1 W):=by
  unfold hld
  dsimp only
  rw[eW,ea,eb,ec]
 rw[eh]
 clear eh eW ea eb ec
 obtain⟨s,es⟩:∃ s,sg1 W=s:=⟨_,rfl⟩
 have hs:(W<0→s = -1)∧(¬ W<0→s=1):=by
  rw[← es];unfold sg1
  exact⟨fun h=>if_pos h,fun h=>if_neg h⟩
 rw[es]
 clear es
 unfold Bd at bW ba bb bc
 have bs:(-1688772552032250≤W*s∧W*s≤1688772552032250)∧(-1688772552032250≤s*wa∧s*wa≤1688772552032250)∧(-1688772552032250≤s*wb∧s*wb≤1688772552032250)∧(-1688772552032250≤s*wc∧s*wc≤1688772552032250):=by
  rcases Decidable.em (W<0) with h|h
  ·rw[hs.1 h];omega
  ·rw[hs.2 h];omega
 obtain⟨p,q,r,d,hr,hd⟩:∃ p q r d,(W=0∨s*wa<0∨s*wb<0∨s*wc<0→p=0∧q=0∧r=0∧d=0)∧(¬ (W=0∨s*wa<0∨s*wb<0∨s*wc<0)→p=s*wa∧q=s*wb∧r=s*wc∧d=W*s):=by
  rcases Decidable.em (W=0∨s*wa<0∨s*wb<0∨s*wc<0) with h|h
  ·exact⟨0,0,0,0,fun _=>⟨rfl,rfl,rfl,rfl⟩,fun h'=>absurd h h'⟩
  ·exact⟨_,_,_,_,fun h'=>absurd h' h,fun _=>⟨rfl,rfl,rfl,rfl⟩⟩
 refine⟨p,q,r,d,?_,fun y hy=>by
  split at hy
  ·cases hy
  ·rename_i hn
   obtain⟨rfl,rfl,rfl,rfl⟩:=hd (by omega)
   exact(Option.some.inj hy).symm⟩
 unfold Vl at l0 l1 l2 l3 ht
 unfold m9D at hdW hda hdb hdc
 refine V.en tbOk Tryz.func18 ?_
 refine V.r0 @jg8 ?_
 refine jae (0) (fun k=>k≤3) (fun k=>3-k) (fun k=>[(15,.int .i64 k)]) (fun k=>[(7,.box (stRC (sb v1 v0) (sb v2 v0) (sb v3 v0) k 0)),(8,.arr .i64 (stG (sb t v0).1 (sb t v0).2.1 (sb t v0).2.2 k))]) ?_ ?_ ?_
 ·exact V.wk
 ·exact jg2 _
 intro k hk
 refine V.r0 @jg8 ?_
 refine V.br (fun hq=>?_) (fun hq=>?_)
 ·rw[decide_eq_true_eq] at hq
  have hk3:k=0∨k=1∨k=2:=by omega
  rcases hk3 with e|e|e
  all_goals subst e
  ·simp only[k0]
   refine V.r0 @jg8 ?_
   refine jae (0) (fun k=>k≤3) (fun k=>3-k) (fun k=>[(18,.int .i64 k)]) (fun k=>[(7,.box (stRC (sb v1 v0) (sb v2 v0) (sb v3 v0) 0 k))]) ?_ ?_ ?_
   exact V.wk
   exact jg2 _
   intro k hk
   refine V.r0 @jg8 ?_
   refine V.br (fun hq2=>?_) (fun hq2=>?_)
   ·rw[decide_eq_true_eq] at hq2
    have hk3:k=0∨k=1∨k=2:=by omega
    rcases hk3 with e|e|e
    ·subst e
     simp only[k0,stRC,stRow,jhD,jhR]
     refine V.r0 @jg8 ?_
     refine⟨Pq3z,[],V.pok,.go (jab ?_)⟩
     refine V.r0 jgN ?_
     exact⟨1,by omega,by omega,V.wk⟩
    ·subst e
     simp only[k1,stRC,stRow,jhD,jhR]
     refine V.r0 @jg8 ?_
     refine⟨Pq3z,[],V.pok,.go (jab ?_)⟩
     refine V.r0 jgN ?_
     exact⟨2,by omega,by omega,V.wk⟩
    ·subst e
     simp only[k2,stRC,stRow,jhD,jhR]
     refine V.r0 @jg8 ?_
     refine⟨Pq3z,[],V.pok,.go (jab ?_)⟩
     refine V.r0 jgN ?_
     exact⟨3,by omega,by omega,V.wk⟩
   ·rw[decide_eq_false_iff_not] at hq2
    have hk3:k=3:=by omega
    subst hk3
    simp only[k3,stRC,stRow,stG,jhD,jhR]
    refine V.r0 @jg8 ?_
    refine⟨Pq11z,[],V.pok,.go (jab ?_)⟩
    refine V.r0 jgN ?_
    exact⟨1,by omega,by omega,V.wk⟩
  ·simp only[k1]
   refine V.r0 @jg8 ?_
   refine jae (0) (fun k=>k≤3) (fun k=>3-k) (fun k=>[(18,.int .i64 k)]) (fun k=>[(7,.box (stRC (sb v1 v0) (sb v2 v0) (sb v3 v0) 1 k))]) ?_ ?_ ?_
   exact V.wk
   exact jg2 _
   intro k hk
   refine V.r0 @jg8 ?_
   refine V.br (fun hq2=>?_) (fun hq2=>?_)
   ·rw[decide_eq_true_eq] at hq2
    have hk3:k=0∨k=1∨k=2:=by omega
    rcases hk3 with e|e|e
    ·subst e
     simp only[k0,stRC,stRow,jhD,jhR]
     refine V.r0 @jg8 ?_
     refine⟨Pq3z,[],V.pok,.go (jab ?_)⟩
     refine V.r0 jgN ?_
     exact⟨1,by omega,by omega,V.wk⟩
    ·subst e
     simp only[k1,stRC,stRow,jhD,jhR]
     refine V.r0 @jg8 ?_
     refine⟨Pq3z,[],V.pok,.go (jab ?_)⟩
     refine V.r0 jgN ?_
     exact⟨2,by omega,by omega,V.wk⟩
    ·subst e
     simp only[k2,stRC,stRow,jhD,jhR]
     refine V.r0 @jg8 ?_
     refine⟨Pq3z,[],V.pok,.go (jab ?_)⟩
     refine V.r0 jgN ?_
     exact⟨3,by omega,by omega,V.wk⟩
   ·rw[decide_eq_false_iff_not] at hq2
    have hk3:k=3:=by omega
    subst hk3
    simp only[k3,stRC,stRow,stG,jhD,jhR]
    refine V.r0 @jg8 ?_
    refine⟨Pq11z,[],V.pok,.go (jab ?_)⟩
    refine V.r0 jgN ?_
    exact⟨2,by omega,by omega,V.wk⟩
  ·simp only[k2]
   refine V.r0 @jg8 ?_
   refine jae (0) (fun k=>k≤3) (fun k=>3-k) (fun k=>[(18,.int .i64 k)]) (fun k=>[(7,.box (stRC (sb v1 v0) (sb v2 v0) (sb v3 v0) 2 k))]) ?_ ?_ ?_
   exact V.wk
   exact jg2 _
   intro k hk
   refine V.r0 @jg8 ?_
   refine V.br (fun hq2=>?_) (fun hq2=>?_)
   ·rw[decide_eq_true_eq] at hq2
    have hk3:k=0∨k=1∨k=2:=by omega
    rcases hk3 with e|e|e
    ·subst e
     simp only[k0,stRC,stRow,jhD,jhR]
     refine V.r0 @jg8 ?_
     refine⟨Pq3z,[],V.pok,.go (jab ?_)⟩
     refine V.r0 jgN ?_
     exact⟨1,by omega,by omega,V.wk⟩
    ·subst e
     simp only[k1,stRC,stRow,jhD,jhR]
     refine V.r0 @jg8 ?_
     refine⟨Pq3z,[],V.pok,.go (jab ?_)⟩
     refine V.r0 jgN ?_
     exact⟨2,by omega,by omega,V.wk⟩
    ·subst e
     simp only[k2,stRC,stRow,jhD,jhR]
     refine V.r0 @jg8 ?_
     refine⟨Pq3z,[],V.pok,.go (jab ?_)⟩
     refine V.r0 jgN ?_
     exact⟨3,by omega,by omega,V.wk⟩
   ·rw[decide_eq_false_iff_not] at hq2
    have hk3:k=3:=by omega
    subst hk3
    simp only[k3,stRC,stRow,stG,jhD,jhR]
    refine V.r0 @jg8 ?_
    refine⟨Pq11z,[],V.pok,.go (jab ?_)⟩
    refine V.r0 jgN ?_
    exact⟨3,by omega,by omega,V.wk⟩
 ·rw[decide_eq_false_iff_not] at hq
  have hk3:k=3:=by omega
  subst hk3
  simp only[k3,stRC,stRow,stG,jhD,jhR]
  refine V.r1 @jg8 hdW ?_
  refine V.br (fun hz=>?_) (fun hz=>?_)
  ·rw[decide_eq_true_eq] at hz
   obtain⟨rfl,rfl,rfl,rfl⟩:=hr (.inl hz)
   rw[if_pos (.inl hz)]
   refine V.r0 @jg8 ?_
   exact Fin.of rfl
  rw[decide_eq_false_iff_not] at hz
  refine V.r0 @jg8 ?_
  refine jaE [] [(11,.box [.int .i64 s])] (CondB.mk (fun hm=>?_) (fun hm=>?_)) ?_
  ·rw[decide_eq_true_eq] at hm
   have e:=hs.1 hm
   subst e
   (conv=>whnf)
   refine V.st ?_
   exact V.wk
  ·rw[decide_eq_false_iff_not] at hm
   have e:=hs.2 hm
   subst e
   (conv=>whnf)
   refine V.st ?_
   exact V.wk
  refine V.r0 @jg8 ?_
  refine jae (0) (fun k=>k≤3∧(1≤k→0≤s*wa)∧(2≤k→0≤s*wb)∧(3≤k→0≤s*wc)) (fun k=>3-k) (fun k=>[(64,.int .i64 k),(13,.int .i64 (stF (W*s) (s*wa) (s*wb) (s*wc) k))]) (fun k=>[(4,.arr .i64 (stG (s*wa) (s*wb) (s*wc) k))]) ?_ ?_ ?_
  ·exact V.wk
  ·omega
  intro k hk
  refine V.r0 @jg8 ?_
  refine V.br (fun hq2=>?_) (fun hq2=>?_)
  ·rw[decide_eq_true_eq] at hq2
   have hk3:k=0∨k=1∨k=2:=by omega
   rcases hk3 with e|e|e
   ·subst e
    simp only[k0,stF,stG]
    refine V.r0 @jg8 ?_
    refine .inl ?_
    (conv=>whnf)
    refine⟨0,_,_,⟨Tryz.func32,rfl,rfl,jg1 rfl⟩,?_⟩
    refine V.r0 jgN ?_
    refine⟨Pq53z,[],V.pok,.go (jab ?_)⟩
    refine V.r1 jgN hda ?_
    refine V.br (fun hq3=>?_) (fun hq3=>?_)
    ·rw[decide_eq_true_eq] at hq3
     obtain⟨rfl,rfl,rfl,rfl⟩:=hr (by omega)
     rw[if_pos (by omega)]
     refine V.r0 @jg8 ?_
     exact Fin.of rfl
    rw[decide_eq_false_iff_not] at hq3
    refine V.r0 @jg8 ?_
    exact⟨1,by omega,by omega,V.wk⟩
   ·subst e
    simp only[k1,stF,stG]
    refine V.r0 @jg8 ?_
    refine .inl ?_
    (conv=>whnf)
    refine⟨0,_,_,⟨Tryz.func32,rfl,rfl,jg1 rfl⟩,?_⟩
    refine V.r0 jgN ?_
    refine⟨Pq53z,[],V.pok,.go (jab ?_)⟩
    refine V.r1 jgN hdb ?_
    refine V.br (fun hq3=>?_) (fun hq3=>?_)
    ·rw[decide_eq_true_eq] at hq3
     obtain⟨rfl,rfl,rfl,rfl⟩:=hr (by omega)
     rw[if_pos (by omega)]
     refine V.r0 @jg8 ?_
     exact Fin.of rfl
    rw[decide_eq_false_iff_not] at hq3
    refine V.r0 @jg8 ?_
    exact⟨2,by omega,by omega,V.wk⟩
   ·subst e
    simp only[k2,stF,stG]
    refine V.r0 @jg8 ?_
    refine .inl ?_
    (conv=>whnf)
    refine⟨0,_,_,⟨Tryz.func32,rfl,rfl,jg1 rfl⟩,?_⟩
    refine V.r0 jgN ?_
    refine⟨Pq53z,[],V.pok,.go (jab ?_)⟩
    refine V.r1 jgN hdc ?_
    refine V.br (fun hq3=>?_) (fun hq3=>?_)
    ·rw[decide_eq_true_eq] at hq3
     obtain⟨rfl,rfl,rfl,rfl⟩:=hr (by omega)
     rw[if_pos (by omega)]
     refine V.r0 @jg8 ?_
     exact Fin.of rfl
    rw[decide_eq_false_iff_not] at hq3
    refine V.r0 @jg8 ?_
    exact⟨3,by omega,by omega,V.wk⟩
  ·rw[decide_eq_false_iff_not] at hq2
   have hk3:k=3:=by omega
   subst hk3
   simp only[k3,stF,stG]
   obtain⟨rfl,rfl,rfl,rfl⟩:=hd (by omega)
   refine V.r0 @jg8 ?_
   refine Fin.of ?_
   by_cases hf:W*s-s*wa-s*wb-s*wc<0
   ·rw[if_pos (by omega)]
    simp;omega
   ·rw[if_neg (by omega)]
    simp;omega
end Go.Proofs.YtbhpaandigaanaaGreatDoor
end
section
namespace Go.Nb
open Go
def val (B:Nat):List Int→Int
 | []=>0
 | x::r=>x+B*val B r
def Dg (B:Nat)(l:List Int):Prop := ∀ x∈l,0≤x∧x<B
def mgF (B:Nat):Nat→Nat→List Int
 | 0,_=>[]
 | f+1,n=>if n=0 then [] else ((n%B:Nat):Int)::mgF B f (n/B)
def mg (B n:Nat):List Int:=mgF B n n
theorem mgF_le {B : Nat} (hB : 2 ≤ B) : ∀ (f n : Nat), n ≤ f → mgF B f n = mgF B n n := by
  have key : ∀ (f g n : Nat), n ≤ f → n ≤ g → mgF B f n = mgF B g n := by
    intro f
    induction f with
    | zero => intro g n h1 h2; obtain rfl : n = 0 := by omega
              cases g <;> simp [mgF]
    | succ f ih =>
      intro g n h1 h2
      cases g with
      | zero => obtain rfl : n = 0 := by omega
                simp [mgF]
      | succ g =>
        simp only [mgF]
        by_cases h0 : n = 0
        · simp [h0]
        · rw [if_neg h0, if_neg h0]
          have : n / B < n := Nat.div_lt_self (by omega) (by omega)
          rw [ih g (n / B) (by omega) (by omega)]
  exact fun f n h => key f n n h (jhb _)
theorem jb3 (B:Nat):mg B 0=[]:=rfl
theorem jbQ {B n:Nat}(hB:2≤B)(hn:0<n):mg B n=((n%B:Nat):Int)::mg B (n/B):=by
 obtain⟨m,rfl⟩:∃ m,n=m+1:=⟨n-1,by omega⟩
 have:(m+1)/B<m+1:=Nat.div_lt_self (by omega) (by omega)
 conv=>lhs;unfold mg mgF
 rw[if_neg (by omega),mgF_le hB m _ (by omega)]
 rfl
theorem mg_ind {B:Nat}(hB:2≤B){p:Nat→Prop}(h0:p 0)(h1:∀ n,0<n→p (n/B)→p n)(n:Nat):p n:=by
 induction n using Nat.strongRecOn with
 | _ n ih=>
  by_cases hn:n=0
  ·rw[hn];exact h0
  ·exact h1 n (by omega) (ih _ (Nat.div_lt_self (by omega) (by omega)))
theorem mg_dg {B:Nat}(hB:2≤B)(n:Nat):Dg B (mg B n):=by
 refine mg_ind hB (p:=fun n=>Dg B (mg B n)) (by intro x hx;simp[jb3] at hx) (fun n hn ih x hx=>?_) n
 rw[jbQ hB hn] at hx
 rcases jhH.1 hx with rfl|hx
 ·have:=Nat.mod_lt n (by omega:B>0)
  omega
 ·exact ih x hx
theorem jax {B:Nat}(hB:2≤B)(n:Nat):val B (mg B n)=n:=by
 refine mg_ind hB (p:=fun n=>val B (mg B n)=n) rfl (fun n hn ih=>?_) n
 rw[jbQ hB hn]
 simp only[val,ih]
 have:=Nat.mod_add_div n B
 rw[← jho]
 omega
theorem jbR {B n:Nat}(hB:2≤B):mg B n=[]↔n=0:=by
 constructor
 ·intro h
  have:=jax hB n
  rw[h] at this
  simp[val] at this
  omega
 ·intro h;rw[h];rfl
theorem jal {B:Nat}{l:List Int}(h:Dg B l):0≤val B l:=by
 induction l with
 | nil=>simp[val]
 | cons x r ih=>
  have h1:=h x (by simp)
  have h2:=ih fun y hy=>h y (by simp[hy])
  have h3:0≤(B:Int)*val B r:=jg4 (by omega) h2
  simp only[val]
  omega
theorem jbo (B:Nat)(l r:List Int):val B (l++r)=val B l+(B:Int)^l.length*val B r:=by
 induction l with
 | nil=>simp[val]
 | cons x l ih=>
  simp only[jhD,val,jhS,ih,Int.pow_succ]
  rw[jhs,← Int.add_assoc,jhm ((B:Int)^l.length) (B:Int),jhn]
theorem jbL {B:Nat}{l:List Int}(h:Dg B l):val B l<(B:Int)^l.length:=by
 induction l with
 | nil=>simp[val]
 | cons x r ih=>
  have h1:=h x (by simp)
  have h2:=ih fun y hy=>h y (by simp[hy])
  simp only[val,jhS,Int.pow_succ]
  have h3:(B:Int)*(val B r+1)≤(B:Int)*(B:Int)^r.length:=jhl h2 (by omega)
  rw[jhs,Int.mul_one] at h3
  rw[jhm ((B:Int)^r.length)]
  omega
theorem jag {B:Nat}{l r:List Int}(h1:Dg B l)(h2:Dg B r):Dg B (l++r):=fun x hx=>by
 rcases List.mem_append.1 hx with h|h
 ·exact h1 x h
 ·exact h2 x h
theorem ja8 {B:Nat}{l:List Int}(h:Dg B l)(k:Nat):Dg B (l.take k):=fun x hx=>h x (jhQ hx)
theorem jbf {B:Nat}{l:List Int}(h:Dg B l)(k:Nat):Dg B (l.drop k):=fun x hx=>h x (jhP hx)
theorem jap {B:Nat}{x:Int}(h:0≤x∧x<B):Dg B [x]:=fun y hy=>by simp at hy;subst hy;exact h
theorem jbG {B:Nat}(hB:1≤B)(k:Nat):Dg B (List.replicate k 0):=fun y hy=>by
 rw[List.eq_of_mem_replicate hy];omega
theorem jdI (B k:Nat):val B (List.replicate k 0)=0:=by
 induction k with
 | zero=>rfl
 | succ k ih=>simp[List.replicate_succ,val,ih]
theorem jaN (B:Nat)(l:List Int)(x:Int):val B (l++[x])=val B l+(B:Int)^l.length*x:=by
 rw[jbo];simp[val]
theorem jcI {B:Nat}{l:List Int}{k:Nat}{x:Int}(h:l[k]? = some x):val B (l.take (k+1))=val B (l.take k)+(B:Int)^k*x:=by
 have hk:=(jhO.1 h).1
 rw[List.take_add_one,h]
 have:(l.take k).length=k:=by rw[jhL];omega
 rw[show (some x).toList=[x] from rfl,jaN,this]
theorem jbs (B:Nat)(l:List Int)(k:Nat)(hk:k≤l.length):val B l=val B (l.take k)+(B:Int)^k*val B (l.drop k):=by
 conv=>lhs;rw[← List.take_append_drop k l]
 rw[jbo,jhL,Nat.min_eq_left hk]
theorem mg_of {B:Nat}(hB:2≤B):∀ {l:List Int},Dg B l→(∀ x,l.getLast? = some x→x≠0)→l=mg B (val B l).toNat
 | [],_,_=>rfl
 | x::r,hd,hl=>by
  have hx:=hd x (by simp)
  have hr:Dg B r:=fun y hy=>hd y (by simp[hy])
  have h0:=jal hr
  have hlr:∀ y,r.getLast? = some y→y≠0:=fun y hy=>hl y (by
   cases r with
   | nil=>simp at hy
   | cons a s=>rw[List.getLast?_cons_cons];exact hy)
  have ih:=mg_of hB hr hlr
  have hpos:0<val B (x::r):=by
   simp only[val]
   cases r with
   | nil=>
    have:=hl x (by simp)
    simp[val]
    omega
   | cons a s=>
    have hne:(val B (a::s)).toNat≠0:=fun e=>by
     rw[e,jb3] at ih
     cases ih
    have h1:1≤val B (a::s):=by omega
    have h2:(B:Int)*1≤(B:Int)*val B (a::s):=jhl h1 (by omega)
    omega
  rw[jbQ hB (by omega)]
  obtain⟨v,hv⟩:∃ v:Nat,val B r=v:=⟨(val B r).toNat,by omega⟩
  obtain⟨y,rfl⟩:∃ y:Nat,x=y:=⟨x.toNat,by omega⟩
  have e:(val B ((y:Int)::r)).toNat=y+B*v:=by
   simp only[val,hv]
   rw[← jho,← Int.natCast_add,jha]
  have hy:y<B:=by omega
  rw[e,Nat.add_mul_mod_self_left,Nat.mod_eq_of_lt hy,Nat.add_mul_div_left _ _ (by omega:0<B),Nat.div_eq_of_lt hy,jg8]
  rw[hv,jha] at ih
  rw[← ih]
theorem jda {B n:Nat}(hB:2≤B):∀ x,(mg B n).getLast? = some x→x≠0:=by
 refine mg_ind hB (p:=fun n => ∀ x,(mg B n).getLast? = some x→x≠0) (fun x h=>by simp[jb3] at h) (fun n hn ih x h=>?_) n
 rw[jbQ hB hn] at h
 by_cases hd:n/B=0
 ·rw[hd,jb3] at h
  simp at h
  have:=Nat.mod_add_div n B
  rw[hd] at this
  omega
 ·rw[jbQ hB (Nat.pos_of_ne_zero hd),List.getLast?_cons_cons] at h
  rw[jbQ hB (Nat.pos_of_ne_zero hd)] at ih
  exact ih x h
theorem jau {B n k : Nat} (hB : 2 ≤ B) (h : n < B ^ k) : (mg B n).length ≤ k := by
  induction k generalizing n with
  | zero => obtain rfl : n = 0 := by simp at h; omega
            simp [jb3]
  | succ k ih =>
    by_cases hn : n = 0
    · rw [hn, jb3]; simp
    · rw [jbQ hB (by omega), jhS]
      have : n / B < B ^ k := Nat.div_lt_of_lt_mul (by rw [Nat.pow_succ, jhf] at h; exact h)
      have := ih this
      omega
theorem jaA {B n:Nat}(hB:2≤B):n<B^(mg B n).length:=by
 have h1:=jbL (mg_dg hB n)
 rw[jax hB] at h1
 have e:((B:Int)^(mg B n).length)=((B^(mg B n).length:Nat):Int):=by simp
 rw[e] at h1
 omega
theorem jaf {B m n:Nat}(hB:2≤B)(h:m≤n):(mg B m).length≤(mg B n).length:=
 jau hB (Nat.lt_of_le_of_lt h (jaA hB))
theorem jce {B n:Nat}(hB:2≤B)(hn:0<n):B^((mg B n).length-1)≤n:=by
 rcases jhi n (B^((mg B n).length-1)) with h|h
 ·have h1:=jau hB h
  have h2:(mg B n)≠[]:=fun e=>by rw[jbR hB] at e;omega
  have:=List.length_pos_iff.2 h2
  omega
 ·exact h
def decF:Nat→Nat→List UInt8
 | 0,_=>[]
 | f+1,n=>if n<10 then [UInt8.ofNat (48+n)] else decF f (n/10)++[UInt8.ofNat (48+n%10)]
def dec (n:Nat):List UInt8:=decF (n+1) n
theorem decF_le:∀ (f g n:Nat),n<f→n<g→decF f n=decF g n:=by
 intro f
 induction f with
 | zero=>intro g n h1;omega
 | succ f ih=>
  intro g n h1 h2
  cases g with
  | zero=>omega
  | succ g=>
   simp only[decF]
   by_cases h0:n<10
   ·simp[h0]
   ·rw[if_neg h0,if_neg h0,ih g (n/10) (by omega) (by omega)]
theorem jbV {n:Nat}(h:n<10):dec n=[UInt8.ofNat (48+n)]:=by simp[dec,decF,h]
theorem jcF {n:Nat}(h:10≤n):dec n=dec (n/10)++[UInt8.ofNat (48+n%10)]:=by
 conv=>lhs;unfold dec decF
 rw[if_neg (by omega),decF_le n (n/10+1) (n/10) (by omega) (by omega)]
 rfl
def decZ (z:Int):List UInt8:=if z<0 then 45::dec z.natAbs else dec z.natAbs
def pad:Nat→Nat→List UInt8
 | 0,_=>[]
 | k+1,n=>pad k (n/10)++[UInt8.ofNat (48+n%10)]
theorem jc8 (k n:Nat):(pad k n).length=k:=by
 induction k generalizing n with
 | zero=>rfl
 | succ k ih=>simp[pad,ih]
theorem jgz {a:Nat}(ha:0<a):∀ (k b:Nat),b<10^k→dec (a*10^k+b)=dec a++pad k b
 | 0,b,h=>by
  obtain rfl:b=0:=by simp at h;omega
  simp[pad]
 | k+1,b,h=>by
  have hb:b/10<10^k:=Nat.div_lt_of_lt_mul (by rw[Nat.pow_succ,jhf] at h;exact h)
  have e:a*10^(k+1)+b=(a*10^k)*10+b:=by rw[Nat.pow_succ,Nat.mul_assoc]
  have hp:1≤a*10^k:=Nat.mul_pos ha (Nat.pow_pos (by omega))
  have e1:(a*10^(k+1)+b)/10=a*10^k+b/10:=by omega
  have e2:(a*10^(k+1)+b)%10=b%10:=by omega
  rw[jcF (by omega),e1,e2,jgz ha k _ hb,jhM]
  rfl
theorem jbv:∀ (k b:Nat),0<k→b<10^k→(dec b).length≤k∧pad k b=List.replicate (k-(dec b).length) 48++dec b
 | 0,b,h,_=>by omega
 | k+1,b,_,h=>by
  by_cases hb:b<10
  ·rw[jbV hb]
   simp only[List.length_singleton,pad]
   refine⟨by omega,?_⟩
   have e0:b/10=0:=by omega
   have e1:b%10=b:=by omega
   have hz:∀ j,pad j 0=List.replicate j 48:=by
    intro j
    induction j with
    | zero=>rfl
    | succ j ih=>rw[pad,Nat.zero_div,ih,List.replicate_succ'];rfl
   rw[e0,e1,hz]
   rfl
  ·have h10:b/10<10^k:=Nat.div_lt_of_lt_mul (by rw[Nat.pow_succ,jhf] at h;exact h)
   have hk:0<k:=by
    rcases jhe k with e|e
    ·subst e;simp at h10;omega
    ·exact e
   obtain⟨h1,h2⟩:=jbv k (b/10) hk h10
   rw[jcF (by omega),jhK,List.length_singleton]
   refine⟨by omega,?_⟩
   rw[pad,h2,jhM]
   congr 2
   omega
def rdv (s:List UInt8):Nat:=s.foldl (fun v c=>v*10+(c.toNat-48)) 0
def isDig (c:UInt8):Bool:=decide (48≤c.toNat∧c.toNat≤57)
theorem rdv_foldl (s:List UInt8)(v:Nat):s.foldl (fun v c=>v*10+(c.toNat-48)) v=v*10^s.length+rdv s:=by
 induction s generalizing v with
 | nil=>simp[rdv]
 | cons c s ih=>
  simp only[List.foldl_cons,rdv,jhS]
  rw[ih,ih (0*10+(c.toNat-48)),Nat.pow_succ,jg7,Nat.zero_mul,jg8,Nat.mul_assoc,jhf 10]
  omega
theorem ja2 (s t:List UInt8):rdv (s++t)=rdv s*10^t.length+rdv t:=by
 conv=>lhs;unfold rdv
 rw[List.foldl_append,rdv_foldl]
 rfl
theorem jc7 (c:UInt8):rdv [c]=c.toNat-48:=by simp[rdv]
theorem jci {n:Nat}(h:n<10):(UInt8.ofNat (48+n)).toNat=48+n:=by
 rw[UInt8.toNat_ofNat']
 omega
theorem rdv_dec (n:Nat):rdv (dec n)=n:=by
 induction n using Nat.strongRecOn with
 | _ n ih=>
  by_cases h:n<10
  ·rw[jbV h,jc7,jci h];omega
  ·rw[jcF (by omega),ja2,jc7,jci (by omega),ih _ (by omega)]
   simp
   omega
theorem dec_dig (n:Nat):∀ c∈dec n,isDig c=true:=by
 induction n using Nat.strongRecOn with
 | _ n ih=>
  intro c hc
  by_cases h:n<10
  ·rw[jbV h] at hc
   simp at hc
   subst hc
   simp[isDig,jci h]
   omega
  ·rw[jcF (by omega)] at hc
   rcases List.mem_append.1 hc with hc|hc
   ·exact ih _ (by omega) c hc
   ·simp at hc
    subst hc
    have:=jci (n:=n%10) (by omega)
    simp[isDig,this]
    omega
theorem jaV (n:Nat):0<(dec n).length:=by
 by_cases h:n<10
 ·rw[jbV h];simp
 ·rw[jcF (by omega)];simp
theorem jeB {s:List UInt8}(h:∀ c∈s,isDig c=true):rdv s<10^s.length:=by
 induction s with
 | nil=>simp[rdv]
 | cons c s ih=>
  have h1:=h c (by simp)
  have h2:=ih fun x hx=>h x (by simp[hx])
  simp[isDig] at h1
  have e:rdv (c::s)=(c.toNat-48)*10^s.length+rdv s:=by
   have:=ja2 [c] s
   rw[jc7] at this
   exact this
  rw[e,jhS,Nat.pow_succ]
  have h3:(c.toNat-48)*10^s.length≤9*10^s.length:=jhd _ (by omega)
  omega
end Go.Nb
end
section
namespace Go.Proofs.YtbhpaandigaanaaGreatDoor
open Go Go.V Go.Nb
theorem ja9 {P:Program}{f:Nat}{fn:Func}{c:Code}{ds:List D}{r:D}(hf:P.funcs[f]? = some fn)(hn:(fn.name == "runtime.NumGoroutine")=false)(hb:fn.body=some c)(hr:r.pure=true)
  (h:∀ (w:World) (hp:Pub) (vs:List Value),Agree hp w→DenL Env.dummy hp ds vs→Calls P f vs.toArray w fun e w'=>(∃ v,e = .returned v ∧ ∀ hp,Den Env.dummy hp r v)∧RowKit.Below w.heap.size w w'):Called P f ds r:=
 ⟨jd8 hf hn hb,fun hp w vs ha hd=>(h w hp vs ha hd).mono fun e w' ⟨⟨v,e1,e2⟩,e3⟩=>⟨v,hp,e1,e2 hp,ha.of_blocks fun b ⟨o,v,hv⟩=>e3.block b (ha.lt hv),Pub.Le.refl _,e3,fun _ _ _=>rfl⟩⟩
theorem jc1 (n:Nat):Go.Lib.decDigits n=dec n:=by
 induction n using Nat.strongRecOn with
 | _ n ih=>
  rw[Go.Lib.decDigits]
  by_cases h:n<10
  ·rw[dif_pos h,jbV h]
  ·rw[dif_neg h,jcF (by omega),ih (n/10) (by omega)]
theorem itoa_decZ (n:Int):Go.Lib.itoa n=decZ n:=by
 unfold Go.Lib.itoa decZ
 split
 ·rw[jc1]
 ·rw[jc1]
  congr 1
  omega
theorem jeg (n:Nat)(k:Nat)(h:n<10^k)(hk:0<k):(dec n).length≤k:=(jbv k n hk h).1
theorem itoa_c (n:Int):Cl 86 [.int .i64 n] (.str (decZ n)):=by
 refine ja9 Tryz.func86 rfl rfl rfl fun w hp vs ha hd=>?_
 simp only[DenL,Den] at hd
 obtain⟨v,_,rfl,⟨rfl,h1⟩,rfl⟩:=hd
 have ht:Go.Lib.TabIs Tryz.prog w "internal/strconv.uint64pow10" .u64 Go.Lib.pow10Tab:=by
  obtain⟨_,T,f,h2⟩:=ha.blk.1 3 _ (by unfold glb;first|exact List.mem_cons_of_mem _ (List.mem_cons_self ..)|exact List.mem_cons_self ..)
  unfold Go.Lib.TabIs World.var?
  rw[show Tryz.prog.globalNamed "internal/strconv.uint64pow10" = some 3 by kernel_rfl]
  simp only[Option.bind_some,h2]
  rfl
 obtain⟨h3,h4⟩:=h1
 refine(Tryz.strconv_Itoa n h3 h4 w ht).mono fun e w' ⟨he,k,os,hw⟩=>⟨⟨_,he,fun hp=>?_⟩,?_⟩
 ·rw[itoa_decZ]
  simp only[Den]
  refine⟨trivial,?_⟩
  simp only[V.lo,V.hi] at h3 h4
  have hl:=jeg n.natAbs 20 (by omega) (by omega)
  unfold decZ
  split
  ·rw[jhS];omega
  ·omega
 ·rw[hw]
  exact Go.Lib.below_grow _ _ (jhb _) _ _
theorem jeh (s p:List UInt8):Cl 113 [.str s,.str p] (.tup [.str (Go.Lib.trimPrefix s p),.bool (Go.Lib.hasPrefix s p)]):=by
 refine ja9 Tryz.func113 rfl rfl rfl fun w hp vs ha hd=>?_
 simp only[DenL,Den] at hd
 obtain⟨v,_,rfl,⟨rfl,h1⟩,v2,_,rfl,⟨rfl,h2⟩,rfl⟩:=hd
 refine(Tryz.strings_CutPrefix ⟨s.toArray⟩ ⟨p.toArray⟩ w).mono fun e w' ⟨he,hw⟩=>⟨⟨_,he,fun hp=>?_⟩,?_⟩
 ·simp only[Den,DenL]
  refine⟨_,rfl,_,_,rfl,⟨rfl,?_⟩,_,_,rfl,rfl,rfl⟩
  unfold Go.Lib.trimPrefix
  split
  ·rw[jhV];omega
  ·exact h1
 ·rw[hw];exact RowKit.Below.refl _ _
theorem jbX {B:Nat}{xs:List Int}{k:Nat}(h:xs[k]? = some 0):val B (xs.take (k+1))=val B (xs.take k):=by
 rw[jcI h];simp
theorem jfX {B:Nat}(hB:2≤B){xs:List Int}{k:Nat}(hd:Dg B xs)(hv:val B (xs.take k)=val B xs)(hk:k≤xs.length)(h:k=0 ∨ ∃ x,xs[k-1]? = some x∧x≠0):xs.take k=mg B (val B xs).toNat:=by
 rw[← hv]
 refine mg_of hB (ja8 hd k) fun y hy=>?_
 rcases h with rfl|⟨x,h1,h2⟩
 ·simp at hy
 ·have hk0:0<k:=by
   rcases jhe k with e|e
   ·subst e;simp at hy
   ·exact e
  have hlen:(xs.take k).length=k:=by rw[jhL];omega
  rw[List.getLast?_eq_getElem?,hlen,List.getElem?_take_of_lt (by omega),h1] at hy
  cases hy
  exact h2
theorem cut_c (xs:List Int)(hd:Dg 10000 xs)(hl:xs.length≤281474976710656):Cl 105 [.ints .i64 xs] (.ints .i64 (mg 10000 (val 10000 xs).toNat)):=by
 refine V.en tbOk Tryz.func105 ?_
 (conv=>whnf)
 refine V.st ?_
 refine jae (xs.length) (fun k=>k≤xs.length∧val 10000 (xs.take k)=val 10000 xs) (fun k=>k) (fun k=>[(3,.int .i64 k)]) (fun k=>[]) ?_ ?_ ?_
 ·exact V.wk
 ·exact⟨jhb _,by rw[jhZ]⟩
 intro k hk
 (conv=>whnf)
 refine V.st ?_
 refine V.br (fun hq=>?_) (fun hq=>?_)
 ·rw[jg0,decide_eq_true_eq,decide_eq_true_eq] at hq
  have hk0:0<k:=by omega
  obtain⟨j,rfl⟩:∃ j,k=j+1:=⟨k-1,by omega⟩
  obtain⟨x,hx,ex⟩:=getxn (xs:=xs) (k:=j) (by omega)
  have e1:((((j+1:Nat):Int)-1).toNat)=j:=by omega
  have e2:(((j+1:Nat):Int)-1)=(j:Int):=by omega
  rw[e1,ex] at hq
  rw[hq.2] at hx
  refine V.r0 e2 ?_
  exact⟨j,⟨by omega,by rw[← hk.2,jbX hx]⟩,by omega,V.wk⟩
 ·have h3:k=0 ∨ ∃ x,xs[k-1]? = some x∧x≠0:=by
   rcases jhe k with e|e
   ·exact .inl e
   ·refine .inr ?_
    obtain⟨x,hx,ex⟩:=getxn (xs:=xs) (k:=(k-1)) (by omega)
    refine⟨x,hx,fun e0=>?_⟩
    have e1:(((k:Nat):Int)-1).toNat=k-1:=by omega
    rw[e1,ex,e0] at hq
    simp at hq
    omega
  refine V.r0 @jha ?_
  exact Fin.of (by rw[jfX (by omega) hd hk.2 hk.1 h3])
theorem jeu (xs:List Int)(hd:Dg 1000000000 xs)(hl:xs.length≤281474976710656):Cl 134 [.ints .u32 xs] (.ints .u32 (mg 1000000000 (val 1000000000 xs).toNat)):=by
 refine V.en tbOk Tryz.func134 ?_
 (conv=>whnf)
 refine V.st ?_
 refine jae (xs.length) (fun k=>k≤xs.length∧val 1000000000 (xs.take k)=val 1000000000 xs) (fun k=>k) (fun k=>[(0,.ints .u32 (xs.take k))]) (fun k=>[]) ?_ ?_ ?_
 ·rw[jhZ]
  exact V.wk
 ·exact⟨jhb _,by rw[jhZ]⟩
 intro k hk
 have hlt:(xs.take k).length=k:=by rw[jhL];omega
 refine V.r0 hlt ?_
 refine V.br (fun hq=>?_) (fun hq=>?_)
 ·rw[jg0,decide_eq_true_eq,decide_eq_true_eq] at hq
  have hk0:0<k:=by omega
  obtain⟨j,rfl⟩:∃ j,k=j+1:=⟨k-1,by omega⟩
  obtain⟨x,hx,ex⟩:=getxn (xs:=xs) (k:=j) (by omega)
  have e1:((((j+1:Nat):Int)-1).toNat)=j:=by omega
  have e2:(((j+1:Nat):Int)-1)=(j:Int):=by omega
  have e3:(xs.take (j+1)).getD j 0=x:=by
   rw[jhF,List.getElem?_take_of_lt (by omega),hx];rfl
  have e4:(xs.take (j+1)).take j=xs.take j:=by rw[List.take_take,Nat.min_eq_left (by omega)]
  rw[e1,e3] at hq
  rw[hq.2] at hx
  refine V.r0 (V.a4 e2 hlt @jha e4) ?_
  exact⟨j,⟨by omega,by rw[← hk.2,jbX hx]⟩,by omega,V.wk⟩
 ·have h3:k=0 ∨ ∃ x,xs[k-1]? = some x∧x≠0:=by
   rcases jhe k with e|e
   ·exact .inl e
   ·refine .inr ?_
    obtain⟨x,hx,ex⟩:=getxn (xs:=xs) (k:=(k-1)) (by omega)
    refine⟨x,hx,fun e0=>?_⟩
    have e1:(((k:Nat):Int)-1).toNat=k-1:=by omega
    have e3:(xs.take k).getD (k-1) 0=x:=by
     rw[jhF,List.getElem?_take_of_lt (by omega),hx];rfl
    rw[e1,e3,e0] at hq
    simp at hq
    omega
  (conv=>whnf)
  refine V.st ?_
  exact Fin.of (by rw[jfX (by omega) hd hk.2 hk.1 h3])
def plD (z:Int):D := .agg [.bool (decide (z<0)),.ints .i64 (mg 10000 z.natAbs)]
theorem jdV (b:Bool)(xs:List Int)(hd:Dg 10000 xs)(hl:xs.length≤281474976710656):Cl 74 [.bool b,.ints .i64 xs] (plD (if b then -(val 10000 xs) else val 10000 xs)):=by
 have hc:=cut_c xs hd hl
 have h0:=jal hd
 obtain⟨n,hn⟩:∃ n:Nat,val 10000 xs=n:=⟨(val 10000 xs).toNat,by omega⟩
 have hlen:((0:Int)<((mg 10000 n).length:Int))↔0<n:=by
  have:=jbR (B:=10000) (n:=n) (by omega)
  rcases jhe n with e|e
  ·rw[e];simp[jb3]
  ·have h1:mg 10000 n≠[]:=fun h=>by have:=this.1 h;omega
   have:=List.length_pos_iff.2 h1
   constructor<;>intro<;>omega
 rw[hn] at hc ⊢
 rw[jha] at hc
 refine V.en tbOk Tryz.func74 ?_
 (conv=>whnf)
 refine V.st ?_
 repeat ((try ((with_reducible refine .ext ?_);(conv=>whnf)));(with_reducible refine jaa (r:=?_) ?_ ?_);rotate_left;(focus (first|exact(hc)));(conv=>whnf);refine V.st ?_)
 refine Fin.of ?_
 cases b with
 | false=>
  have e1:decide ((n:Int)<0)=false:=by simp
  simp[plD,e1]
 | true=>
  have e1:decide (-(n:Int)<0)=decide (((mg 10000 n).length:Int)>0):=by
   apply decide_eq_decide.2
   constructor
   ·intro h;exact hlen.2 (by omega)
   ·intro h;have:=hlen.1 h;omega
  simp[plD]
  omega
end Go.Proofs.YtbhpaandigaanaaGreatDoor
end
