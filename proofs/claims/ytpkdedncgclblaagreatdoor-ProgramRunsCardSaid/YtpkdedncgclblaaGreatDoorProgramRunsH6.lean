/- Laws of a small interpreter over plain values, part 6. No condition. -/
import Derived.Test.YtpkdedncgclblaaGreatDoorProgramRunsH5
import Derived.RecoverIn
import Derived.KernelRfl
import Derived.Test.YtpkdedncgclblaaGreatDoorProgramRunsH4
import Derived.Carry
import Derived.OpenShut
import Derived.SizedLaws
import Derived.ChangeSlices
import Derived.JoinedOf
set_option linter.unusedSimpArgs false
set_option linter.unusedVariables false
set_option maxHeartbeats 8000000
set_option maxRecDepth 100000
section
namespace Go.V
open Go Go.RowKit
section
variable {P : Program} {tb : Tb} {inl : Inl} {L : Sl} {H : Hp}
theorem jfE (htb:TbOk P tb){fn:Func}{K:D→Prop}(hh:resK tb L H fn.results.toList fun ds=>oneK ds K) :
  ∃ d,K d ∧ ∀ cx E h a w,Sat cx E h a w L H → ∃ v,Den E h d v∧(results fn a.tmps).run P w = .ok v w:=by
 obtain⟨rs,hres,hl,hrun⟩:=jf5 htb hh
 have key:∀ cx E h (a:Act) w,Sat cx E h a w L H → ∃ us,DenL E h rs us∧(results fn a.tmps).run P w = .ok (if h:us.toArray.size=1 then us.toArray[0] else Value.tuple us.toArray) w:=by
  intro cx E h a w S
  obtain⟨us,h1,h2⟩:=hrun cx E h a w S
  have hmap:(fn.results.mapM fun | .tmp t=>pure (a.tmps.getD t Go.undef) | .cell x t=>do loadVar t (← asAddr (a.tmps.getD x Go.undef)):Sem (Array Value)).run P w = .ok us.toArray w:=by
   rw[Array.mapM_eq_mapM_toList,Sem.run_map]
   erw [h2];rfl
  refine⟨us,h1,?_⟩
  have e:(results fn a.tmps).run P w=((fn.results.mapM fun | .tmp t=>pure (a.tmps.getD t Go.undef) | .cell x t=>do loadVar t (← asAddr (a.tmps.getD x Go.undef)):Sem (Array Value)).run P w).andThen
    (fun vs w => .ok (if h:vs.size=1 then vs[0] else Value.tuple vs) w):=by
   unfold results;rw[Sem.run_bind];rfl
  rw[e,hmap];rfl
 cases rs with
 | nil=>
  refine⟨_,hres,fun cx E h a w S=>?_⟩
  obtain⟨us,h1,h2⟩:=key cx E h a w S
  simp only[DenL] at h1;subst h1
  exact⟨.tuple #[],by simp only[Den];exact⟨[],rfl,by simp[DenL]⟩,by rw[h2];simp⟩
 | cons d rs'=>
  cases rs' with
  | nil=>
   refine⟨_,hres,fun cx E h a w S=>?_⟩
   obtain⟨us,h1,h2⟩:=key cx E h a w S
   simp only[DenL] at h1
   obtain⟨v,_,rfl,hv,rfl⟩:=h1
   exact⟨v,hv,by rw[h2];simp⟩
  | cons d2 rs2=>
   refine⟨_,hres,fun cx E h a w S=>?_⟩
   obtain⟨us,h1,h2⟩:=key cx E h a w S
   have hul:=h1.length
   refine⟨.tuple us.toArray,by simp only[Den];exact⟨us,rfl,h1⟩,?_⟩
   rw[h2]
   simp only[jji] at hul
   simp;omega
theorem jd1 {fn : Func} {tmps : Array Value} {R : Ending → World → Prop} {cx : Cx} {E : Env} {h : Pub} {u : FrameMode} {tail : List Deferred} (hu : u ≠ .run) (fin : ∀ w, MS cx E h w H → LeavesInM (FR none) 0 P fn tmps R tail u w) :
    ∀ (ms : List Nat) (w : World), ms.Nodup → (∀ b ∈ ms, cx.w0.heap.size ≤ b ∧ cx.objs b = none ∧ w.heap[b]? = some (.deferred (some []))) → MS cx E h w H →
      LeavesInM (FR none) 0 P fn tmps R ((ms.map fun b => ({ target := .collected b, args := #[] } : Deferred)) ++ tail) u w
  | [], w, _, _, M => fin w M
  | b :: ms, w, hnd, hms, M => by
    simp only [List.map_cons, ji1, LeavesInM]
    obtain ⟨h1, h2, h3⟩ := hms b (by simp)
    rw [List.nodup_cons] at hnd
    refine ⟨hu, .inl ⟨b, _, rfl, run_takeDeferred h3, ?_⟩⟩
    refine jd1 hu fin ms _ hnd.2 (fun q hq => ?_) ?_
    · obtain ⟨k1, k2, k3⟩ := hms q (by simp [hq])
      exact ⟨k1, k2, by rw [World.putObj_heap_other (show q ≠ b from fun e => hnd.1 (by rw [← e]; exact hq))]; exact k3⟩
    · exact M.putObj (o' := .deferred none) (objs := cx.objs) h3 rfl h1 (fun q o hq => .inl ⟨fun e => (by subst e; rw [h2] at hq; cases hq), hq⟩) (fun j p hj hrj e => by
        obtain ⟨_, r, _, g⟩ := M.mem.ok j _ hj
        rw [e, h3] at g; cases g)
theorem MS.up {cx cx':Cx}{E:Env}{h:Pub}{w:World}(M:MS cx' E h w H)(hl:Later cx cx'):MS cx E h w H:=by
 refine⟨hl.w0▸M.mem,M.agree,⟨hl.w0▸M.since.below,hl.le.trans M.since.le,fun b hb o=>(M.since.old b (by rw[hl.w0];exact hb) o).trans (hl.old b hb o)⟩,fun j hj=>(hl.env j hj).trans (M.low j (jiH hj hl.off)),fun b o ho=>?_⟩
 have:=M.objs b o (hl.objs b o ho)
 rw[hl.w0] at this;exact this
theorem MS.two {cx:Cx}{E:Env}{h:Pub}{w w':World}(M:MS cx E h w H){i j:Nat}{ci cj ci' cj':Chunk}(hij:i≠j)(hi:lookH H i=some ci)(hj:lookH H j=some cj)(li:ci.cel=true)(lj:cj.cel=true)(ri:E.real i=true)(rj:E.real j=true)
  (hsz:Below (min (E.blk i) (E.blk j)) w w') (hk:∀ k,k<w.heap.size→k≠E.blk i→k≠E.blk j→w'.heap[k]? = w.heap[k]?) (oi:ChunkOk E h w' i ci') (oj:ChunkOk E h w' j cj'):MS cx E h w' ((i,ci')::(j,cj')::H):=by
 have hBi:=M.mem.base i _ hi (Chunk.live_of_cel li) ri
 have hBj:=M.mem.base j _ hj (Chunk.live_of_cel lj) rj
 obtain⟨csi,Ti,fi,hci⟩:=(M.mem.ok i _ hi).cells li ri
 obtain⟨csj,Tj,fj,hcj⟩:=(M.mem.ok j _ hj).cells lj rj
 have live:∀ k c,lookH ((i,ci')::(j,cj')::H) k=some c→c.live=true → ∃ c0,lookH H k=some c0∧c0.live=true:=fun k c hc hlv=>by
  rw[jad] at hc
  split at hc
  ·rename_i e;subst e;exact⟨_,hi,Chunk.live_of_cel li⟩
  ·rw[jad] at hc
   split at hc
   ·rename_i e;subst e;exact⟨_,hj,Chunk.live_of_cel lj⟩
   ·exact⟨c,hc,hlv⟩
 refine⟨⟨?_,?_,?_,?_⟩,?_,?_,M.low,fun b q hq=>?_⟩
 ·intro k c hc
  rw[jad] at hc
  split at hc
  ·rename_i e;subst e;cases hc;exact oi
  ·rename_i n1
   rw[jad] at hc
   split at hc
   ·rename_i e;subst e;cases hc;exact oj
   ·rename_i n2
    refine(M.mem.ok k c hc).keep fun hlv hr=>hk _ ((M.mem.ok k c hc).lt hlv hr) ?_ ?_
    ·exact M.mem.inj k i c _ (Ne.symm n1) hc hi hlv (Chunk.live_of_cel li) hr ri
    ·exact M.mem.inj k j c _ (Ne.symm n2) hc hj hlv (Chunk.live_of_cel lj) hr rj
 ·intro k c hc hlv hr
  obtain⟨c0,h1,h2⟩:=live k c hc hlv
  exact M.mem.base k c0 h1 h2 hr
 ·intro k c hc hlv hr
  obtain⟨c0,h1,h2⟩:=live k c hc hlv
  exact M.mem.unpub k c0 h1 h2 hr
 ·intro k m c1 c2 hkm h1 h2 l1 l2 r1 r2
  obtain⟨d1,g1,g2⟩:=live k c1 h1 l1
  obtain⟨d2,g3,g4⟩:=live m c2 h2 l2
  exact M.mem.inj k m d1 d2 hkm g1 g3 g2 g4 r1 r2
 ·refine M.agree.of_blocks fun b ⟨x,v,hv⟩=>hk b (M.agree.lt hv) (fun e=>?_) (fun e=>?_)
  ·rw[e,M.mem.unpub i _ hi (Chunk.live_of_cel li) ri x] at hv;cases hv
  ·rw[e,M.mem.unpub j _ hj (Chunk.live_of_cel lj) rj x] at hv;cases hv
 ·exact⟨M.since.below.trans (hsz.mono (Nat.le_min.2 ⟨hBi,hBj⟩)),M.since.le,M.since.old⟩
 ·obtain⟨h1,h2,h3⟩:=M.objs b q hq
  refine⟨h1,h2,?_⟩
  rw[hk b (Array.getElem?_eq_some_iff.1 h3).1 (fun e=>by rw[e,hci] at h3;cases h3;cases h2.1) (fun e=>by rw[e,hcj] at h3;cases h3;cases h2.1)]
  exact h3
structure Idles (P:Program)(d:Nat):Prop where
 ent:Enters P d
 call:∀ (w:World) (b q:Nat),CallsDIn (FR none) 0 P d #[.pointer (some ⟨b,0,none⟩),.pointer (some ⟨q,0,none⟩)] .returning w fun e u' w'=>e = .returned (.tuple #[])∧u' = .returning∧Below w.heap.size w w'
structure Catches (P:Program)(d:Nat)(v x y:Value):Prop where
 call:∀ (w:World) (b q:Nat) (A B:Array Value) (T T':TypeId),b≠q→w.heap[b]? = some (.cells A T (0,0))→w.heap[q]? = some (.cells B T' (0,0))→0<A.size→0<B.size →
  (∃ u,A[0]? = some u∧u.oneCell'=true)→(∃ u,B[0]? = some u∧u.oneCell'=true) →
  CallsDIn (FR none) 0 P d #[.pointer (some ⟨b,0,none⟩),.pointer (some ⟨q,0,none⟩)] (.panicking [{ v:=v,recovered:=false }]) w fun e u' w'=>e = .returned (.tuple #[])∧u' = .panicking [{ v:=v,recovered:=true }] ∧
   Below (min b q) w w'∧(∀ k,k<w.heap.size→k≠b→k≠q→w'.heap[k]? = w.heap[k]?)∧w'.heap[b]? = some (.cells (A.setIfInBounds 0 x) T (0,0))∧w'.heap[q]? = some (.cells (B.setIfInBounds 0 y) T' (0,0))
 one:x.oneCell'=true∧y.oneCell'=true
inductive CatchK (P : Program) (d : Nat) (v : Value) (A : D → D → Prop) : Prop
  | mk (x y : Value) (dx dy : D) (c : Catches P d v x y) (hx : ∀ E h, Den E h dx x) (hy : ∀ E h, Den E h dy y) (k : A dx dy)
def endD (P:Program)(tb:Tb)(fn:Func)(d i j:Nat)(K:D→Hp→Prop):K3:=fun e L H=>match e with
 | .ret=>resK tb L H fn.results.toList fun ds=>oneK ds fun d=>K d H
 | .normal=>resK tb L H fn.results.toList fun ds=>oneK ds fun d=>K d H
 | .panic c=>raisK c fun v=>jaK H i fun ci=>match ci with
  | .box li=>match li with
   | [_]=>jaK H j fun cj=>match cj with
    | .box lj=>match lj with
     | [_]=>CatchK P d v fun dx dy=>resK tb L ((i,.box [dx])::(j,.box [dy])::H) fn.results.toList fun ds=>oneK ds fun d=>K d ((i,.box [dx])::(j,.box [dy])::H)
     | _=>False
    | _=>False
   | _=>False
  | _=>False
 | _=>False
def dbody (R0 rest:Code)(id:Nat)(o1 o2:Oper):Bool→Code
 | true => .seq R0 (.scope (.seq (.region id #[o1,o2] false) rest))
 | false => .seq R0 (.seq (.region id #[o1,o2] false) rest)
structure DefOps (o1 o2:Oper)(t d:Nat)(x1 x2:Operand):Prop where
 op1:o1.op = .makeFunc (.func d) #[] #[x1,x2]
 dst1:o1.dst=some t
 g1:o1.guard=none
 op2:∃ ts,o2.op = .defer { callee := .value (.tmp t),args := #[],argTypes:=ts }
 dst2:o2.dst=none
 g2:o2.guard=none
inductive DefK (P : Program) (tb : Tb) (inl : Inl) (yl : Yl) (fn : Func) (rest : Code) (off t d : Nat) (x1 x2 : Operand) (K : D → Hp → Prop) (L : Sl) (H : Hp) : Prop
  | mk (i j : Nat) (h1 : rd L x1 = .box i 0) (h2 : rd L x2 = .box j 0) (hij : i ≠ j) (hi : i < off + fn.ntmps + 1) (hj : j < off + fn.ntmps + 1) (ht : t < fn.ntmps)
    (hid : Idles P d) (k : RunC P tb inl fn.ntmps rest yl (off + fn.ntmps + 1) ((t, .any) :: L) H (endD P tb fn d i j K))
def inlD (P : Program) (tb : Tb) (inl : Inl) : Inl := fun yl g ds off H K _ => ∃ fn c, InlF P g fn c ds.length ∧ ∃ R0 rest id o1 o2 sc t d x1 x2, c = dbody R0 rest id o1 o2 sc ∧ DefOps o1 o2 t d x1 x2 ∧
  RunC P tb inl fn.ntmps R0 yl off (argSl 0 ds) H (fun e L H => match e with
    | .normal => DefK P tb inl yl fn rest off t d x1 x2 K L H
    | _ => False)
theorem inlD_ok (htb:TbOk P tb)(hin:InlOk P inl):InlOk P (inlD P tb inl):=by
 intro yl g ds off H K KP hh cx E h w vs hoff hds hyl M hv
 obtain⟨fn,c,hF,R0,rest,id,o1,o2,sc,t,d,x1,x2,hc,hO,hh⟩:=hh
 subst hoff
 have hvl:=hv.length
 refine⟨jaw hF.func hF.name hF.body,?_⟩
 refine callsIn_of_wp_marks hF.func hF.body trivial ?_
 obtain⟨a0,ha0⟩:∃ a0:Act,a0 = { tmps:=vs.toArray++Array.replicate (fn.ntmps-vs.toArray.size) Go.undef,defers:=[] } := ⟨_,rfl⟩
 rw[← ha0]
 have hlen:=hF.len
 have hsz:a0.tmps.size=fn.ntmps:=by rw[ha0];simp;omega
 have S0:Sat cx E h a0 w (argSl 0 ds) H:=by
  refine M.sat (fun t=>?_) ⟨[],by simp,by rw[ha0,hds];rfl,by simp⟩
  rw[jd0,if_pos (jit _),Nat.sub_zero]
  by_cases ht:t<ds.length
  ·obtain⟨v,h1,h2⟩:=hv.get (i:=t) (d:=ds.getD t .any) (by simp[List.getD,ji6 ht])
   have:a0.tmps.getD t Go.undef=v:=by
    have htv:t<vs.length:=by omega
    rw[ha0]
    simp only[Array.getD_eq_getD_getElem?]
    rw[Array.getElem?_append_left (by simpa using htv)]
    simp only[jjn,h1,Option.getD_some]
   rw[this];exact h2
  ·have:ds.getD t .any = .any:=by simp[List.getD,List.getElem?_eq_none (Nat.le_of_not_lt ht)]
   rw[this];simp[Den]
 obtain⟨R,hR⟩:∃ R:Ending→World→Prop,R=fun e w'=>(∃ v r E' h' H',e = .returned v∧K r H'∧Den E' h' r v∧MS cx E' h' w' H') ∨ ∃ v E' h' H',e = .panicked [{ v:=v,recovered:=false }]∧KP v H'∧MS cx E' h' w' H':=⟨_,rfl⟩
 rw[← hR]
 -- the rest of the body, and the deferred call
 have main:∀ (L1:Sl) (H1:Hp) (E1:Env) (h1:Pub) (a1:Act) (w1:World) (Q:Exit→Act→World→Prop),(∀ e a w,(∀ l,e ≠ .goto l)→(∀ id,e ≠ .exit id)→bodyPostM (FR none) 0 P fn R e a w→Q e a w)→a1.tmps.size=fn.ntmps→Sat cx E1 h1 a1 w1 L1 H1 →
   DefK P tb inl yl fn rest cx.off t d x1 x2 K L1 H1→(Code.seq (.region id #[o1,o2] false) rest).wpIn (FR none) 0 P Q a1 w1:=by
  intro L1 H1 E1 h1 a1 w1 Q hQ hs1 S1 hD
  obtain⟨i,j,r1,r2,hij,hi,hj,ht,hid,hrest⟩:=hD
  refine wpIn_seq (wpIn_region_list ?_)
  have e1:=S1.facts.rd x1
  have e2:=S1.facts.rd x2
  rw[r1] at e1
  rw[r2] at e2
  simp only[Den] at e1 e2
  obtain⟨e1,ri⟩:=e1
  obtain⟨e2,rj⟩:=e2
  obtain⟨fv,hfv⟩:∃ fv,fv=Value.func (.func d) #[] #[.pointer (some ⟨E1.blk i,0,none⟩),.pointer (some ⟨E1.blk j,0,none⟩)]:=⟨_,rfl⟩
  have run1:(execOp a1.eval o1).run P w1 = .ok (.value fv) w1:=by
   simp[execOp,hO.op1,Instr.makeFunc,e1,e2,hfv]
  obtain⟨ts,ho2⟩:=hO.op2
  have hget:(a1.put (some t) fv).eval (.tmp t)=fv:=by
   have:=jbU (a:=a1) (d:=t) (v:=fv) (t:=t)
   simp only[Act.eval]
   rw[jbU,if_pos ⟨rfl,by omega⟩]
  obtain⟨D0,hD0⟩:∃ D0:Deferred,D0 = { target := .fn (.func d) #[.pointer (some ⟨E1.blk i,0,none⟩),.pointer (some ⟨E1.blk j,0,none⟩)],args := #[] } := ⟨_,rfl⟩
  have run2:(execOp (a1.put (some t) fv).eval o2).run P w1 = .ok (.defer D0) w1:=by
   simp only[execOp,ho2,resolve,hget]
   rw[hfv,hD0]
   simp[Deferred.ofValue]
  obtain⟨a3,ha3⟩:∃ a3:Act,a3 = { a1.put (some t) fv with defers:=D0::a1.defers } := ⟨_,rfl⟩
  suffices hmain:rest.wpIn (FR none) 0 P Q a3 w1 by
   show wpListIn (FR none) 0 P _ _ [o1,o2] a1 w1
   unfold wpListIn
   rw[if_pos (by simp[Region.wanted,hO.g1])]
   refine⟨fun _ _=>trivial,?_⟩
   rw[Oper.semAt_none,run1,Oper.uponIn_value,hO.dst1]
   unfold wpListIn
   rw[if_pos (by simp[Region.wanted,hO.g2])]
   refine⟨fun _ _=>trivial,?_⟩
   rw[Oper.semAt_none,run2,Oper.uponIn_defer,hO.dst2]
   unfold wpListIn
   show Exit.then _ _ .normal _ _
   rw[ha3] at hmain
   exact hmain
  let cx':Cx := { w0:=cx.w0,h0:=h1,off:=cx.off+fn.ntmps+1,E0:=E1,ds:=D0::a1.defers,objs:=jaW cx w1 }
  have hl0:Later cx (cx.now E1 h1 (cx.off+fn.ntmps+1) (jaW cx w1)):=S1.ms.later (by omega) (jb4 cx w1)
  have hl:Later cx cx':=⟨hl0.w0,hl0.le,hl0.old,hl0.off,hl0.env,hl0.objs⟩
  have M1:=S1.ms.now (n:=cx.off+fn.ntmps+1) (jb3 S1.ms)
  have M3:MS cx' E1 h1 w1 H1:=⟨M1.mem,M1.agree,M1.since,M1.low,M1.objs⟩
  have hs3:a3.tmps.size=fn.ntmps:=by rw[ha3];show (a1.put (some t) fv).tmps.size=_;rw[jaq];exact hs1
  have S3:Sat cx' E1 h1 a3 w1 ((t,.any)::L1) H1:=by
   refine M3.sat (fun s=>?_) ⟨[],by simp,by rw[ha3];rfl,by simp⟩
   rw[jav]
   split
   ·simp[Den]
   ·rename_i hne
    have:a3.tmps.getD s Go.undef=a1.tmps.getD s Go.undef:=by
     rw[ha3]
     show (a1.put (some t) fv).tmps.getD s Go.undef=_
     rw[jbU,if_neg (fun e=>hne e.1)]
    rw[this]
    exact S1.knows s
  obtain⟨ms1,p0,p1,p2⟩:=S1.side.marks
  rw[hds,jjk] at p1
  refine jau htb hin (Nat.le_of_eq hs3.symm) rest cx' yl none _ _ _ _ (hyl.later hl) (.inr fun _ e=>by cases e) hrest ?_ E1 h1 a3 w1 rfl S3
  intro e L2 H2 E2 h2 a2 w2 hK _ S2
  obtain⟨ms2,q0,q1,q2⟩:=S2.side.marks
  -- the marks that were there before
  have last:∀ (w3:World) (H3:Hp) (dd:D),(K dd H3)→MS cx' E2 h2 w3 H3→(∀ cx E h a w,Sat cx E h a w L2 H3 → ∃ v,Den E h dd v∧(results fn a.tmps).run P w = .ok v w) →
    LeavesInM (FR none) 0 P fn a2.tmps R a1.defers .returning w3:=by
   intro w3 H3 dd hKd M4 hres
   rw[p1]
   have hm:∀ b∈ms1,cx.w0.heap.size≤b∧cx.objs b=none∧w3.heap[b]? = some (.deferred (some [])):=fun b hb=>by
    obtain⟨k1,k2,k3⟩:=p2 b hb
    exact⟨k1,k2,(M4.objs b _ (jdq k1 k2 k3)).2.2⟩
   refine jcU (fun w4 M5=>?_) ms1 w3 p0 hm (M4.up hl)
   have S5:Sat cx E2 h2 { tmps:=a2.tmps,defers:=[] } w4 L2 H3:=M5.sat S2.knows ⟨[],by simp,by rw[hds];rfl,by simp⟩
   obtain⟨v,hv1,hv2⟩:=hres _ _ _ _ _ S5
   exact⟨v,hv2,by rw[hR];exact .inl ⟨v,dd,E2,h2,H3,rfl,hKd,hv1,M5⟩⟩
  have hleads:∀ g,D0.target.leads P w2 D0.args=some g→(FR none).fn g:=fun _ _=>trivial
  have lowi:=S2.low i hi
  have lowj:=S2.low j hj
  have hinv:∀ w:World,(invoke D0.target D0.args).run P w = .ok (.enter d #[.pointer (some ⟨E2.blk i,0,none⟩),.pointer (some ⟨E2.blk j,0,none⟩)]) w:=fun w=>by
   rw[hD0]
   simp only[invoke]
   rw[show #[] ++ #[Value.pointer (some ⟨E1.blk i,0,none⟩),.pointer (some ⟨E1.blk j,0,none⟩)] = #[Value.pointer (some ⟨E2.blk i,0,none⟩),.pointer (some ⟨E2.blk j,0,none⟩)] by rw[lowi.1,lowj.1];rfl]
   exact hid.ent _ w
  have htar:D0.target = .fn (.func d) #[.pointer (some ⟨E1.blk i,0,none⟩),.pointer (some ⟨E1.blk j,0,none⟩)]:=by rw[hD0]
  have goes:(resK tb L2 H2 fn.results.toList fun ds=>oneK ds fun d=>K d H2)→LeavesInM (FR none) 0 P fn a2.tmps R a2.defers .returning w2:=by
   intro hres
   obtain⟨dd,hKd,hres⟩:=jfE htb hres
   rw[q1]
   refine jd1 (by simp) (fun w3 M4=>?_) ms2 w2 q0 q2 S2.ms
   show LeavesInM (FR none) 0 P fn a2.tmps R (D0::a1.defers) .returning w3
   unfold LeavesInM
   refine⟨by simp,.inr ⟨fun e=>absurd (show (none:Option Nat).isSome=true from e) (by decide),_,_,d,_,htar,hinv w3,fun _ _=>trivial,?_⟩⟩
   refine CallsDIn.mono (hid.call w3 _ _) ?_
   rintro e u' w4 ⟨rfl,rfl,hb⟩
   exact last w4 H2 dd hKd (M4.below hb) hres
  refine hQ e a2 w2 ?_ ?_ ?_
  ·intro l el;subst el;exact hK.elim
  ·intro l el;subst el;exact hK.elim
  cases e with
  | normal=>exact goes hK
  | ret=>exact goes hK
  | panic ch=>
   simp only[endD] at hK
   have hz:=raisK_el hK;clear hK;obtain⟨v,rfl,hK⟩:=hz
   have hz:=jan hK;clear hK;obtain⟨ci,hci,hK⟩:=hz
   split at hK
   case h_2=>exact hK.elim
   rename_i li
   split at hK
   case h_2=>exact hK.elim
   rename_i bi
   have hz:=jan hK;clear hK;obtain⟨cj,hcj,hK⟩:=hz
   split at hK
   case h_2=>exact hK.elim
   rename_i lj
   split at hK
   case h_2=>exact hK.elim
   rename_i bj
   obtain⟨x,y,dx,dy,hcat,hdx,hdy,hK⟩:=hK
   obtain⟨dd,hKd,hres⟩:=jfE htb hK
   show LeavesInM (FR none) 0 P fn a2.tmps R a2.defers (.panicking _) w2
   rw[q1]
   refine jd1 (by simp) (fun w3 M4=>?_) ms2 w2 q0 q2 S2.ms
   show LeavesInM (FR none) 0 P fn a2.tmps R (D0::a1.defers) (.panicking _) w3
   unfold LeavesInM
   refine⟨by simp,.inr ⟨fun e=>absurd (show (none:Option Nat).isSome=true from e) (by decide),_,_,d,_,htar,hinv w3,fun _ _=>trivial,?_⟩⟩
   obtain⟨ri2,vi,si,Ti,hbi,dvi,onei,szi⟩:=M4.mem.ok i _ hci
   obtain⟨rj2,vj,sj,Tj,hbj,dvj,onej,szj⟩:=M4.mem.ok j _ hcj
   simp only[DenL] at dvi dvj
   obtain⟨ui,_,rfl,_,rfl⟩:=dvi
   obtain⟨uj,_,rfl,_,rfl⟩:=dvj
   have hne:E2.blk i≠E2.blk j:=M4.mem.inj i j _ _ hij hci hcj rfl rfl ri2 rj2
   refine CallsDIn.mono (hcat.call w3 _ _ _ _ _ _ hne hbi hbj (by simp) (by simp) ⟨ui,by simp,onei ui (by simp)⟩ ⟨uj,by simp,onej uj (by simp)⟩) ?_
   rintro e u' w4 ⟨rfl,rfl,hb,hk,hb1,hb2⟩
   refine last w4 _ dd hKd (M4.two hij hci hcj rfl rfl ri2 rj2 hb hk ?_ ?_) hres
   ·refine⟨ri2,[x],si,Ti,?_,by simp only[DenL];exact⟨x,[],rfl,hdx _ _,rfl⟩,by simpa using hcat.one.1,by simpa using szi⟩
    rw[hb1];simp
   ·refine⟨rj2,[y],sj,Tj,?_,by simp only[DenL];exact⟨y,[],rfl,hdy _ _,rfl⟩,by simpa using hcat.one.2,by simpa using szj⟩
    rw[hb2];simp
  | _=>exact hK.elim
 subst hc
 cases sc with
 | true=>
  refine wpIn_seq (jau htb hin (Nat.le_of_eq hsz.symm) R0 cx yl none _ _ _ _ hyl (.inr fun _ e=>by cases e) hh ?_ E h a0 w rfl S0)
  intro e L1 H1 E1 h1 a1 w1 hK hs1 S1
  cases e with
  | normal=>
   refine jft (main L1 H1 E1 h1 a1 w1 _ (fun e a w n1 n2 hb=>?_) (by rw[hs1,hsz]) S1 hK)
   cases e with
   | goto l=>exact absurd rfl (n1 l)
   | _=>exact hb
  | _=>exact hK.elim
 | false=>
  refine wpIn_seq (jau htb hin (Nat.le_of_eq hsz.symm) R0 cx yl none _ _ _ _ hyl (.inr fun _ e=>by cases e) hh ?_ E h a0 w rfl S0)
  intro e L1 H1 E1 h1 a1 w1 hK hs1 S1
  cases e with
  | normal=>exact main L1 H1 E1 h1 a1 w1 _ (fun e a w n1 n2 hb=>hb) (by rw[hs1,hsz]) S1 hK
  | _=>exact hK.elim
def inlX (P:Program)(tb:Tb)(k:Nat):Inl:=fun yl g ds off H K KP=>inlN P tb k yl g ds off H K KP∨inlD P tb (inlN P tb k) yl g ds off H K KP
theorem inlX_ok (htb:TbOk P tb)(k:Nat):InlOk P (inlX P tb k):=fun yl g ds off H K KP hh=>by
 rcases hh with hh|hh
 ·exact jdg htb k yl g ds off H K KP hh
 ·exact inlD_ok htb (jdg htb k) yl g ds off H K KP hh
theorem jbr {inl : Inl} (hok : InlOk P inl) {f : Nat} {ds : List D} {r : D} (hent : Enters P f) (hh : inl (fun _ _ _ _ _ => False) f ds 0 [] (outK r) noP) : Called P f ds r := by
  refine ⟨hent, fun h w vs ha hd => ?_⟩
  let cx : Cx := { w0 := w, h0 := h, off := 0, E0 := Env.dummy, ds := [], objs := fun _ => none }
  have M : MS cx Env.dummy h w [] :=
    { mem := { ok := fun i c hc => by simp [lookH] at hc, base := fun i c hc => by simp [lookH] at hc, unpub := fun i c hc => by simp [lookH] at hc, inj := fun i j c c' _ hc => by simp [lookH] at hc }
      agree := ha
      since := ⟨Below.refl _ _, Pub.Le.refl _, fun _ _ _ => rfl⟩
      low := fun j hj => absurd hj (Nat.not_lt_zero _)
      objs := fun b o ho => by cases ho }
  have hok := hok (fun _ _ _ _ _ => False) f ds 0 [] (outK r) noP hh cx Env.dummy h w vs rfl rfl (jey P cx) M hd
  refine (callsIn_wide.1 hok.2).mono ?_
  rintro e w' (⟨v, d, E', h', H', rfl, hK, hden, M'⟩ | ⟨_, _, _, _, _, hf, _⟩)
  case inr => exact hf.elim
  unfold outK at hK
  obtain ⟨ds', L2, H2, hK2, hl2, hS2⟩ := jgr hK
  have S' : Sat cx E' h' { tmps := #[], defers := [] } w' [] H' := M'.sat (fun t => by simp [look, Den]) ⟨[], by simp, rfl, by simp⟩
  obtain ⟨h3, hle3, S3, hden3⟩ := hS2 cx E' h' _ w' S'
  split at hK2
  case h_2 => exact hK2.elim
  rename_i d'
  have h4 := hden3 [v] (by simp only [DenL]; exact ⟨v, [], rfl, hden, rfl⟩)
  simp only [DenL] at h4
  obtain ⟨v', _, he, h5, _⟩ := h4
  cases he
  cases hp : D.pure d' with
  | false => rw [hp] at hK2; exact hK2.elim
  | true =>
    rw [hp] at hK2
    exact ⟨v, h3, rfl, hK2.out _ _ (Den.pure hp h5), S3.agree, S3.since.le, S3.since.below, S3.since.old⟩
end
end Go.V
end
section
namespace Go.V
open Go Go.RowKit
def zB:D→Value→Bool
 | .any,v=>v.oneCell'
 | .int k n,.int k' n'=>kE k k' && decide (n=n') && decide (n=0)
 | .bool b,.bool b'=>b == b'
 | .str s,.string s'=>s.isEmpty && s'.size == 0
 | .nil,.slice none 0 0=>true
 | _,_=>false
def zBL:List D→List Value→Bool
 | [],[]=>true
 | d::ds,v::vs=>zB d v && zBL ds vs
 | _,_=>false
theorem zB_ok {d:D}{v:Value}(h:zB d v=true)(E:Env)(hp:Pub):Den E hp d v∧v.oneCell'=true:=by
 unfold zB at h
 split at h
 ·exact⟨by simp[Den],h⟩
 ·simp only[jir,decide_eq_true_eq] at h
  obtain⟨⟨h1,rfl⟩,rfl⟩:=h
  have:=kE_eq h1;subst this
  exact⟨by simp only[Den];exact⟨trivial,zero_inR _⟩,rfl⟩
 ·simp at h;subst h;exact⟨by simp[Den],rfl⟩
 ·simp only[jir,List.isEmpty_iff,beq_iff_eq] at h
  obtain⟨rfl,h2⟩:=h
  refine⟨?_,rfl⟩
  simp only[Den]
  refine⟨?_,by simp⟩
  congr 1
  apply ByteArray.ext
  apply Array.toList_inj.1
  rename_i s'
  have:s'.data.size=0:=h2
  simp[Array.size_eq_zero_iff.1 this]
 ·exact⟨by simp[Den],rfl⟩
 ·cases h
theorem zBL_ok {ds:List D}{vs:List Value}(h:zBL ds vs=true)(E:Env)(hp:Pub):DenL E hp ds vs ∧ ∀ v∈vs,v.oneCell'=true:=by
 induction ds generalizing vs with
 | nil=>cases vs with
  | nil=>exact⟨by simp[DenL],by simp⟩
  | cons=>simp[zBL] at h
 | cons d ds ih=>
  cases vs with
  | nil=>simp[zBL] at h
  | cons v vs=>
   simp only[zBL,jir] at h
   obtain⟨h1,h2⟩:=zB_ok h.1 E hp
   obtain⟨h3,h4⟩:=ih h.2
   refine⟨by simp only[DenL];exact⟨_,_,rfl,h1,h3⟩,fun u hu=>?_⟩
   rcases ji5.1 hu with rfl|hu
   ·exact h2
   ·exact h4 u hu
def isAggV:Value→Bool
 | .agg _=>true
 | _=>false
def jgs (P : Program) (fields : Array Field) : Nat → List (Nat × Nat) → Bool
  | _, [] => true
  | j, (o, u) :: fs => (match fields[j]? with
    | some f => Nat.beq f.offset o && Nat.beq f.type u && (match P.info? u with | some iu => !Nat.beq iu.size 0 | none => false)
    | none => false) && jgs P fields (j + 1) fs
def undB (P:Program)(t:Nat)(k:TyK):Bool:=match k,P.underlying t with
 | .int k,some (.int k')=>kE k k'
 | .bool,some .bool=>true
 | .str,some .string=>true
 | .slice e,some (.slice e')=>Nat.beq e e'
 | .arr n e,some (.array n' e')=>Nat.beq n n' && Nat.beq e e'
 | .ptr e,some (.pointer e')=>Nat.beq e e'
 | .map k e,some (.map k' e')=>Nat.beq k k' && Nat.beq e e'
 | .func,some (.func _ _ _)=>true
 | .struct fs,some (.struct fields)=>Nat.beq fields.size fs.length && jgs P fields 0 fs
 | .other,some (.struct _)=>false
 | .other,some (.array _ _)=>false
 | .other,some _=>true
 | _,_=>false
def eqB (P:Program)(t:Nat):Bool:=match P.underlying t with
 | some (.struct fields) => !P.stoodInHeld t && fields.toList.all fun f=>f.name != "_"
 | _=>true
theorem eqB_ok {P:Program}{t:Nat}(h:eqB P t=true):∀ fields,P.underlying t=some (.struct fields)→P.stoodInHeld t=false ∧ ∀ f∈fields.toList,f.name ≠ "_" := fun fields hu=>by
 unfold eqB at h
 rw[hu] at h
 simp only[jir,Bool.not_eq_true',ji2,bne_iff_ne] at h
 exact h
def tyB (P:Program)(t:Nat)(y:Ty):Bool:=match P.info? t with
 | none=>false
 | some i=>match i.zero with
  | none=>false
  | some z=>Nat.beq i.size y.size && Nat.beq i.bytes y.bytes && zBL y.zero z.cells.toList && (y.kind.isAgg == isAggV z) && Nat.beq z.cells.size y.size &&
    (y.kind.isAgg || (z.oneCell' && Nat.beq y.size 1)) && undB P t y.kind && eqB P t
theorem jfP {P:Program}{fields:Array Field} : ∀ {fs:List (Nat×Nat)} {j:Nat},jgs P fields j fs=true →
  ∀ (i o u:Nat),fs[i]? = some (o,u) → ∃ f iu,fields[j+i]? = some f∧f.offset=o∧f.type=u∧P.info? u=some iu∧iu.size≠0
 | [],j,_,i,o,u,hi=>by simp at hi
 | (o',u')::fs,j,h,i,o,u,hi=>by
  simp only[jgs,jir] at h
  cases i with
  | zero=>
   simp at hi
   obtain⟨rfl,rfl⟩:=hi
   have h1:=h.1
   split at h1
   ·rename_i f hf
    simp only[jir] at h1
    obtain⟨⟨h2,h3⟩,h4⟩:=h1
    split at h4
    ·rename_i iu hiu
     refine⟨f,iu,by simpa using hf,jac h2,jac h3,hiu,fun e=>?_⟩
     rw[e] at h4;simp at h4
    ·cases h4
   ·cases h1
  | succ i=>
   obtain⟨f,iu,h1,h2⟩:=jfP h.2 i o u (by simpa using hi)
   exact⟨f,iu,by rw[← h1];congr 1;omega,h2⟩
theorem tyB_ok {P : Program} {t : Nat} {y : Ty} (h : tyB P t y = true) : TyOk P t y := by
  unfold tyB at h
  split at h
  · cases h
  · rename_i i hi
    split at h
    · cases h
    · rename_i z hz
      simp only [jir, jiJ] at h
      obtain ⟨⟨⟨⟨⟨⟨⟨h1, h2⟩, h3⟩, h4⟩, h5⟩, h6⟩, h7⟩, h8⟩ := h
      refine { info := ⟨i, z, hi, jac h1, jac h2, hz, fun E hp => (zBL_ok h3 E hp).1, (zBL_ok h3 Env.dummy (fun _ _ => none)).2, fun ha => ?_, jac h5, fun ha => ?_⟩, und := ?_, eqs := eqB_ok h8 }
      · rw [ha] at h4
        cases z <;> simp [isAggV] at h4
        exact ⟨_, rfl⟩
      · rw [ha] at h6
        rcases h6 with h6 | h6
        · cases h6
        · exact ⟨h6.1, jac h6.2⟩
      · unfold undB at h7
        cases hk : y.kind <;> rw [hk] at h7 <;> cases hu : P.underlying t <;> rw [hu] at h7 <;> (try simp only at h7) <;> first | cases h7 | skip
        all_goals rename_i d
        all_goals cases d <;> (try simp only at h7) <;> first | (cases h7; done) | skip
        all_goals first
          | (have := kE_eq h7; subst this; rfl)
          | rfl
          | (have := jac h7; subst this; rfl)
          | (simp only [jir] at h7; have e1 := jac h7.1; have e2 := jac h7.2; subst e1; subst e2; rfl)
          | exact ⟨_, _, _, rfl⟩
          | (simp only [jir] at h7
             exact ⟨_, rfl, jac h7.1, fun j o u hj => by have := jfP h7.2 j o u hj; simpa using this⟩)
          | exact ⟨_, rfl, (fun _ e => (by cases e)), (fun _ _ e => (by cases e))⟩
def tbB (P:Program):Tb→Bool
 | []=>true
 | (t,y)::tb=>tyB P t y && tbB P tb
theorem tbB_ok {P:Program}{tb:Tb}(h:tbB P tb=true):TbOk P tb:=by
 induction tb with
 | nil=>intro t y hy;simp[tyL] at hy
 | cons x tb ih=>
  obtain⟨s,y'⟩:=x
  simp only[tbB,jir] at h
  intro t y hy
  simp only[tyL] at hy
  cases hb:Nat.beq s t with
  | true=>
   rw[hb] at hy
   have:=jac hb;subst this
   cases hy
   exact tyB_ok h.1
  | false=>rw[hb] at hy;exact ih h.2 t y hy
end Go.V
end
section
namespace Go.V
open Go Go.RowKit
theorem jbD {P:Program}{tb:Tb}{inl:Inl}{yl:Yl}{N off:Nat}{all:List Oper}{KP:KPan}{gt:Nat→Sl→Hp→Prop}{L:Sl}{H:Hp}{K:K2} : jdH P tb inl yl N off all KP gt .nil L H K:=True.intro
def slApp:Sl→Sl→Sl
 | [],M=>M
 | x::L,M=>x::slApp L M
def hpApp:Hp→Hp→Hp
 | [],M=>M
 | x::L,M=>x::hpApp L M
def wkSl (L L2:Sl):Sl→Prop
 | []=>True
 | (t,_)::R=>(match look L2 t with | .any=>True|d=>look L t=d)∧wkSl L L2 R
def wkHp (H H2:Hp):Hp→Prop
 | []=>True
 | (i,_)::R=>(match lookH H2 i with|none=>True|some c=>lookH H i=some c)∧wkHp H H2 R
theorem look_none {L:Sl}{t:Nat}(h:∀ p∈L,p.1≠t):look L t = .any:=by
 induction L with
 | nil=>rfl
 | cons x L ih=>
  obtain⟨s,d⟩:=x
  rw[jav,if_neg (h (s,d) (by simp))]
  exact ih fun p hp=>h p (by simp[hp])
theorem lookH_none {H:Hp}{t:Nat}(h:∀ p∈H,p.1≠t):lookH H t=none:=by
 induction H with
 | nil=>rfl
 | cons x L ih=>
  obtain⟨s,d⟩:=x
  rw[jad,if_neg (h (s,d) (by simp))]
  exact ih fun p hp=>h p (by simp[hp])
theorem wkSl_mem {L L2 R:Sl}(h:wkSl L L2 R){t:Nat}(ht:∃ p∈R,p.1=t):look L2 t = .any∨look L t=look L2 t:=by
 induction R with
 | nil=>obtain⟨p,hp,_⟩:=ht;simp at hp
 | cons x R ih=>
  obtain⟨s,d⟩:=x
  obtain⟨p,hp,e⟩:=ht
  by_cases hs:s=t
  ·subst hs
   have h1:=h.1
   cases hl:look L2 s<;>rw[hl] at h1<;>first|exact .inl rfl|exact .inr h1
  ·rcases ji5.1 hp with e2|e2
   ·subst e2;exact absurd e hs
   ·exact ih h.2 ⟨p,e2,e⟩
theorem wkHp_mem {H H2 R:Hp}(h:wkHp H H2 R){i:Nat}{c:Chunk}(hi:∃ p∈R,p.1=i)(hc:lookH H2 i=some c):lookH H i=some c:=by
 induction R with
 | nil=>obtain⟨p,hp,_⟩:=hi;simp at hp
 | cons x R ih=>
  obtain⟨s,d⟩:=x
  obtain⟨p,hp,e⟩:=hi
  by_cases hs:s=i
  ·subst hs
   have h1:=h.1
   rw[hc] at h1;exact h1
  ·rcases ji5.1 hp with e2|e2
   ·subst e2;exact absurd e hs
   ·exact ih h.2 ⟨p,e2,e⟩
theorem Wk.of2 {off : Nat} {L L' : Sl} {H H' : Hp} (h1 : wkSl L L' L') (h2 : wkHp H H' H') : Wk off L H L' H' := by
  refine ⟨fun cx E h a w _ S => ?_⟩
  have hl : ∀ {i c}, lookH H' i = some c → lookH H i = some c := fun {i c} hc => by
    by_cases hm : ∃ p ∈ H', p.1 = i
    · exact wkHp_mem h2 hm hc
    · rw [lookH_none (fun p hp e => hm ⟨p, hp, e⟩)] at hc; cases hc
  refine ⟨E, h, { knows := fun t => ?_, mem := ?_, agree := S.agree, since := S.since, low := S.low, side := S.side }⟩
  · by_cases hm : ∃ p ∈ L', p.1 = t
    · rcases wkSl_mem h1 hm with e | e
      · rw [e]; simp [Den]
      · rw [← e]; exact S.knows t
    · rw [look_none (fun p hp e => hm ⟨p, hp, e⟩)]; simp [Den]
  · exact { ok := fun i c hc => S.mem.ok i c (hl hc), base := fun i c hc => S.mem.base i c (hl hc), unpub := fun i c hc => S.mem.unpub i c (hl hc),
            inj := fun i j c c' hij hc hc' => S.mem.inj i j c c' hij (hl hc) (hl hc') }
def jd8:Sl→Sl→(Sl→Prop)→Prop
 | [],M,K=>K M
 | x::L,M,K=>jd8 L M fun N=>K (x::N)
theorem jdp (L M:Sl)(K:Sl→Prop):jd8 L M K=K (slApp L M):=by
 induction L generalizing K with
 | nil=>rfl
 | cons x L ih=>simp only[jd8,slApp,ih]
def jeb:Hp→Hp→(Hp→Prop)→Prop
 | [],M,K=>K M
 | x::L,M,K=>jeb L M fun N=>K (x::N)
theorem jdE (L M:Hp)(K:Hp→Prop):jeb L M K=K (hpApp L M):=by
 induction L generalizing K with
 | nil=>rfl
 | cons x L ih=>simp only[jeb,hpApp,ih]
theorem jaf {off:Nat}{L:Sl}{H:Hp}{body:Sl→Hp→K3→Prop}{K:K3}{α:Type}(x0:α)(I:α→Prop)(μ:α→Nat)(sl:α→Sl)(hp:α→Hp)(h0:Wk off L H (slApp (sl x0) L) (hpApp (hp x0) H))(hI:I x0)
  (step:∀ k,I k→jd8 (sl k) L fun L1=>jeb (hp k) H fun H1=>body L1 H1 (nrm (fun L' H' => ∃ y,I y∧μ y<μ k∧Wk off L' H' (slApp (sl y) L) (hpApp (hp y) H)) K)):Lp off L H body K:=
 Lp.of ⟨α,I,fun k=>slApp (sl k) L,fun k=>hpApp (hp k) H,μ,⟨x0,hI,h0⟩,fun k hk=>by
  have:=step k hk
  rw[jdp,jdE] at this
  exact this⟩
def xjn (off i:Nat){β:Type}(inv:β→Prop)(sl:β→Sl)(hp:β→Hp)(K:K3):K3:=fun e L' H'=>match e with
 | .exit j=>match Nat.beq j i with
  | true => ∃ y,inv y∧Wk off L' H' (sl y) (hp y)
  | false=>K (.exit j) L' H'
 | e=>K e L' H'
theorem jgm {off:Nat}{L:Sl}{H:Hp}{body:Sl→Hp→K3→Prop}{K:K3}{β:Type}(i:Nat)(inv:β→Prop)(sl:β→Sl)(hp:β→Hp)
  (h:Lp off L H body (xjn off i inv (fun y=>slApp (sl y) L) (fun y=>hpApp (hp y) H) K)) (k:∀ y,inv y→jd8 (sl y) L fun L1=>jeb (hp y) H fun H1=>K (.exit i) L1 H1):Lp off L H body K:=by
 obtain⟨K2,hK2,hr⟩:=h.out
 refine⟨K2,fun e L' H' hk=>?_,hr⟩
 obtain⟨L2,H2,hw,hx⟩:=hK2 e L' H' hk
 cases e with
 | exit j=>
  simp only[xjn] at hx
  cases hb:Nat.beq j i with
  | true=>
   rw[hb] at hx
   have:=jac hb;subst this
   obtain⟨y,hy,hw2⟩:=hx
   have:=k y hy
   rw[jdp,jdE] at this
   exact⟨_,_,hw.trans hw2,this⟩
  | false=>rw[hb] at hx;exact⟨_,_,hw,hx⟩
 | _=>exact⟨_,_,hw,hx⟩
theorem cnd_meet {P:Program}{tb:Tb}{inl:Inl}{N off:Nat}{a b:Code}{yl:Yl}{x:Bool}{L:Sl}{H:Hp}{K:K3}(sl:Sl)(hp:Hp)
  (h:CondB x (RunC P tb inl N a yl off L H (jn off (slApp sl L) (hpApp hp H) K)) (RunC P tb inl N b yl off L H (jn off (slApp sl L) (hpApp hp H) K))) (k:jd8 sl L fun L1=>jeb hp H fun H1=>K .normal L1 H1) :
  Cnd off x (RunC P tb inl N a yl off L H) (RunC P tb inl N b yl off L H) K := .join _ _ h (by rw[jdp,jdE] at k;exact k)
theorem jas {P:Program}{tb:Tb}{inl:Inl}{N off:Nat}{all:List Oper}{KP:KPan}{p:Plan}{ns:List Nd}{yl:Yl}{L:Sl}{H:Hp}{K:K2}(sl:Sl)(hp:Hp)
  (h:drawK P tb inl yl N off all KP (fun _ _ _=>False) p L H fun L' H'=>Wk off L' H' (slApp sl L) (hpApp hp H)) (k:jd8 sl L fun L1=>jeb hp H fun H1=>K L1 H1) :
  Drw off (drawD P tb inl yl N off all KP p ns L H) K := .join _ _ (jab h) (by rw[jdp,jdE] at k;exact k)
def ctrK:List (Nat×Sl×Hp)→List Nat→Sl→Hp→(Sl→Hp→Prop)→Prop
 | [],_,L,H,K=>K L H
 | (i,sl,hp)::c,rem,L,H,K=>match memB i rem with|true=>ctrK c rem L H K|false=>jd8 sl L fun L1=>jeb hp H fun H1=>ctrK c rem L1 H1 K
def ndsK (P:Program)(tb:Tb)(inl:Inl)(yl:Yl)(N off:Nat)(all:List Oper)(KP:KPan)(gt:Nat→Sl→Hp→Prop)(ctr:List (Nat×Sl×Hp))(L:Sl)(H:Hp)(K:K2):List Nd→Prop
 | []=>True
 | nd::ns=>(ctrK ctr nd.rem L H fun Lk Hk=>jbn tb all nd.pend Lk Hk (drawK P tb inl yl N off all KP gt nd.plan Lk Hk K))∧ndsK P tb inl yl N off all KP gt ctr L H K ns
theorem jb0 {A:Prop}{P:Program}{tb:Tb}{inl:Inl}{yl:Yl}{N off:Nat}{all:List Oper}{KP:KPan}{gt:Nat→Sl→Hp→Prop}{bs:Brs}{L:Sl}{H:Hp}{K:K2}(a:A)(b:jdH P tb inl yl N off all KP gt bs L H K):A∧jdH P tb inl yl N off all KP gt bs L H K:=⟨a,b⟩
theorem jcq {A:Prop}{P:Program}{tb:Tb}{inl:Inl}{yl:Yl}{N off:Nat}{all:List Oper}{KP:KPan}{gt:Nat→Sl→Hp→Prop}{ctr:List (Nat×Sl×Hp)}{L:Sl}{H:Hp}{K:K2}{ns:List Nd}(a:A)(b:ndsK P tb inl yl N off all KP gt ctr L H K ns):A∧ndsK P tb inl yl N off all KP gt ctr L H K ns:=⟨a,b⟩
theorem jax {A:Prop}{tb:Tb}{all:List Oper}{qs:List Nat}{L:Sl}{H:Hp}{K:Prop}(h:A)(k:jbn tb all qs L H K):A∧jbn tb all qs L H K:=⟨h,k⟩
theorem no_tf {A:Prop}(h:true=false):A:=by cases h
theorem no_ft {A:Prop}(h:false=true):A:=by cases h
theorem no_nt {A:Prop}(h:(!true)=true):A:=by cases h
theorem no_nf {A:Prop}(h:(!false)=false):A:=by cases h
theorem Cnd.y {off:Nat}{A B:K3→Prop}{K:K3}(h:A K):Cnd off true A B K := .split ⟨fun _=>h,no_tf⟩
theorem Cnd.n {off:Nat}{A B:K3→Prop}{K:K3}(h:B K):Cnd off false A B K := .split ⟨no_ft,fun _=>h⟩
theorem Cnd.ny {off:Nat}{A B:K3→Prop}{K:K3}(h:A K):Cnd off (!false) A B K := .split ⟨fun _=>h,no_nf⟩
theorem Cnd.nn {off:Nat}{A B:K3→Prop}{K:K3}(h:B K):Cnd off (!true) A B K := .split ⟨no_nt,fun _=>h⟩
theorem Cnd.yes {off:Nat}{x:Bool}{A B:K3→Prop}{K:K3}(e:x=true)(h:A K):Cnd off x A B K := .split ⟨fun _=>h,fun h'=>(by rw[e] at h';cases h')⟩
theorem Cnd.no {off:Nat}{x:Bool}{A B:K3→Prop}{K:K3}(e:x=false)(h:B K):Cnd off x A B K := .split ⟨fun h'=>(by rw[e] at h';cases h'),fun _=>h⟩
theorem jaa {P:Program}{g:Prop}{f:Nat}{ds:List D}{K:D→Prop}{r:D}(h:Called P f ds r)(k:K r):∃ r,(g→Called P f ds r)∧K r:=⟨r,fun _=>h,k⟩
def FinL:List D→List D→Prop
 | [],[]=>True
 | r::rs,r'::rs'=>Fin r r'∧FinL rs rs'
 | _,_=>False
theorem FinL.den {h:Pub} : ∀ {rs rs':List D} {vs:List Value},FinL rs rs'→DenL Env.dummy h rs' vs→DenL Env.dummy h rs vs
 | [],[],_,_,H=>H
 | _::_,_::_,_,F,H=>by
  simp only[DenL] at H ⊢
  obtain⟨v,vs',h1,h2,h3⟩:=H
  exact⟨v,vs',h1,F.1.out _ _ h2,FinL.den F.2 h3⟩
theorem Fin.tup {rs rs':List D}(F:FinL rs rs'):Fin (.tup rs) (.tup rs'):=⟨fun h v hv=>by
 simp only[Den] at hv ⊢
 obtain⟨vs,h1,h2⟩:=hv
 exact⟨vs,h1,FinL.den F h2⟩⟩
theorem Fin.agg {rs rs':List D}(F:FinL rs rs'):Fin (.agg rs) (.agg rs'):=⟨fun h v hv=>by
 simp only[Den] at hv ⊢
 obtain⟨vs,h1,h2,h3⟩:=hv
 exact⟨vs,h1,FinL.den F h2,h3⟩⟩
theorem Called.arg {P:Program}{f:Nat}{ds ds':List D}{r:D}(F:FinL ds' ds)(h:Called P f ds' r):Called P f ds r:=
 ⟨h.1,fun hp w vs ha hd=>h.2 hp w vs ha (FinL.den F hd)⟩
theorem Called.fin {P:Program}{f:Nat}{ds:List D}{r r':D}(h:Called P f ds r)(F:Fin r' r):Called P f ds r':=
 ⟨h.1,fun hp w vs ha hd=>(h.2 hp w vs ha hd).mono fun e w' ⟨v,h',h1,h2,h3,h4,h5,h6⟩=>⟨v,h',h1,F.out _ _ h2,h3,h4,h5,h6⟩⟩
end Go.V
end
section
namespace Go.V
open Go Go.RowKit
section
variable {cx : Cx} {E : Env} {h : Pub} {a : Act} {w : World} {L : Sl} {H : Hp}
theorem Sat.rechunk (S:Sat cx E h a w L H){j:Nat}{c c':Chunk}(hj:lookH H j=some c)(hl:c.live=true)(hc:ChunkOk E h w j c'):Sat cx E h a w L ((j,c')::H):=by
 have key:∀ i x,lookH ((j,c')::H) i=some x→x.live=true → ∃ y,lookH H i=some y∧y.live=true:=fun i x hx hlx=>by
  rw[jad] at hx
  split at hx
  ·rename_i e;subst e;exact⟨c,hj,hl⟩
  ·exact⟨x,hx,hlx⟩
 refine { S with mem := { ok:=?_,base:=?_,unpub:=?_,inj:=?_ } }
 ·intro i x hx
  rw[jad] at hx
  split at hx
  ·rename_i e;subst e;cases hx;exact hc
  ·exact S.mem.ok i x hx
 ·intro i x hx hlx
  obtain⟨y,h1,h2⟩:=key i x hx hlx
  exact S.mem.base i y h1 h2
 ·intro i x hx hlx
  obtain⟨y,h1,h2⟩:=key i x hx hlx
  exact S.mem.unpub i y h1 h2
 ·intro i k x y hik hx hy lx ly
  obtain⟨x',h1,h2⟩:=key i x hx lx
  obtain⟨y',h3,h4⟩:=key k y hy ly
  exact S.mem.inj i k x' y' hik h1 h3 h2 h4
theorem Sat.reslot (S:Sat cx E h a w L H){t:Nat}{d:D}(hd:Den E h d (a.tmps.getD t Go.undef)):Sat cx E h a w ((t,d)::L) H:=by
 refine { S with knows:=fun s=>?_ }
 rw[jav]
 split
 ·rename_i e;subst e;exact hd
 ·exact S.knows s
theorem Sat.virt0 (S:Sat cx E h a w L H){i:Nat}{k:IntKind}(hoff':cx.off≤i) :
  Sat cx (E.virt i) h a w (purge i L) ((i,.arr k [])::jaC i H):=by
 have hoff:=E.off_virt i
 have live:∀ j c',j≠i→lookH ((i,.arr k [])::jaC i H) j=some c'→c'.live=true → ∃ c0,lookH H j=some c0∧c'=jcd i c0∧c0.live=true:=by
  intro j c' hj hc' hl
  rw[jad,if_neg (Ne.symm hj)] at hc'
  obtain⟨c0,h1,h2⟩:=jbh hc'
  exact⟨c0,h1,h2,by rw[h2,jbf] at hl;exact hl⟩
 have hne:∀ j,(E.virt i).real j=true→j≠i:=fun j hr e=>by subst e;rw[E.virt_real] at hr;cases hr
 have hre:∀ j,j≠i→(E.virt i).real j=E.real j:=fun j hj=>(hoff j hj).2.2.2.1
 refine { knows:=?_,mem:=?_,agree:=S.agree,since:=S.since,low:=fun j hj=>jeT S.low hoff hoff' j hj,side:=S.side }
 ·exact fun t=>jbY hoff (S.knows t)
 ·refine { ok:=?_,base:=?_,unpub:=?_,inj:=?_ }
  ·intro j c' hc'
   by_cases hj:j=i
   ·subst hj;rw[jad,if_pos rfl] at hc';cases hc';exact .inl ⟨E.virt_real _,rfl⟩
   ·cases hl:c'.live with
    | false=>cases c'<;>first|trivial|(simp[Chunk.live] at hl)
    | true=>
     obtain⟨c0,h1,rfl,hl'⟩:=live j c' hj hc' hl
     exact ChunkOk.env hoff hj (S.mem.ok j _ h1)
  ·intro j c' hc' hl hr
   have hj:=hne j hr
   obtain⟨c0,h1,rfl,hl'⟩:=live j c' hj hc' hl
   rw[hre j hj] at hr
   exact S.mem.base j _ h1 hl' hr
  ·intro j c' hc' hl hr o
   have hj:=hne j hr
   obtain⟨c0,h1,rfl,hl'⟩:=live j c' hj hc' hl
   rw[hre j hj] at hr
   exact S.mem.unpub j _ h1 hl' hr o
  ·intro j k' c1 c2 hjk h1 h2 l1 l2 r1 r2
   have hj:=hne j r1
   have hk:=hne k' r2
   obtain⟨c0,g1,rfl,l1'⟩:=live j c1 hj h1 l1
   obtain⟨c0',g2,rfl,l2'⟩:=live k' c2 hk h2 l2
   rw[hre j hj] at r1
   rw[hre k' hk] at r2
   exact S.mem.inj j k' _ _ hjk g1 g2 l1' l2' r1 r2
end
theorem jh0 {E:Env}{h:Pub}{i:Nat}{v:Value}(hr:E.real i=false)(hv:Den E h .nil v):Den E h (.osl i 0 0) v:=by
 simp only[Den] at hv ⊢
 exact .inl ⟨hr,hv,trivial⟩
theorem denL_set {E:Env}{h:Pub}{d:D} : ∀ {ds:List D} {vs:List Value} {p:Nat} {x:D},DenL E h ds vs→ds[p]? = some x→(∀ v,Den E h x v→Den E h d v)→DenL E h (ds.set p d) vs
 | [],_,_,_,_,hp,_=>by simp at hp
 | y::ds,vs,p,x,H,hp,hd=>by
  simp only[DenL] at H
  obtain⟨v,vs',rfl,h1,h2⟩:=H
  cases p with
  | zero=>simp at hp;subst hp;simp only[List.set_cons_zero,DenL];exact⟨v,vs',rfl,hd v h1,h2⟩
  | succ p=>simp only[List.set_cons_succ,DenL];exact⟨v,vs',rfl,h1,denL_set h2 (by simpa using hp) hd⟩
theorem Wk.ghostSlot {off:Nat}{L:Sl}{H:Hp}(i t:Nat)(k:IntKind)(hoff:off≤i)(ht:look (purge i L) t = .nil) :
  Wk off L H ((t,.osl i 0 0)::purge i L) ((i,.arr k [])::jaC i H):=by
 refine⟨fun cx E h a w e S=>?_⟩
 subst e
 have S1:=S.virt0 (k:=k) hoff
 have:=S1.knows t
 rw[ht] at this
 exact⟨E.virt i,h,S1.reslot (jh0 (E.virt_real i) this)⟩
theorem Lp.pre {off:Nat}{L L1:Sl}{H H1:Hp}{body:Sl→Hp→K3→Prop}{K:K3}(hw:Wk off L H L1 H1)(hl:Lp off L1 H1 body K):Lp off L H body K:=by
 obtain⟨K2,hK2,α,I,sl,hp,μ,⟨x,hx,h0⟩,hs⟩:=hl.out
 exact⟨⟨K2,hK2,α,I,sl,hp,μ,⟨x,hx,hw.trans h0⟩,hs⟩⟩
theorem Lp.ghostSlot {off : Nat} {L : Sl} {H : Hp} {body : Sl → Hp → K3 → Prop} {K : K3} (i t : Nat) (k : IntKind) (hoff : off ≤ i)
    (h : jeK i L fun L1 => jci i H fun H1 => lookK L1 t fun d => match d with
      | .nil => Lp off ((t, .osl i 0 0) :: L1) ((i, .arr k []) :: H1) body K
      | _ => False) : Lp off L H body K := by
  rw [jeJ, jdS, jbT] at h
  split at h
  case h_2 => exact h.elim
  rename_i hd
  exact Lp.pre (Wk.ghostSlot i t k hoff hd) h
theorem Lp.pub {off : Nat} {L : Sl} {H : Hp} {body : Sl → Hp → K3 → Prop} {K : K3} (i : Nat)
    (h : jaK H i fun c => match c with
      | .gone => False
      | .lp _ => False
      | .mp _ => False
      | c => jfG i c L fun L1 => jcM i c H fun H1 => Lp off L1 ((i, .gone) :: H1) body K) : Lp off L H body K := by
  obtain ⟨c, hc, h⟩ := jan h
  split at h
  · exact h.elim
  · exact h.elim
  · exact h.elim
  · rename_i hne hne2 hne3
    have hl : c.cel = true := by
      cases c with
      | gone => exact absurd rfl hne
      | lp p => exact absurd rfl (hne2 p)
      | mp p => exact absurd rfl (hne3 p)
      | _ => rfl
    rw [jeL, jcR] at h
    refine Lp.pre ⟨fun cx E h' a w _ S => ?_⟩ h
    obtain ⟨h1, _, S1, _⟩ := S.publish hc hl
    exact ⟨E, h1, S1⟩
theorem getxn {xs:List Int}{k:Nat}(h:(k:Int)<xs.length):∃ x,xs[k]? = some x∧xs.getD k 0=x:=by
 have h2:k<xs.length:=by omega
 exact⟨xs[k],ji6 h2,by simp[ji3,h2]⟩
end Go.V
end
section
namespace Go.V
open Go Go.RowKit
structure Hold (B:Prop):Prop where
 out:B
theorem sd {A : Prop} (h : A := by
  first
  | exact fun _ h => (by rw [h]; rfl)
  | (intros; (repeat' (first | exact rfl | exact True.intro | exact jiB _ | with_reducible refine And.intro ?_ ?_ | assumption)); done)
  | (intros; (try simp only [V.InR, V.lo, V.hi, decide_eq_true_eq, decide_eq_false_iff_not] at *); omega)
  | (intros; (try simp only [V.InR, V.lo, V.hi, decide_eq_true_eq, decide_eq_false_iff_not, true_and, jji, List.length_nil, ji8, jjq, List.length_replicate, List.length_map, ji9, jjo, jiy, jiA] at *); omega)
  | fail) : A := h
theorem rc {A : Prop} (h : A := by
  first
  | ((conv => whnf); (repeat (first
      | ((with_reducible refine And.intro ?_ ?_); (focus (exact sd)); (conv => whnf))
      | ((with_reducible refine Or.inl (And.intro ?_ ?_)); (focus (exact sd)); (conv => whnf))
      | ((with_reducible refine Or.inr (And.intro ?_ ?_)); (focus (exact sd)); (conv => whnf)))); exact ⟨rfl⟩)
  | fail) : A := h
theorem s1 {A B : Prop} (k : B) (h : Hold B → A := by
  first
  | (intro k
     first
     | ((with_reducible first | refine And.intro ?_ jbD | refine Cnd.y ?_ | refine Cnd.n ?_ | refine Cnd.ny ?_ | refine Cnd.nn ?_); (conv => whnf))
     | ((with_reducible refine jax ?_ ?_); (focus (exact rc)); (conv => whnf))
     | ((with_reducible refine And.intro ?_ ?_); (focus (exact sd)); (conv => whnf))
     | ((with_reducible refine GrdK.yes ?_ ?_); (focus (first | with_reducible assumption | rfl)); (conv => whnf))
     | ((with_reducible refine GrdK.no ?_ ?_); (focus (first | with_reducible assumption | rfl)); (conv => whnf))
     | ((with_reducible refine Cnd.no ?_ ?_); (focus decide); (conv => whnf))
     | ((with_reducible refine Cnd.yes ?_ ?_); (focus decide); (conv => whnf))
     | ((with_reducible refine Or.inl (And.intro ?_ ?_)); (focus (exact sd)); (conv => whnf))
     | ((with_reducible refine Or.inr (And.intro ?_ ?_)); (focus (exact sd)); (conv => whnf))
     exact k.out)
  | fail) : A := h ⟨k⟩
theorem st {A B : Prop} (k : B) (h : Hold B → A := by
  first
  | (intro k
     repeat (first
     | ((with_reducible first | refine And.intro ?_ jbD | refine Cnd.y ?_ | refine Cnd.n ?_ | refine Cnd.ny ?_ | refine Cnd.nn ?_); (conv => whnf))
     | ((with_reducible refine jax ?_ ?_); (focus (exact rc)); (conv => whnf))
     | ((with_reducible refine And.intro ?_ ?_); (focus (exact sd)); (conv => whnf))
     | ((with_reducible refine GrdK.yes ?_ ?_); (focus (first | with_reducible assumption | rfl)); (conv => whnf))
     | ((with_reducible refine GrdK.no ?_ ?_); (focus (first | with_reducible assumption | rfl)); (conv => whnf))
     | ((with_reducible refine Cnd.no ?_ ?_); (focus decide); (conv => whnf))
     | ((with_reducible refine Cnd.yes ?_ ?_); (focus decide); (conv => whnf))
     | ((with_reducible refine Or.inl (And.intro ?_ ?_)); (focus (exact sd)); (conv => whnf))
     | ((with_reducible refine Or.inr (And.intro ?_ ?_)); (focus (exact sd)); (conv => whnf)))
     exact k.out)
  | fail) : A := h ⟨k⟩
theorem wk {off:Nat}{L L':Sl}{H H':Hp}(h1:wkSl L L' L':=by first|((repeat' (first|exact True.intro|exact rfl|(refine And.intro ?_ ?_)));done)|fail)
  (h2:wkHp H H' H':=by first|((repeat' (first|exact True.intro|exact rfl|(refine And.intro ?_ ?_)));done)|fail):Wk off L H L' H':=Wk.of2 h1 h2
end Go.V
end
section
namespace Go.V
open Go Go.RowKit
theorem Wk.pub {off : Nat} {L : Sl} {H : Hp} {L2 : Sl} {H2 : Hp} (i : Nat)
    (h : jaK H i fun c => match c with
      | .gone => False
      | .lp _ => False
      | .mp _ => False
      | c => jfG i c L fun L1 => jcM i c H fun H1 => Wk off L1 ((i, .gone) :: H1) L2 H2) : Wk off L H L2 H2 := by
  obtain ⟨c, hc, h⟩ := jan h
  split at h
  · exact h.elim
  · exact h.elim
  · exact h.elim
  · rename_i hne hne2 hne3
    have hl : c.cel = true := by
      cases c with
      | gone => exact absurd rfl hne
      | lp p => exact absurd rfl (hne2 p)
      | mp p => exact absurd rfl (hne3 p)
      | _ => rfl
    rw [jeL, jcR] at h
    refine ⟨fun cx E h' a w e S => ?_⟩
    obtain ⟨h1, _, S1, _⟩ := S.publish hc hl
    exact h.out cx E h1 a w e S1
end Go.V
end
section
namespace Go.V
open Go Go.RowKit
theorem jbP {P:Program}{tb:Tb}{inl:Inl}{N off:Nat}{a b:Code}{yl:Yl}{x:Bool}{L:Sl}{H:Hp}{K:K3}(L1:Sl)(H1:Hp)
  (h:CondB x (RunC P tb inl N a yl off L H (jn off L1 H1 K)) (RunC P tb inl N b yl off L H (jn off L1 H1 K))) (k:K .normal L1 H1) :
  Cnd off x (RunC P tb inl N a yl off L H) (RunC P tb inl N b yl off L H) K := .join _ _ h k
abbrev tk (l:List Nat)(p:Plan):Plan:=l.foldr Plan.take p
abbrev e1 (j:Nat)(q:List Nat)(p:Plan):Plan := .ev (.cons j q p .nil)
theorem pok {P:Program}{all:List Oper}{ns:List Nd}{p:Plan}(a:P.follows .mixedOrders=true:=by kernel_rfl)(b:textB all=true:=by kernel_rfl)
  (c:planB all (ancs all) ns (List.range all.length) [] p=true:=by kernel_rfl) (d:ns.all (fun nd => !nd.plan.isGo && planB all (ancs all) ns nd.rem nd.pend nd.plan)=true:=by kernel_rfl):PlanOk P all ns p:=⟨a,b,c,d⟩
theorem br {P:Program}{tb:Tb}{inl:Inl}{N off:Nat}{a b:Code}{yl:Yl}{x:Bool}{L:Sl}{H:Hp}{K:K3}
  (h1:x=true→RunC P tb inl N a yl off L H K) (h2:x=false→RunC P tb inl N b yl off L H K):Cnd off x (RunC P tb inl N a yl off L H) (RunC P tb inl N b yl off L H) K:=Cnd.split (CondB.mk h1 h2)
theorem en {P:Program}{tb:Tb}{f:Nat}{fn:Func}{c:Code}{ds:List D}{r:D}(htb:TbOk P tb)(hf:P.funcs[f]? = some fn)(hh:RunF P tb (inlN P tb 6) (fun _ _ _ _ _=>False) fn c ds 0 [] (outK r) noP)
  (hb:fn.body=some c:=by rfl) (hn:(fn.name == "runtime.NumGoroutine")=false:=by rfl) (hl:ds.length≤fn.ntmps:=by exact jis rfl):Called P f ds r:=jgy htb 6 ⟨hf,hb,hn,hl⟩ hh
abbrev sl2 (n:Nat)(l:List D):D := .slf 2 n (fun j=>List.take 2 (List.drop (j*2) l))
theorem a2 {A B:Prop}(a:A)(b:B):A∧B:=⟨a,b⟩
theorem a3 {A B C:Prop}(a:A)(b:B)(c:C):A∧B∧C:=⟨a,b,c⟩
theorem a4 {A B C D:Prop}(a:A)(b:B)(c:C)(d:D):A∧B∧C∧D:=⟨a,b,c,d⟩
theorem a5 {A B C D E:Prop}(a:A)(b:B)(c:C)(d:D)(e:E):A∧B∧C∧D∧E:=⟨a,b,c,d,e⟩
theorem a6 {A B C D E F:Prop}(a:A)(b:B)(c:C)(d:D)(e:E)(f:F):A∧B∧C∧D∧E∧F:=⟨a,b,c,d,e,f⟩
theorem a7 {A B C D E F G:Prop}(a:A)(b:B)(c:C)(d:D)(e:E)(f:F)(g:G):A∧B∧C∧D∧E∧F∧G:=⟨a,b,c,d,e,f,g⟩
theorem a8 {A B C D E F G I:Prop}(a:A)(b:B)(c:C)(d:D)(e:E)(f:F)(g:G)(i:I):A∧B∧C∧D∧E∧F∧G∧I:=⟨a,b,c,d,e,f,g,i⟩
theorem r0 {A B Z : Prop} (z : Z)  (k : B) (h : Hold B → Z → A := by
  first
  | (intro k z
     (conv => whnf)
     (try simp only [z])
     repeat ((first | refine V.s1 ?_); (try simp only [z]))
     exact k.out)
  | fail) : A := h ⟨k⟩ z
theorem d0 {A Z : Prop} (z : Z)  (h : Z → A := by
  first
  | (intro z
     (conv => whnf); (try simp only [z])
     repeat' (first | exact V.wk | exact True.intro | ((with_reducible refine And.intro ?_ jbD); (conv => whnf); (try simp only [z])) | ((with_reducible first | refine jb0 ?_ ?_ | refine jcq ?_ ?_) <;> (conv => whnf); (try simp only [z])) | ((first | refine V.s1 ?_ | ((with_reducible refine jax ?_ ?_); (focus ((conv => whnf); (try simp only [z]); (repeat ((first | refine V.s1 ?_); (try simp only [z]))); exact ⟨rfl⟩)); (conv => whnf))); (try simp only [z])) | (refine And.intro ?_ ?_ <;> (conv => whnf); (try simp only [z]))))
  | fail) : A := h z
theorem r1 {A B Z C1 : Prop} (z : Z) (c1 : C1) (k : B) (h : Hold B → Z → C1 → A := by
  first
  | (intro k z c1
     (conv => whnf)
     (try simp only [z])
     repeat ((first | refine V.s1 ?_ | ((try ((with_reducible refine .ext ?_); (conv => whnf); (try simp only [z]))); (with_reducible refine jaa (r := ?_) ?_ ?_); rotate_left; (focus (first | exact c1 | (apply c1; done))); (conv => whnf))); (try simp only [z]))
     exact k.out)
  | fail) : A := h ⟨k⟩ z c1
theorem d1 {A Z C1 : Prop} (z : Z) (c1 : C1) (h : Z → C1 → A := by
  first
  | (intro z c1
     (conv => whnf); (try simp only [z])
     repeat' (first | exact V.wk | exact True.intro | ((with_reducible refine And.intro ?_ jbD); (conv => whnf); (try simp only [z])) | ((with_reducible first | refine jb0 ?_ ?_ | refine jcq ?_ ?_) <;> (conv => whnf); (try simp only [z])) | ((first | refine V.s1 ?_ | ((with_reducible refine jax ?_ ?_); (focus ((conv => whnf); (try simp only [z]); (repeat ((first | refine V.s1 ?_); (try simp only [z]))); exact ⟨rfl⟩)); (conv => whnf)) | ((try ((with_reducible refine .ext ?_); (conv => whnf); (try simp only [z]))); (with_reducible refine jaa (r := ?_) ?_ ?_); rotate_left; (focus (first | exact c1 | (apply c1; done))); (conv => whnf))); (try simp only [z])) | (refine And.intro ?_ ?_ <;> (conv => whnf); (try simp only [z]))))
  | fail) : A := h z c1
theorem q1 {A B C1 : Prop} (c1 : C1) (k : B) (h : Hold B → C1 → A := by
  first
  | (intro k c1
     repeat ((try ((with_reducible refine .ext ?_); (conv => whnf))); (with_reducible refine jaa (r := ?_) ?_ ?_); rotate_left; (focus (first | exact c1 | (apply c1; done))); (conv => whnf); refine V.st ?_)
     exact k.out)
  | fail) : A := h ⟨k⟩ c1
theorem r2 {A B Z C1 C2 : Prop} (z : Z) (c1 : C1) (c2 : C2) (k : B) (h : Hold B → Z → C1 → C2 → A := by
  first
  | (intro k z c1 c2
     (conv => whnf)
     (try simp only [z])
     repeat ((first | refine V.s1 ?_ | ((try ((with_reducible refine .ext ?_); (conv => whnf); (try simp only [z]))); (with_reducible refine jaa (r := ?_) ?_ ?_); rotate_left; (focus (first | exact c1 | (apply c1; done) | exact c2 | (apply c2; done))); (conv => whnf))); (try simp only [z]))
     exact k.out)
  | fail) : A := h ⟨k⟩ z c1 c2
theorem d2 {A Z C1 C2 : Prop} (z : Z) (c1 : C1) (c2 : C2) (h : Z → C1 → C2 → A := by
  first
  | (intro z c1 c2
     (conv => whnf); (try simp only [z])
     repeat' (first | exact V.wk | exact True.intro | ((with_reducible refine And.intro ?_ jbD); (conv => whnf); (try simp only [z])) | ((with_reducible first | refine jb0 ?_ ?_ | refine jcq ?_ ?_) <;> (conv => whnf); (try simp only [z])) | ((first | refine V.s1 ?_ | ((with_reducible refine jax ?_ ?_); (focus ((conv => whnf); (try simp only [z]); (repeat ((first | refine V.s1 ?_); (try simp only [z]))); exact ⟨rfl⟩)); (conv => whnf)) | ((try ((with_reducible refine .ext ?_); (conv => whnf); (try simp only [z]))); (with_reducible refine jaa (r := ?_) ?_ ?_); rotate_left; (focus (first | exact c1 | (apply c1; done) | exact c2 | (apply c2; done))); (conv => whnf))); (try simp only [z])) | (refine And.intro ?_ ?_ <;> (conv => whnf); (try simp only [z]))))
  | fail) : A := h z c1 c2
theorem q2 {A B C1 C2 : Prop} (c1 : C1) (c2 : C2) (k : B) (h : Hold B → C1 → C2 → A := by
  first
  | (intro k c1 c2
     repeat ((try ((with_reducible refine .ext ?_); (conv => whnf))); (with_reducible refine jaa (r := ?_) ?_ ?_); rotate_left; (focus (first | exact c1 | (apply c1; done) | exact c2 | (apply c2; done))); (conv => whnf); refine V.st ?_)
     exact k.out)
  | fail) : A := h ⟨k⟩ c1 c2
theorem r3 {A B Z C1 C2 C3 : Prop} (z : Z) (c1 : C1) (c2 : C2) (c3 : C3) (k : B) (h : Hold B → Z → C1 → C2 → C3 → A := by
  first
  | (intro k z c1 c2 c3
     (conv => whnf)
     (try simp only [z])
     repeat ((first | refine V.s1 ?_ | ((try ((with_reducible refine .ext ?_); (conv => whnf); (try simp only [z]))); (with_reducible refine jaa (r := ?_) ?_ ?_); rotate_left; (focus (first | exact c1 | (apply c1; done) | exact c2 | (apply c2; done) | exact c3 | (apply c3; done))); (conv => whnf))); (try simp only [z]))
     exact k.out)
  | fail) : A := h ⟨k⟩ z c1 c2 c3
theorem d3 {A Z C1 C2 C3 : Prop} (z : Z) (c1 : C1) (c2 : C2) (c3 : C3) (h : Z → C1 → C2 → C3 → A := by
  first
  | (intro z c1 c2 c3
     (conv => whnf); (try simp only [z])
     repeat' (first | exact V.wk | exact True.intro | ((with_reducible refine And.intro ?_ jbD); (conv => whnf); (try simp only [z])) | ((with_reducible first | refine jb0 ?_ ?_ | refine jcq ?_ ?_) <;> (conv => whnf); (try simp only [z])) | ((first | refine V.s1 ?_ | ((with_reducible refine jax ?_ ?_); (focus ((conv => whnf); (try simp only [z]); (repeat ((first | refine V.s1 ?_); (try simp only [z]))); exact ⟨rfl⟩)); (conv => whnf)) | ((try ((with_reducible refine .ext ?_); (conv => whnf); (try simp only [z]))); (with_reducible refine jaa (r := ?_) ?_ ?_); rotate_left; (focus (first | exact c1 | (apply c1; done) | exact c2 | (apply c2; done) | exact c3 | (apply c3; done))); (conv => whnf))); (try simp only [z])) | (refine And.intro ?_ ?_ <;> (conv => whnf); (try simp only [z]))))
  | fail) : A := h z c1 c2 c3
theorem q3 {A B C1 C2 C3 : Prop} (c1 : C1) (c2 : C2) (c3 : C3) (k : B) (h : Hold B → C1 → C2 → C3 → A := by
  first
  | (intro k c1 c2 c3
     repeat ((try ((with_reducible refine .ext ?_); (conv => whnf))); (with_reducible refine jaa (r := ?_) ?_ ?_); rotate_left; (focus (first | exact c1 | (apply c1; done) | exact c2 | (apply c2; done) | exact c3 | (apply c3; done))); (conv => whnf); refine V.st ?_)
     exact k.out)
  | fail) : A := h ⟨k⟩ c1 c2 c3
theorem r4 {A B Z C1 C2 C3 C4 : Prop} (z : Z) (c1 : C1) (c2 : C2) (c3 : C3) (c4 : C4) (k : B) (h : Hold B → Z → C1 → C2 → C3 → C4 → A := by
  first
  | (intro k z c1 c2 c3 c4
     (conv => whnf)
     (try simp only [z])
     repeat ((first | refine V.s1 ?_ | ((try ((with_reducible refine .ext ?_); (conv => whnf); (try simp only [z]))); (with_reducible refine jaa (r := ?_) ?_ ?_); rotate_left; (focus (first | exact c1 | (apply c1; done) | exact c2 | (apply c2; done) | exact c3 | (apply c3; done) | exact c4 | (apply c4; done))); (conv => whnf))); (try simp only [z]))
     exact k.out)
  | fail) : A := h ⟨k⟩ z c1 c2 c3 c4
theorem d4 {A Z C1 C2 C3 C4 : Prop} (z : Z) (c1 : C1) (c2 : C2) (c3 : C3) (c4 : C4) (h : Z → C1 → C2 → C3 → C4 → A := by
  first
  | (intro z c1 c2 c3 c4
     (conv => whnf); (try simp only [z])
     repeat' (first | exact V.wk | exact True.intro | ((with_reducible refine And.intro ?_ jbD); (conv => whnf); (try simp only [z])) | ((with_reducible first | refine jb0 ?_ ?_ | refine jcq ?_ ?_) <;> (conv => whnf); (try simp only [z])) | ((first | refine V.s1 ?_ | ((with_reducible refine jax ?_ ?_); (focus ((conv => whnf); (try simp only [z]); (repeat ((first | refine V.s1 ?_); (try simp only [z]))); exact ⟨rfl⟩)); (conv => whnf)) | ((try ((with_reducible refine .ext ?_); (conv => whnf); (try simp only [z]))); (with_reducible refine jaa (r := ?_) ?_ ?_); rotate_left; (focus (first | exact c1 | (apply c1; done) | exact c2 | (apply c2; done) | exact c3 | (apply c3; done) | exact c4 | (apply c4; done))); (conv => whnf))); (try simp only [z])) | (refine And.intro ?_ ?_ <;> (conv => whnf); (try simp only [z]))))
  | fail) : A := h z c1 c2 c3 c4
theorem q4 {A B C1 C2 C3 C4 : Prop} (c1 : C1) (c2 : C2) (c3 : C3) (c4 : C4) (k : B) (h : Hold B → C1 → C2 → C3 → C4 → A := by
  first
  | (intro k c1 c2 c3 c4
     repeat ((try ((with_reducible refine .ext ?_); (conv => whnf))); (with_reducible refine jaa (r := ?_) ?_ ?_); rotate_left; (focus (first | exact c1 | (apply c1; done) | exact c2 | (apply c2; done) | exact c3 | (apply c3; done) | exact c4 | (apply c4; done))); (conv => whnf); refine V.st ?_)
     exact k.out)
  | fail) : A := h ⟨k⟩ c1 c2 c3 c4
theorem r5 {A B Z C1 C2 C3 C4 C5 : Prop} (z : Z) (c1 : C1) (c2 : C2) (c3 : C3) (c4 : C4) (c5 : C5) (k : B) (h : Hold B → Z → C1 → C2 → C3 → C4 → C5 → A := by
  first
  | (intro k z c1 c2 c3 c4 c5
     (conv => whnf)
     (try simp only [z])
     repeat ((first | refine V.s1 ?_ | ((try ((with_reducible refine .ext ?_); (conv => whnf); (try simp only [z]))); (with_reducible refine jaa (r := ?_) ?_ ?_); rotate_left; (focus (first | exact c1 | (apply c1; done) | exact c2 | (apply c2; done) | exact c3 | (apply c3; done) | exact c4 | (apply c4; done) | exact c5 | (apply c5; done))); (conv => whnf))); (try simp only [z]))
     exact k.out)
  | fail) : A := h ⟨k⟩ z c1 c2 c3 c4 c5
theorem d5 {A Z C1 C2 C3 C4 C5 : Prop} (z : Z) (c1 : C1) (c2 : C2) (c3 : C3) (c4 : C4) (c5 : C5) (h : Z → C1 → C2 → C3 → C4 → C5 → A := by
  first
  | (intro z c1 c2 c3 c4 c5
     (conv => whnf); (try simp only [z])
     repeat' (first | exact V.wk | exact True.intro | ((with_reducible refine And.intro ?_ jbD); (conv => whnf); (try simp only [z])) | ((with_reducible first | refine jb0 ?_ ?_ | refine jcq ?_ ?_) <;> (conv => whnf); (try simp only [z])) | ((first | refine V.s1 ?_ | ((with_reducible refine jax ?_ ?_); (focus ((conv => whnf); (try simp only [z]); (repeat ((first | refine V.s1 ?_); (try simp only [z]))); exact ⟨rfl⟩)); (conv => whnf)) | ((try ((with_reducible refine .ext ?_); (conv => whnf); (try simp only [z]))); (with_reducible refine jaa (r := ?_) ?_ ?_); rotate_left; (focus (first | exact c1 | (apply c1; done) | exact c2 | (apply c2; done) | exact c3 | (apply c3; done) | exact c4 | (apply c4; done) | exact c5 | (apply c5; done))); (conv => whnf))); (try simp only [z])) | (refine And.intro ?_ ?_ <;> (conv => whnf); (try simp only [z]))))
  | fail) : A := h z c1 c2 c3 c4 c5
theorem q5 {A B C1 C2 C3 C4 C5 : Prop} (c1 : C1) (c2 : C2) (c3 : C3) (c4 : C4) (c5 : C5) (k : B) (h : Hold B → C1 → C2 → C3 → C4 → C5 → A := by
  first
  | (intro k c1 c2 c3 c4 c5
     repeat ((try ((with_reducible refine .ext ?_); (conv => whnf))); (with_reducible refine jaa (r := ?_) ?_ ?_); rotate_left; (focus (first | exact c1 | (apply c1; done) | exact c2 | (apply c2; done) | exact c3 | (apply c3; done) | exact c4 | (apply c4; done) | exact c5 | (apply c5; done))); (conv => whnf); refine V.st ?_)
     exact k.out)
  | fail) : A := h ⟨k⟩ c1 c2 c3 c4 c5
theorem r6 {A B Z C1 C2 C3 C4 C5 C6 : Prop} (z : Z) (c1 : C1) (c2 : C2) (c3 : C3) (c4 : C4) (c5 : C5) (c6 : C6) (k : B) (h : Hold B → Z → C1 → C2 → C3 → C4 → C5 → C6 → A := by
  first
  | (intro k z c1 c2 c3 c4 c5 c6
     (conv => whnf)
     (try simp only [z])
     repeat ((first | refine V.s1 ?_ | ((try ((with_reducible refine .ext ?_); (conv => whnf); (try simp only [z]))); (with_reducible refine jaa (r := ?_) ?_ ?_); rotate_left; (focus (first | exact c1 | (apply c1; done) | exact c2 | (apply c2; done) | exact c3 | (apply c3; done) | exact c4 | (apply c4; done) | exact c5 | (apply c5; done) | exact c6 | (apply c6; done))); (conv => whnf))); (try simp only [z]))
     exact k.out)
  | fail) : A := h ⟨k⟩ z c1 c2 c3 c4 c5 c6
theorem r7 {A B Z C1 C2 C3 C4 C5 C6 C7 : Prop} (z : Z) (c1 : C1) (c2 : C2) (c3 : C3) (c4 : C4) (c5 : C5) (c6 : C6) (c7 : C7) (k : B) (h : Hold B → Z → C1 → C2 → C3 → C4 → C5 → C6 → C7 → A := by
  first
  | (intro k z c1 c2 c3 c4 c5 c6 c7
     (conv => whnf)
     (try simp only [z])
     repeat ((first | refine V.s1 ?_ | ((try ((with_reducible refine .ext ?_); (conv => whnf); (try simp only [z]))); (with_reducible refine jaa (r := ?_) ?_ ?_); rotate_left; (focus (first | exact c1 | (apply c1; done) | exact c2 | (apply c2; done) | exact c3 | (apply c3; done) | exact c4 | (apply c4; done) | exact c5 | (apply c5; done) | exact c6 | (apply c6; done) | exact c7 | (apply c7; done))); (conv => whnf))); (try simp only [z]))
     exact k.out)
  | fail) : A := h ⟨k⟩ z c1 c2 c3 c4 c5 c6 c7
theorem r8 {A B Z C1 C2 C3 C4 C5 C6 C7 C8 : Prop} (z : Z) (c1 : C1) (c2 : C2) (c3 : C3) (c4 : C4) (c5 : C5) (c6 : C6) (c7 : C7) (c8 : C8) (k : B) (h : Hold B → Z → C1 → C2 → C3 → C4 → C5 → C6 → C7 → C8 → A := by
  first
  | (intro k z c1 c2 c3 c4 c5 c6 c7 c8
     (conv => whnf)
     (try simp only [z])
     repeat ((first | refine V.s1 ?_ | ((try ((with_reducible refine .ext ?_); (conv => whnf); (try simp only [z]))); (with_reducible refine jaa (r := ?_) ?_ ?_); rotate_left; (focus (first | exact c1 | (apply c1; done) | exact c2 | (apply c2; done) | exact c3 | (apply c3; done) | exact c4 | (apply c4; done) | exact c5 | (apply c5; done) | exact c6 | (apply c6; done) | exact c7 | (apply c7; done) | exact c8 | (apply c8; done))); (conv => whnf))); (try simp only [z]))
     exact k.out)
  | fail) : A := h ⟨k⟩ z c1 c2 c3 c4 c5 c6 c7 c8
end Go.V
end
section
open Go Go.RowKit
namespace Go.V
def pubOf (w:World):Pub:=fun b o=>w.cell? ⟨b,o,none⟩
theorem jfn (w:World)(hg:GlW w):Agree (pubOf w) w:=⟨fun _ _ _ e=>e,fun g vs h i v hv=>by
 obtain⟨_,T,f,h2⟩:=hg.1 g vs h
 unfold pubOf
 rw[cell_of_row w g i _ T f h2]
 simpa using hv,hg,fun g h=>by
 obtain⟨tp,p,T,f,h2⟩:=hg.2 g h
 exact⟨.iface tp p,by unfold pubOf;rw[cell_of_row w g 0 _ T f h2];rfl⟩⟩
theorem Called.walk {P:Program}{f:Nat}{ds:List D}(c:Called P f ds (.bool true))(w:World){vs:List Value}(hd:DenL Env.dummy (pubOf w) ds vs)(hg:GlW w:=by first|exact⟨fun _ _ h=>absurd h jjr,fun _ h=>absurd h jjr⟩|fail) :
  Calls P f vs.toArray w fun e w'=>e = .returned (.bool true)∧Below w.heap.size w w':=by
 refine(c.call (pubOf w) w vs (jfn w hg) hd).mono fun e w' ⟨v,h',he,hv,_,_,hb,_⟩=>?_
 simp only[Den] at hv
 subst hv
 exact⟨he,hb⟩
end Go.V
end
section
open Go Go.RowKit
namespace Go.V
inductive L0 where
  | bool
  | int (k : IntKind)
  | str
def l0Ok:L0→Value→Prop
 | .bool,v => ∃ b,v = .bool b
 | .int k,v => ∃ n,v = .int k n∧InR k n
 | .str,v => ∃ s:List UInt8,v = .string ⟨s.toArray⟩∧s.length≤281474976710656
def l0sOk:List L0→List Value→Prop
 | [],vs=>vs=[]
 | l::ls,vs => ∃ v vs',vs=v::vs'∧l0Ok l v∧l0sOk ls vs'
def l0D:L0→D→Prop
 | .bool,d => ∃ b,d = .bool b
 | .int k,d => ∃ n,d = .int k n∧InR k n
 | .str,d => ∃ s:List UInt8,d = .str s∧s.length≤281474976710656
def l0sD:List L0→List D→Prop
 | [],ds=>ds=[]
 | l::ls,ds => ∃ d ds',ds=d::ds'∧l0D l d∧l0sD ls ds'
theorem l0s_den {h:Pub} : ∀ {ls:List L0} {vs:List Value},l0sOk ls vs → ∃ ds,DenL Env.dummy h ds vs∧l0sD ls ds∧(∀ v∈vs,v.oneCell'=true)∧vs.length=ls.length
 | [],vs,H=>⟨[],by simp only[l0sOk] at H;subst H;exact⟨rfl,rfl,fun v hv=>by simp at hv,rfl⟩⟩
 | l::ls,vs,⟨v,vs',e,h1,h2⟩=>by
  subst e
  obtain⟨ds,k1,k2,k3,k4⟩:=l0s_den h2
  have:∃ d,Den Env.dummy h d v∧l0D l d∧v.oneCell'=true:=by
   cases l with
   | bool=>obtain⟨b,rfl⟩:=h1;exact⟨.bool b,rfl,⟨b,rfl⟩,rfl⟩
   | int k=>obtain⟨n,rfl,hn⟩:=h1;exact⟨.int k n,⟨rfl,hn⟩,⟨n,rfl,hn⟩,rfl⟩
   | str=>obtain⟨s,rfl,hs⟩:=h1;exact⟨.str s,⟨rfl,hs⟩,⟨s,rfl,hs⟩,rfl⟩
  obtain⟨d,j1,j2,j3⟩:=this
  exact⟨d::ds,⟨v,vs',rfl,j1,k1⟩,⟨d,ds,rfl,j2,k2⟩,fun u hu=>by
   rcases ji5.1 hu with rfl|hu
   ·exact j3
   ·exact k3 u hu,by simp[k4]⟩
inductive Lf where
  | bool
  | int (k : IntKind)
  | ints (k : IntKind)
  | str
  | recs (ls : List L0)
def leafOk (w:World):Lf→Value→Prop
 | .bool,v => ∃ b,v = .bool b
 | .int k,v => ∃ n,v = .int k n∧InR k n
 | .ints k,v => ∃ zs,jaJ (pubOf w) k zs v
 | .str,v => ∃ s:List UInt8,v = .string ⟨s.toArray⟩∧s.length≤281474976710656
 | .recs ls,v => ∃ n f,Den Env.dummy (pubOf w) (.slf ls.length n f) v∧n≤140737488355328 ∧ ∀ j,j<n→l0sD ls (f j)
def Lf.l0:Lf→Option L0
 | .bool=>some .bool
 | .int k=>some (.int k)
 | .str=>some .str
 | _=>none
def lf0s:List Lf→Option (List L0)
 | []=>some []
 | l::ls=>match l.l0,lf0s ls with|some x,some xs=>some (x::xs)|_,_=>none
def leavesOk (w:World):List Lf→List Value→Prop
 | [],vs=>vs=[]
 | l::ls,vs => ∃ v vs',vs=v::vs'∧leafOk w l v∧leavesOk w ls vs'
theorem leavesOk.app {w:World} : ∀ {a b:List Lf} {xs ys:List Value},leavesOk w a xs→leavesOk w b ys→leavesOk w (a++b) (xs++ys)
 | [],_,_,_,h,k=>by simp only[leavesOk] at h;subst h;exact k
 | _::a,b,_,ys,⟨v,vs',rfl,h1,h2⟩,k=>⟨v,vs'++ys,rfl,h1,leavesOk.app h2 k⟩
theorem l0s_of {w:World} : ∀ {ls:List Lf} {l0:List L0} {vs:List Value},lf0s ls=some l0→leavesOk w ls vs→l0sOk l0 vs
 | [],l0,vs,h,H=>by cases h;exact H
 | l::ls,l0,vs,h,⟨v,vs',e,h1,h2⟩=>by
  unfold lf0s at h
  split at h
  ·rename_i x xs e1 e2
   cases h
   refine⟨v,vs',e,?_,l0s_of e2 h2⟩
   cases l<;>cases e1<;>exact h1
  ·cases h
def rep (l:List Lf):Nat→List Lf
 | 0=>[]
 | n+1=>l++rep l n
def jcV (P:Program)(g:TypeId→Option (List Lf)):List Field→Nat→Option (List Lf)
 | [],_=>some []
 | fd::fds,off=>if fd.offset=off then (g fd.type).bind fun l=>if P.cellsOf fd.type=l.length then (jcV P g fds (off+l.length)).map (l ++ ·) else none else none
def leaf0 (P:Program)(t:TypeId):Option (List Lf):=match P.underlying t with
 | some .bool=>some [.bool]
 | some (.int k)=>some [.int k]
 | some .string=>some [.str]
 | _=>none
def leaves (P:Program):Nat→TypeId→Option (List Lf)
 | 0,_=>none
 | f+1,t=>match P.underlying t with
  | some .bool=>some [.bool]
  | some (.int k)=>some [.int k]
  | some .string=>some [.str]
  | some (.slice e)=>match P.underlying e with
   | some (.int k)=>if P.cellsOf e=1∧1≤P.bytesOf e then some [.ints k] else none
   | some (.struct fs)=>match jcV P (leaf0 P) fs.toList 0 with
    | some l=>match lf0s l with
     | some l0=>if P.cellsOf e=l.length∧1≤P.bytesOf e then some [.recs l0] else none
     | none=>none
    | none=>none
   | _=>none
  | some (.struct fs)=>(jcV P (leaves P f) fs.toList 0).bind fun l=>if P.cellsOf t=l.length then some l else none
  | some (.array n e)=>(leaves P f e).bind fun l=>if P.cellsOf e=l.length∧P.cellsOf t=(rep l n).length then some (rep l n) else none
  | _=>none
def jfo (v:Value):Prop := ∀ a len cap,v = .slice (some a) len cap→a.spot=none
theorem jdb {P : Program} {w : World} {r : Reach} {base : Nat} {t : TypeId} {v : Value} (h : Cell.okWide P w r base t v) : jfo v := by
  intro a len cap e
  subst e
  unfold Cell.okWide at h
  split at h
  all_goals first
    | (rename_i h1; simp at h1; done)
    | skip
  unfold Cell.ok at h
  split at h <;> simp_all [World.has]
theorem spotOk_of {P : Program} {w : World} {r : Reach} {base : Nat} {t : TypeId} {v : Value} (h : Value.okWide P w r base t v) : ∀ c ∈ v.cells.toList, jfo c := by
  unfold Value.okWide at h
  split at h
  · obtain ⟨cs, rfl, _, ts, _, _, h3⟩ := h
    intro c hc
    obtain ⟨i, hi, rfl⟩ := List.mem_iff_getElem.1 hc
    obtain ⟨u, _, hu⟩ := h3 i _ (by simp only [Value.cells] at hi ⊢; exact Array.getElem?_eq_getElem (by simpa using hi))
    exact jdb hu
  · obtain ⟨cs, rfl, _, ts, _, _, h3⟩ := h
    intro c hc
    obtain ⟨i, hi, rfl⟩ := List.mem_iff_getElem.1 hc
    obtain ⟨u, _, hu⟩ := h3 i _ (by simp only [Value.cells] at hi ⊢; exact Array.getElem?_eq_getElem (by simpa using hi))
    exact jdb hu
  · intro c hc
    have : c = v ∨ ∃ cs, v = .agg cs := by
      cases v <;> simp_all [Value.cells]
    rcases this with rfl | ⟨cs, rfl⟩
    · exact jdb h
    · exfalso
      unfold Cell.okWide at h
      split at h
      all_goals first
        | (rename_i h1; simp at h1; done)
        | skip
      unfold Cell.ok at h
      split at h <;> simp_all
section
variable {H : Type} {enc : TypeId × Value → H} {P : Program} {w : World} {base : Nat} {spare : Nat → Bool} {held : Bool}
theorem inR_wf {k:IntKind}{n:Int}(h:(Lit.int k n).wf=true):InR k n:=by
 cases k<;>simp[Lit.wf,IntKind.min,IntKind.max,IntKind.signed,IntKind.bits] at h<;>simp[InR,lo,hi]<;>omega
theorem leaf_ints {t e:TypeId}{k:IntKind}{fuel:Nat}{cs:List Value}{x:DataW H×List MemPlace}(ht:P.underlying t=some (.slice e))(he:P.underlying e=some (.int k))(hc:P.cellsOf e=1)(hb:1≤P.bytesOf e)
  (h:DataW.trod enc P w base spare held fuel t cs=some x) (hz:(x.1.weights P t).all (· ≤ reachBytes)=true) (hs:∀ v∈cs,jfo v):leavesOk w [.ints k] cs:=by
 rcases Go.ChangeShapes.open_ints ht he hc h with⟨rfl,_⟩|⟨a,len,cap,zs,rfl,_,hl,hm,hzl,rfl,hcell,hwf⟩
 ·exact⟨_,[],rfl,⟨[],none,0,rfl,jiB _,by decide,by simp,rfl,rfl⟩,rfl⟩
 ·have hsp:a.spot=none:=hs _ (by simp) a len cap rfl
  have hlz:len≤zs.length:=by rw[hzl];split<;>omega
  have hw:zs.length≤reachBytes:=by
   simp only[DataW.weights,ht,List.all_cons,jir,decide_eq_true_eq,ChangeShapes.lits,List.length_map,ji9,jjo] at hz
   have h1:=hz.1
   have e1:min len zs.length+(zs.length-len)=zs.length:=by omega
   rw[e1] at h1
   exact jiC (Nat.le_mul_of_pos_right _ hb) h1
  have hr:reachBytes≤281474976710656:=by decide
  have htl:(zs.take len).length=len:=by rw[ji9];omega
  refine⟨_,[],rfl,⟨zs.take len,some a,cap,by rw[htl],by omega,by omega,fun n hn=>inR_wf (hwf n (jjf hn)),hsp,fun i n hi=>?_⟩,rfl⟩
  have hi2:i<len:=by
   have:=(jjd.1 hi).1
   omega
  have hg:zs[i]? = some n:=by rw[← hi,List.getElem?_take_of_lt hi2]
  have:=hcell i (by omega)
  rw[ji3,hg] at this
  have ea:a.add i=⟨a.block,a.off+i,none⟩:=by
   obtain⟨b,o,s⟩:=a
   subst hsp
   unfold Addr.add
   split
   ·rename_i h0
    subst h0
    rfl
   ·rfl
  rw[ea] at this
  exact this
theorem jfM {g:TypeId→Option (List Lf)}{n:Nat}{cs:List Value}{S:Value→Prop}
  (ih:∀ (t:TypeId) (ls:List Lf) (cs:List Value) (x:DataW H×List MemPlace),g t=some ls→DataW.trod enc P w base spare held n t cs=some x→(x.1.weights P t).all (· ≤ reachBytes)=true→(∀ v∈cs,S v)→leavesOk w ls cs)
  (hs:∀ v∈cs,S v) :
  ∀ (fds:List Field) (off:Nat) (ls:List Lf) (xs:List (DataW H×List MemPlace)),jcV P g fds off=some ls→xs.length=fds.length →
   (∀ (i:Nat) (f:Field),fds[i]? = some f→DataW.trod enc P w base spare held n f.type ((cs.drop f.offset).take (P.cellsOf f.type))=xs[i]?) →
   (DataW.weightsEach P (fds.map (·.type)) (xs.map (·.1))).all (· ≤ reachBytes)=true→leavesOk w ls ((cs.drop off).take ls.length):=by
 intro fds
 induction fds with
 | nil=>
  intro off ls xs h _ _ _
  simp only[jcV,Option.some.injEq] at h
  subst h
  rfl
 | cons fd fds ihf=>
  intro off ls xs h hl hx hz
  cases xs with
  | nil=>simp at hl
  | cons x xs=>
   simp only[jcV] at h
   split at h
   case isFalse=>cases h
   case isTrue ho=>
    cases hg:g fd.type with
    | none=>rw[hg] at h;cases h
    | some l=>
     rw[hg] at h
     simp only[Option.bind_some] at h
     split at h
     case isFalse=>cases h
     case isTrue hc=>
      obtain⟨r,hr,rfl⟩:=Option.map_eq_some_iff.1 h
      simp only[List.map_cons,DataW.weightsEach,List.all_append,jir] at hz
      have h1:=ih _ _ _ _ hg (hx 0 fd rfl) hz.1 (fun v hv=>hs v (jje (jjf hv)))
      have h2:=ihf (off+l.length) r xs hr (by simpa using hl) (fun i f hf=>hx (i+1) f hf) hz.2
      rw[hc,ho] at h1
      rw[ji8,List.take_add,List.drop_drop]
      exact h1.app h2
theorem leaf0_ok {n:Nat}{t:TypeId}{ls:List Lf}{cs:List Value}{x:DataW H×List MemPlace}(h:leaf0 P t=some ls)(hd:DataW.trod enc P w base spare held n t cs=some x)
  (hz:(x.1.weights P t).all (· ≤ reachBytes)=true):leavesOk w ls cs:=by
 unfold leaf0 at h
 split at h
 ·rename_i ht
  cases h
  obtain⟨b,rfl,_⟩:=DataW.trod_bool ht hd
  exact⟨_,[],rfl,⟨b,rfl⟩,rfl⟩
 ·rename_i k ht
  cases h
  obtain⟨n,rfl,_,hwf⟩:=DataW.trod_int ht hd
  exact⟨_,[],rfl,⟨n,rfl,inR_wf hwf⟩,rfl⟩
 ·rename_i ht
  cases h
  obtain⟨s,rfl,hx,hwf⟩:=DataW.trod_string ht hd
  subst hx
  have hr:reachBytes≤281474976710656:=by decide
  refine⟨_,[],rfl,⟨s.data.toList,rfl,?_⟩,rfl⟩
  simp only[DataW.weights,ht,List.all_cons,List.all_nil,Bool.and_true,decide_eq_true_eq] at hz
  omega
 ·cases h
theorem jdm {e:TypeId} : ∀ {l:List (DataW H)} {i:Nat} {y:DataW H},(DataW.weightsAll P e l).all (· ≤ reachBytes)=true→l[i]? = some y→(y.weights P e).all (· ≤ reachBytes)=true
 | [],_,_,_,h=>by simp at h
 | x::l,0,y,hz,h=>by
  simp only[DataW.weightsAll,List.all_append,jir] at hz
  simp at h;subst h;exact hz.1
 | x::l,i+1,y,hz,h=>by
  simp only[DataW.weightsAll,List.all_append,jir] at hz
  exact jdm hz.2 (by simpa using h)
theorem leaf_recs {t e:TypeId}{fs:Array Field}{l:List Lf}{l0:List L0}{fuel:Nat}{cs:List Value}{x:DataW H×List MemPlace}(ht:P.underlying t=some (.slice e))(he:P.underlying e=some (.struct fs))
  (hl:jcV P (leaf0 P) fs.toList 0=some l) (h0:lf0s l=some l0) (hc:P.cellsOf e=l.length) (hb:1≤P.bytesOf e)
  (h:DataW.trod enc P w base spare held fuel t cs=some x) (hz:(x.1.weights P t).all (· ≤ reachBytes)=true) (hs:∀ v∈cs,jfo v):leavesOk w [.recs l0] cs:=by
 rcases DataW.trod_slice ht h with⟨rfl,_⟩|⟨a,len,cap,elems,rest,n,_,rfl,rfl,_,hle,hm,hlen,hel,_⟩
 ·exact⟨_,[],rfl,⟨0,fun _=>[],⟨none,0,rfl,jiB _,by decide,rfl,rfl⟩,by decide,fun j hj=>absurd hj (Nat.not_lt_zero _)⟩,rfl⟩
 ·have hsp:a.spot=none:=hs _ (by simp) a len cap rfl
  simp only[DataW.weights,ht,List.all_cons,List.all_append,jir,decide_eq_true_eq,List.length_map] at hz
  have hw:len≤140737488355328:=by
   have h1:=hz.1
   have h2:elems.length+rest.length≤(elems.length+rest.length)*P.bytesOf e:=Nat.le_mul_of_pos_right _ hb
   have hr:reachBytes≤140737488355328:=by decide
   omega
  have hll:l0.length=l.length:=by
   clear hl hc
   induction l generalizing l0 with
   | nil=>cases h0;rfl
   | cons y l ihl=>
    unfold lf0s at h0
    split at h0
    ·rename_i x xs e1 e2
     cases h0
     simp[ihl e2]
    ·cases h0
  have each:∀ j,j<len → ∃ ds:List D,(∃ vs,DenL Env.dummy (pubOf w) ds vs∧vs.length=l0.length∧(∀ v∈vs,v.oneCell'=true) ∧ ∀ (i:Nat) v,vs[i]? = some v→pubOf w a.block (a.off+j*l0.length+i)=some v)∧l0sD l0 ds:=by
   intro j hj
   have hej:=hel j hj
   have hy:elems[j]? = some (elems[j]'(by omega)):=ji6 (by omega)
   rw[hy,Option.bind_eq_some_iff] at hej
   obtain⟨cs',hcs,hd⟩:=hej
   obtain⟨_,hcl,hce⟩:=World.cells?_some hcs
   have hwy:=jdm (l:=elems.map (·.1)) (i:=j) hz.2.1 (by rw[List.getElem?_map,hy];rfl)
   obtain⟨xs,m,_,hx,hcl2,hxl,hxf⟩:=DataW.trod_struct he hd
   rw[hx] at hwy
   simp only[DataW.weights,he] at hwy
   have lv:=jfM (P:=P) (enc:=enc) (base:=base) (spare:=spare) (held:=held) (n:=m) (S:=fun _=>True) (fun t ls cs x h1 h2 h3 _=>leaf0_ok h1 h2 h3) (fun _ _=>trivial) fs.toList 0 _ xs hl (by simpa using hxl) (fun i f hf=>hxf i f (by simpa using hf)) hwy
   rw[List.drop_zero,jjl (by omega)] at lv
   obtain⟨ds,k1,k2,k3,k4⟩:=l0s_den (h:=pubOf w) (l0s_of h0 lv)
   refine⟨ds,⟨cs',k1,k4,k3,fun i v hv=>?_⟩,k2⟩
   have hi:i<P.cellsOf e:=by
    have:=(jjd.1 hv).1
    omega
   have hcell:=hce i hi
   rw[hv] at hcell
   have ea:(a.add (j*P.cellsOf e)).add i=⟨a.block,a.off+j*l0.length+i,none⟩:=by
    obtain⟨b,o,s⟩:=a
    subst hsp
    rw[hc,← hll]
    unfold Addr.add
    simp only[]
    by_cases hz0:j*l0.length=0
    ·rw[if_pos hz0]
     by_cases hi0:i=0
     ·simp[hz0,hi0]
     ·simp[hz0,hi0]
    ·rw[if_neg hz0]
     by_cases hi0:i=0
     ·simp[hi0]
     ·simp[hi0]
   rw[ea] at hcell
   exact hcell
  classical
  refine⟨_,[],rfl,⟨len,fun j=>if h:j<len then (each j h).choose else [],?_,hw,fun j hj=>?_⟩,rfl⟩
  ·refine⟨some a,cap,rfl,hle,by omega,hsp,fun j hj=>?_⟩
   show ∃ vs,DenL Env.dummy (pubOf w) (if h:j<len then (each j h).choose else []) vs∧_
   rw[dif_pos hj]
   exact(each j hj).choose_spec.1
  ·show l0sD l0 (if h:j<len then (each j h).choose else [])
   rw[dif_pos hj]
   exact(each j hj).choose_spec.2
theorem leavesA_ok {l:List Lf}{e:TypeId}{n:Nat}{cs:List Value}
  (ih:∀ (cs:List Value) (x:DataW H×List MemPlace),DataW.trod enc P w base spare held n e cs=some x→(x.1.weights P e).all (· ≤ reachBytes)=true→(∀ v∈cs,jfo v)→leavesOk w l cs)
  (hs:∀ v∈cs,jfo v) :
  ∀ (m off:Nat) (xs:List (DataW H×List MemPlace)),xs.length=m →
   (∀ (i:Nat),i<m→DataW.trod enc P w base spare held n e ((cs.drop (off+i*l.length)).take l.length)=xs[i]?) →
   (DataW.weightsAll P e (xs.map (·.1))).all (· ≤ reachBytes)=true→leavesOk w (rep l m) ((cs.drop off).take (rep l m).length):=by
 intro m
 induction m with
 | zero=>intro off xs _ _ _;rfl
 | succ m ihm=>
  intro off xs hl hx hz
  cases xs with
  | nil=>simp at hl
  | cons x xs=>
   simp only[List.map_cons,DataW.weightsAll,List.all_append,jir] at hz
   have h1:=ih _ _ (hx 0 (by omega)) hz.1 (fun v hv=>hs v (jje (jjf hv)))
   have h2:=ihm (off+l.length) xs (by simpa using hl) (fun i hi=>by
    have:=hx (i+1) (by omega)
    rw[Nat.add_mul,Nat.one_mul,Nat.add_comm (i*l.length),← Nat.add_assoc] at this
    exact this) hz.2
   rw[Nat.zero_mul,jiz] at h1
   rw[rep,ji8,List.take_add,List.drop_drop]
   exact h1.app h2
theorem leaves_ok:∀ (f:Nat) (n:Nat) (t:TypeId) (ls:List Lf) (cs:List Value) (x:DataW H×List MemPlace),leaves P f t=some ls→DataW.trod enc P w base spare held n t cs=some x →
  (x.1.weights P t).all (· ≤ reachBytes)=true→(∀ v∈cs,jfo v)→leavesOk w ls cs:=by
 intro f
 induction f with
 | zero=>intro n t ls cs x h;simp[leaves] at h
 | succ f ih=>
  intro n t ls cs x h hd hz hs
  unfold leaves at h
  split at h
  ·rename_i ht
   cases h
   obtain⟨b,rfl,_⟩:=DataW.trod_bool ht hd
   exact⟨_,[],rfl,⟨b,rfl⟩,rfl⟩
  ·rename_i k ht
   cases h
   obtain⟨n,rfl,_,hwf⟩:=DataW.trod_int ht hd
   exact⟨_,[],rfl,⟨n,rfl,inR_wf hwf⟩,rfl⟩
  ·rename_i ht
   cases h
   obtain⟨s,rfl,hx,hwf⟩:=DataW.trod_string ht hd
   subst hx
   have hr:reachBytes≤281474976710656:=by decide
   refine⟨_,[],rfl,⟨s.data.toList,rfl,?_⟩,rfl⟩
   simp only[DataW.weights,ht,List.all_cons,List.all_nil,Bool.and_true,decide_eq_true_eq] at hz
   omega
  ·rename_i e ht
   split at h
   ·rename_i k he
    split at h
    ·rename_i hc
     cases h
     exact leaf_ints ht he hc.1 hc.2 hd hz hs
    ·cases h
   ·rename_i fs he
    split at h
    ·rename_i l hl
     split at h
     ·rename_i l0 h0
      split at h
      ·rename_i hc
       cases h
       exact leaf_recs ht he hl h0 hc.1 hc.2 hd hz hs
      ·cases h
     ·cases h
    ·cases h
   ·cases h
  ·rename_i fs ht
   cases hg:jcV P (leaves P f) fs.toList 0 with
   | none=>rw[hg] at h;cases h
   | some l=>
    rw[hg] at h
    simp only[Option.bind_some] at h
    split at h
    case isFalse=>cases h
    case isTrue hc=>
     cases h
     obtain⟨xs,m,_,rfl,hcl,hxl,hx⟩:=DataW.trod_struct ht hd
     simp only[DataW.weights,ht] at hz
     have:=jfM (P:=P) (enc:=enc) (base:=base) (spare:=spare) (held:=held) (n:=m) (fun t ls cs x h1 h2 h3 h4=>ih m t ls cs x h1 h2 h3 h4) hs fs.toList 0 _ xs hg (by simpa using hxl) (fun i f hf=>hx i f (by simpa using hf)) hz
     rw[List.drop_zero,jjl (by omega)] at this
     exact this
  ·rename_i m e ht
   cases hg:leaves P f e with
   | none=>rw[hg] at h;cases h
   | some l=>
    rw[hg] at h
    simp only[Option.bind_some] at h
    split at h
    case isFalse=>cases h
    case isTrue hc=>
     cases h
     obtain⟨xs,m',_,rfl,hcl,hxl,hx⟩:=DataW.trod_array ht hd
     simp only[DataW.weights,ht] at hz
     have:=leavesA_ok (P:=P) (enc:=enc) (base:=base) (spare:=spare) (held:=held) (n:=m') (fun cs x h2 h3 h4=>ih m' e l cs x hg h2 h3 h4) hs m 0 xs hxl (fun i hi=>by
      have:=hx i hi
      rw[hc.1] at this
      rw[jiy]
      exact this) hz
     rw[List.drop_zero,jjl (by omega)] at this
     exact this
  ·cases h
theorem read_arg {r:Reach}{b0 f:Nat}{t:TypeId}{v:Value}{d:DataW H}{ps:List MemPlace}{ls:List Lf}(hl:leaves P f t=some ls)(hv:Value.okWide P w r b0 t v)(hd:DataW.Trod enc P w base spare held t v d ps)
  (hz:(d.weights P t).all (· ≤ reachBytes)=true):leavesOk w ls v.cells.toList:=by
 obtain⟨n,hn⟩:=hd
 exact leaves_ok f n t ls _ _ hl hn hz (spotOk_of hv)
end
def jA (P:Program)(f:FuncId)(fn:Func)(s:ChangeSpec)(c:OpenClaim):Bool:=c.wf (OpenSpec.ofChange s) && laidOutB P && mapsRowed P && fn.params.all (P.readableRec ·) && namedTie P c.named s.vars && (c.stops == []) && (P.stops == []) && (c.knobs == []) && (P.stopKnobs == [])
def jB (P:Program)(f:FuncId)(fn:Func)(s:ChangeSpec)(c:OpenClaim):Bool:=(c.inPlace == P.inPlace f)
def jC (P:Program)(f:FuncId)(fn:Func)(s:ChangeSpec)(c:OpenClaim):Bool:=(c.unfollowed == P.unfollowed f)
def jD (P:Program)(f:FuncId)(fn:Func)(s:ChangeSpec)(c:OpenClaim):Bool:=(c.recurses == P.recurses f)
def jE (P:Program)(f:FuncId)(fn:Func)(s:ChangeSpec)(c:OpenClaim):Bool:=(c.named == P.varsNamed f)
def jF (P:Program)(f:FuncId)(fn:Func)(s:ChangeSpec)(c:OpenClaim):Bool:=(c.maps == (fn.params.toList++s.plain.varTypes P).any (P.mapsRec ·)) && (c.ifaces == (fn.params.toList++s.plain.varTypes P).any (P.ifacesRec ·)) && (c.mapsOut == P.mapsAmong fn.resultTypes.toList) && (c.loops == (fn.params.toList++s.plain.varTypes P).any (P.loopsFrom ·)) && (c.wideKeys == (fn.params.toList++s.plain.varTypes P++fn.resultTypes.toList).any (P.wideKeysFrom ·)) && s.vars.all (P.varReadable ·) && fn.resultTypes.all (fun t=>P.readableRec t && decide (t<P.types.size)) && (c.ifacesOut == fn.resultTypes.toList.any (P.ifacesRec ·)) && (c.loopsOut == fn.resultTypes.toList.any (P.loopsFrom ·)) && (c.plainKeys == P.plainKeys) && c.shortTexts.isNone && P.stopsHeard && P.mayEnter
def jG (P:Program)(f:FuncId)(fn:Func)(s:ChangeSpec)(c:OpenClaim):Bool:=(c.lifted == P.liftsFinal)
def jH (P:Program)(f:FuncId)(fn:Func)(s:ChangeSpec)(c:OpenClaim):Bool:=(P.make == some c.make)
def jI (P:Program)(f:FuncId)(fn:Func)(s:ChangeSpec)(c:OpenClaim):Bool:=(c.kinds == (if c.domain.isEmpty then [] else fn.params.toList.map fun t=>match P.underlying t with|some (.int k)=>some k|_=>none)) && (c.pinned == c.pinnedBy) && (c.veiled == (fn.params.toList++s.plain.varTypes P++fn.resultTypes.toList).any (P.veiledRec ·)) && c.veiledFits P fn.params.toList (fn.params.toList++s.plain.varTypes P++fn.resultTypes.toList)
theorem joined_of {P:Program}{f:FuncId}{fn:Func}{s:ChangeSpec}{c:OpenClaim}(ha:jA P f fn s c=true)(hb:jB P f fn s c=true)(hc:jC P f fn s c=true)(hd:jD P f fn s c=true)(he:jE P f fn s c=true)(hf:jF P f fn s c=true)(hg:jG P f fn s c=true)(hh:jH P f fn s c=true)(hi:jI P f fn s c=true):joinedFacts P f fn s c=true:=by
 unfold jA jB jC jD jE jF jG jH jI at *
 simp only[jir] at *
 obtain⟨⟨⟨⟨⟨⟨⟨⟨k0,k1⟩,k2⟩,k3⟩,k4⟩,k5⟩,k6⟩,k7⟩,k8⟩:=ha
 have k9:=hb
 have k10:=hc
 have k11:=hd
 have k12:=he
 obtain⟨⟨⟨⟨⟨⟨⟨⟨⟨⟨⟨⟨k13,k14⟩,k15⟩,k16⟩,k17⟩,k18⟩,k19⟩,k20⟩,k21⟩,k22⟩,k23⟩,k24⟩,k25⟩:=hf
 have k26:=hg
 have k27:=hh
 obtain⟨⟨⟨k28,k29⟩,k30⟩,k31⟩:=hi
 unfold joinedFacts
 simp only[jir]
 exact⟨⟨⟨⟨⟨⟨⟨⟨⟨⟨⟨⟨⟨⟨⟨⟨⟨⟨⟨⟨⟨⟨⟨⟨⟨⟨⟨⟨⟨⟨⟨k0,k1⟩,k2⟩,k3⟩,k4⟩,k5⟩,k6⟩,k7⟩,k8⟩,k9⟩,k10⟩,k11⟩,k12⟩,k13⟩,k14⟩,k15⟩,k16⟩,k17⟩,k18⟩,k19⟩,k20⟩,k21⟩,k22⟩,k23⟩,k24⟩,k25⟩,k26⟩,k27⟩,k28⟩,k29⟩,k30⟩,k31⟩
end Go.V
end
