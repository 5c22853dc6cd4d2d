/- What functions of the program answer at given values, part 15. Conditions: those that each theorem names. -/
import Derived.Test.YtpkdedncgclblaaGreatDoorProgramRunsH14
import Derived.Lib.AppendZerosOnto
import Derived.Lib.Overlaps
import Derived.Laws.Externs
import Derived.Test.YtpkdedncgclblaaGreatDoorProgramRunsH6
import Derived.Test.YtpkdedncgclblaaGreatDoorProgramRunsH11
set_option linter.unusedSimpArgs false
set_option linter.unusedVariables false
set_option maxHeartbeats 8000000
set_option maxRecDepth 100000
section
namespace Go.Proofs.YtpkdedncgclblaaGreatDoor
open Go Go.V Go.RowKit Go.Proofs Go.Shelf Go.Lib
set_option maxHeartbeats 4000000
set_option maxRecDepth 1000000
theorem jcA (w:World)(ty:TypeId)(b o dLen dCap:Nat)(a:Addr)(sLen sCap:Nat)(cs:List Value)(hn:cs.length=Nat.min sLen dLen*2)
  (hsrc:∀ j v,cs[j]? = some v→w.cell? (a.add j)=some v) (hc:∀ j,j<cs.length→(w.cell? ⟨b,o+j,none⟩).isSome=true) (hf:∀ j,j<cs.length→w.frozen? ⟨b,o+j,none⟩=false) (h1:∀ v∈cs,v.oneCell'=true) :
  (Builtin.copy_ #[36,36] ty #[.slice (some ⟨b,o,none⟩) dLen dCap,.slice (some a) sLen sCap]).run Tryz.prog w = .ok (goInt (Nat.min sLen dLen)) (w.setCells b o cs):=by
 have hl:=run_loadCells_list (P:=Tryz.prog) w a cs hsrc
 have hst:=run_storeCells_cells (P:=Tryz.prog) b o cs 0 w (by simpa using hc) (by simpa using hf) h1
 obtain⟨i,hq,_,hi,_⟩:=info_parts jdy
 rw[hn] at hl
 simp[Builtin.copy_,run_underlying opSl,Builtin.lenOf,Builtin.firstCells,sizeOf,typeInfo,hq,hi,hl,hst]
theorem jbK {P:Program}(w:World){ops:Array Oper}{rest:List Oper}{o:Oper}{a:Act}{Q:Exit→Act→World→Prop}(hgd:o.guard=none)(d s:Operand)(t t':TypeId)
  (ho:o.op = .call { callee := .builtin .copy,args := #[d,s],argTypes := #[t,t'] }) (v u:Value) (hd:a.eval d=v) (hs:a.eval s=u) {v':Value} {w':World}
  (hr:(Builtin.copy_ #[t,t'] o.type #[v,u]).run P w = .ok v' w') (h:wpList P ops Q rest (a.put o.dst v') w'):wpList P ops Q (o::rest) a w:=
 wpList_plain hgd fun _ hK=>by
  unfold Oper.wp execOp
  simp only[ho,resolve,invoke,builtin,Sem.run_bind,Sem.run_pure,Result.andThen_ok,List.map_toArray,List.map_cons,List.map_nil,hd,hs,hr]
  exact hK _ _ h
theorem jc8 {P:Program}{ops:Array Oper}{o:Oper}{a:Act}{w:World}{K:Act→World→Prop}{Q:Exit→Act→World→Prop}{E:Prop}
  (hg:o.guard=none) (d x:Operand) (dT sT:TypeId) (hop:o.op=Op.call { callee:=Callee.builtin Builtin.copy,args := #[d,x],argTypes := #[dT,sT] })
  (v u:Value) (hd:a.eval d=v) (hx:a.eval x=u) {v':Value} {w':World} (hr:(Builtin.copy_ #[dT,sT] o.type #[v,u]).run P w = .ok v' w') (hK:K (a.put o.dst v') w') :
  if Region.wanted o (yielded ops a.tmps)=true then Oper.wp P o a w K Q else E:=by
 have hw:Region.wanted o (yielded ops a.tmps)=true:=by simp[Region.wanted,hg]
 rw[if_pos hw]
 unfold Oper.wp
 simp[execOp,hop,resolve,invoke,builtin,hd,hx,hr,Result.andThen]
 exact hK
theorem jg3 (n c i b vb vc : Nat) (us vs : List Value) (w : World) (hi : i < n) (hnc : n ≤ c) (hroom : c < n + 1) (hbig : n ≤ 1000000) (hcl : us.length = n * 2) (hvl : vs.length = 2)
    (hcs : ∀ j v, us[j]? = some v → w.cell? ⟨b, j, none⟩ = some v) (hvs : ∀ j v, vs[j]? = some v → w.cell? ⟨vb, j, none⟩ = some v) (h1c : ∀ v ∈ us, v.oneCell' = true) (h1v : ∀ v ∈ vs, v.oneCell' = true) :
    Calls Tryz.prog 126 #[.slice (some ⟨b, 0, none⟩) n c, .int .i64 i, .slice (some ⟨vb, 0, none⟩) 1 vc] w fun e w' =>
      e = .returned (.slice (some ⟨w.heap.size, 0, none⟩) (n + 1) (grownCap w (n + 1) c 33)) ∧
      w' = (((w.alloc (.cells ((us.take (i * 2)).toArray ++ Builtin.zeroCells (Value.agg #[.int .i64 0, .int .i64 0]).cells (n + 1 - i) ++ Builtin.zeroCells (Value.agg #[.int .i64 0, .int .i64 0]).cells (grownCap w (n + 1) c 33 - (n + 1))) 33)).drew.setCells w.heap.size (i * 2) vs).drew).setCells w.heap.size ((i + 1) * 2) (us.drop (i * 2)) := by
  have mixed : Tryz.prog.follows .mixedOrders = true := by kernel_rfl
  obtain ⟨i0, hi0, hz0, hzs, hzb⟩ := info_parts jdy
  have hz2 : ¬ ((i : Int) = (n : Int)) := by omega
  have hz3 : (c : Int) < (n : Int) + 1 := by omega
  have hbw : b < w.heap.size := block_lt_of_cell (hcs 0 _ (ji6 (by omega)))
  have hvw : vb < w.heap.size := block_lt_of_cell (hvs 0 _ (ji6 (by omega)))
  have hkk : (n : Int) + 1 - (i : Int) = ((n + 1 - i : Nat) : Int) := by omega
  have hik : i + (n + 1 - i) = n + 1 := by omega
  have hold : (Builtin.firstCells i0.size i (.slice (some ⟨b, 0, none⟩) i c)).run Tryz.prog w.drew = .ok (us.take (i * 2)).toArray w.drew := by
    rw [hzs]
    exact run_firstCells_some w.drew 2 i ⟨b, 0, none⟩ i c (us.take (i * 2)) (by rw [ji9]; omega) (fun j v hj => by
      rw [Addr.add_lit, jiy]
      rw [List.getElem?_take] at hj
      split at hj
      · exact hcs j v hj
      · cases hj)
  have hrz : ∀ ty, (Builtin.append_ #[36, 3] ty #[.slice (some ⟨b, 0, none⟩) i c, .int .i64 ((n : Int) + 1 - (i : Int))]).run Tryz.prog w =
      .ok (.slice (some ⟨w.heap.size, 0, none⟩) (n + 1) (grownCap w (n + 1) c 33)) (w.drew.alloc (.cells ((us.take (i * 2)).toArray ++ Builtin.zeroCells (Value.agg #[.int .i64 0, .int .i64 0]).cells (n + 1 - i) ++ Builtin.zeroCells (Value.agg #[.int .i64 0, .int .i64 0]).cells (grownCap w (n + 1) c 33 - (n + 1))) 33)) := fun ty => by
    have h := Lib.run_append_grow_zeros w 36 3 ty 33 i0 _ .i64 .i64 opSl Tryz.underlying3 hi0 hz0 (some ⟨b, 0, none⟩) i c (us.take (i * 2)) hold (n + 1 - i) (by omega) (by omega) (by omega) (by omega) (by rw [hzb]; omega) (by rw [hzb, hik]; exact growslice_fits (by omega) (by omega))
    rw [hik] at h
    rw [hkk]
    exact h
  obtain ⟨G, hG⟩ : ∃ G, G = grownCap w (n + 1) c 33 := ⟨_, rfl⟩
  obtain ⟨ROW, hROW⟩ : ∃ ROW : Array Value, ROW = (us.take (i * 2)).toArray ++ Builtin.zeroCells (Value.agg #[.int .i64 0, .int .i64 0]).cells (n + 1 - i) ++ Builtin.zeroCells (Value.agg #[.int .i64 0, .int .i64 0]).cells (G - (n + 1)) := ⟨_, rfl⟩
  rw [← hG] at hrz ⊢
  rw [← hROW] at hrz ⊢
  have hRl : (n + 1) * 2 ≤ ROW.size := by
    rw [hROW]
    simp [Builtin.zeroCells, Value.cells]
    omega
  obtain ⟨W1, hW1⟩ : ∃ W1, W1 = w.drew.alloc (.cells ROW 33) := ⟨_, rfl⟩
  rw [← hW1] at hrz
  have hN : ∀ j, j < (n + 1) * 2 → (W1.cell? ⟨w.heap.size, j, none⟩).isSome = true := fun j hj => by
    rw [hW1, World.cell?_alloc_at (w := w.drew) ROW _ w.heap.size j rfl, Array.getElem?_eq_getElem (by omega)]; rfl
  have hNf : ∀ j, W1.frozen? ⟨w.heap.size, j, none⟩ = false := fun j => by rw [hW1]; exact World.frozen?_alloc_at (w := w.drew) ROW _ w.heap.size j rfl
  have hOb : ∀ j v, w.cell? ⟨b, j, none⟩ = some v → W1.cell? ⟨b, j, none⟩ = some v := fun j v h => by rw [hW1, World.cell?_alloc_past (w := w.drew) _ b j hbw]; exact h
  have hOv : ∀ j v, w.cell? ⟨vb, j, none⟩ = some v → W1.cell? ⟨vb, j, none⟩ = some v := fun j v h => by rw [hW1, World.cell?_alloc_past (w := w.drew) _ vb j hvw]; exact h
  have hcpA : ∀ (W : World), (∀ x, W.cell? x = W1.cell? x) → (∀ x, W.frozen? x = W1.frozen? x) → ∀ ty dc, (Builtin.copy_ #[36, 36] ty #[.slice (some ⟨w.heap.size, i * 2, none⟩) (n + 1 - i) dc, .slice (some ⟨vb, 0, none⟩) 1 vc]).run Tryz.prog W = .ok (goInt (Nat.min 1 (n + 1 - i))) (W.setCells w.heap.size (i * 2) vs) := fun W hWc hWf ty dc =>
    jcA W ty w.heap.size (i * 2) (n + 1 - i) dc ⟨vb, 0, none⟩ 1 vc vs (by rw [hvl]; simp only [Nat.min_def]; split <;> omega)
      (fun j v hj => by rw [Addr.add_lit, hWc, jiy]; exact hOv _ v (hvs j v hj))
      (fun j hj => by rw [hWc]; exact hN _ (by omega)) (fun j hj => by rw [hWf]; exact hNf _) h1v
  have hGn : n + 1 ≤ G := by rw [hG]; exact grownCap_ge w _ _ _
  have hG63 : G ≤ 9223372036854775807 := by
    have := grownCap_le_maxLen w (n + 1) c 33 (by unfold maxLen; omega)
    rw [← hG] at this
    unfold maxLen at this
    omega
  have hGi : ¬ (G = i) := by omega
  have hGim : ¬ (G = i + 1) := by omega
  have hci : ¬ (c = i) := by omega
  have hbN : b ≠ w.heap.size := by omega
  have hdl : (us.drop (i * 2)).length = (n - i) * 2 := by rw [jjo, hcl]; omega
  have hcpB : ∀ (W : World), (∀ x, W.cell? x = (W1.setCells w.heap.size (i * 2) vs).cell? x) → (∀ x, W.frozen? x = (W1.setCells w.heap.size (i * 2) vs).frozen? x) → ∀ ty dc sc, (Builtin.copy_ #[36, 36] ty #[.slice (some ⟨w.heap.size, (i + 1) * 2, none⟩) (n + 1 - (i + 1)) dc, .slice (some ⟨b, i * 2, none⟩) (n - i) sc]).run Tryz.prog W = .ok (goInt (Nat.min (n - i) (n + 1 - (i + 1)))) (W.setCells w.heap.size ((i + 1) * 2) (us.drop (i * 2))) := fun W hWc hWf ty dc sc =>
    jcA W ty w.heap.size ((i + 1) * 2) (n + 1 - (i + 1)) dc ⟨b, i * 2, none⟩ (n - i) sc (us.drop (i * 2)) (by rw [hdl]; simp only [Nat.min_def]; split <;> omega)
      (fun j v hj => by
        rw [Addr.add_lit, hWc, World.cell?_setCells_out _ _ _ _ _ (fun h _ => absurd h hbN)]
        exact hOb _ v (hcs (i * 2 + j) v (by rwa [List.getElem?_drop] at hj)))
      (fun j hj => by rw [hWc]; exact ja1 _ _ _ _ (fun t ht => hN _ (by omega)) _ (hN _ (by omega)))
      (fun j hj => by rw [hWf, World.frozen?_setCells]; exact hNf _) (fun v hv => h1c v (jje hv))
  subst hW1
  have hE1 : ∀ x, ((w.alloc (.cells ROW 33)).drew).cell? x = (w.drew.alloc (.cells ROW 33)).cell? x := fun x => rfl
  have hE2 : ∀ x, ((w.alloc (.cells ROW 33)).drew).frozen? x = (w.drew.alloc (.cells ROW 33)).frozen? x := fun x => rfl
  have hF1 : ∀ x, (((w.alloc (.cells ROW 33)).drew.setCells w.heap.size (i * 2) vs).drew).cell? x = ((w.drew.alloc (.cells ROW 33)).setCells w.heap.size (i * 2) vs).cell? x := fun x => rfl
  have hF2 : ∀ x, (((w.alloc (.cells ROW 33)).drew.setCells w.heap.size (i * 2) vs).drew).frozen? x = ((w.drew.alloc (.cells ROW 33)).setCells w.heap.size (i * 2) vs).frozen? x := fun x => rfl
  have hdl2 : (i + 1) * 2 + (us.drop (i * 2)).length = (n + 1) * 2 := by rw [hdl]; omega
  have hw1 : IntKind.i64.wrap ((i : Int) + 1) = (i : Int) + 1 := by rw [IntKind.wrap_i64]; omega
  have hb1 : (0 : Int) ≤ (i : Int) + 1 := by omega
  have hin : i ≤ n := by omega
  have htn : ((i : Int) + 1).toNat = i + 1 := by omega
  have hb3 : (i : Int) ≤ (n : Int) := by omega
  clear hkk hik hold hROW hG hRl
  go_enter Tryz.func126, Tryz.ntmps126
  go_wp2_with (first
    | (at_builtin; refine Lib.wpList_append_run _ rfl _ _ _ _ rfl _ _ rfl rfl _ _ (hrz _) ?_)
    | (at_builtin; refine jbK _ rfl _ _ 36 36 rfl _ _ rfl rfl (hcpA _ hE1 hE2 _ _) ?_)
    | (at_builtin; refine jbK _ rfl _ _ 36 36 rfl _ _ rfl rfl (hcpB _ (fun _ => rfl) (fun _ => rfl) _ _ _) ?_))
  go_region_law_o (refine jc8 rfl _ _ 36 36 rfl (.slice (some ⟨w.heap.size, (i + 1) * 2, none⟩) (n + 1 - (i + 1)) (G - (i + 1))) (.slice (some ⟨b, i * 2, none⟩) (n - i) (c - i)) (by simp [Act.eval, Act.put]) (by simp [Act.eval, Act.put]) (hcpB _ hF1 hF2 3 (G - (i + 1)) (c - i)) ?_)
  go_wp2
  go_ret
  exact ⟨rfl, rfl⟩
theorem jgo (n c i b vb vc:Nat)(us vs:List Value)(w:World)(hi:i<n)(hroom:n+1≤c)(hbig:n≤1000000)(hvb:vb≠b)(hcl:us.length=n*2)(hvl:vs.length=2)
  (hcs:∀ j v,us[j]? = some v→w.cell? ⟨b,j,none⟩=some v) (hsp:∀ j,j<(n+1)*2→(w.cell? ⟨b,j,none⟩).isSome=true) (hfz:∀ j,w.frozen? ⟨b,j,none⟩=false)
  (hvs:∀ j v,vs[j]? = some v→w.cell? ⟨vb,j,none⟩=some v) (h1c:∀ v∈us,v.oneCell'=true) (h1v:∀ v∈vs,v.oneCell'=true)
  (tA tB:TypeId) (kA kB:Nat) (hsa:w.shape? vb=some (tA,kA)) (hsb:w.shape? b=some (tB,kB)) (hkB:kB≠0) (hfa:w.frozen? ⟨vb,0,none⟩=false) (hfe:w.frozen? ⟨vb,kA,none⟩=false) :
  Calls Tryz.prog 126 #[.slice (some ⟨b,0,none⟩) n c,.int .i64 i,.slice (some ⟨vb,0,none⟩) 1 vc] w fun e w'=>
   e = .returned (.slice (some ⟨b,0,none⟩) (n+1) c)∧w'=(w.drew.setCells b ((i+1)*2) (us.drop (i*2))).setCells b (i*2) vs:=by
 have mixed:Tryz.prog.follows .mixedOrders=true:=by kernel_rfl
 have hz2:¬ ((i:Int)=(n:Int)):=by omega
 have hsz:∀ w,(Go.sizeOf 33).run Tryz.prog w = .ok 2 w:=fun w=>by
  obtain⟨i0,hi0,_,hzs,_⟩:=info_parts jdy
  simp[sizeOf,typeInfo,hi0,hzs]
 have hov:∀ lb cb,(callFunc 199 #[.slice (some ⟨vb,0,none⟩) 1 vc,.slice (some ⟨b,(i+1)*2,none⟩) lb cb]).run Tryz.prog w = .ok (.value (.bool false)) w:=fun lb cb=>by
  rw[run_callFunc_extern Tryz.func199 (by kernel_rfl) (by kernel_rfl) (by kernel_rfl) (e:=Extern.SlicesOverlaps.overlaps #[36,36] #[4]) (by kernel_rfl),
   Lib.run_overlaps_apart w 36 4 33 opSl 2 hsz ⟨vb,0,none⟩ ⟨b,(i+1)*2,none⟩ 1 vc lb cb hvb tA tB kA kB hsa hsb hkB hfa hfe]
  rfl
 have hdl:(us.drop (i*2)).length=(n-i)*2:=by rw[jjo,hcl];omega
 have hw1:IntKind.i64.wrap ((i:Int)+1)=(i:Int)+1:=by rw[IntKind.wrap_i64];omega
 have hb1:(0:Int)≤(i:Int)+1:=by omega
 have hin:i≤n:=by omega
 have htn:((i:Int)+1).toNat=i+1:=by omega
 have hb2:¬ (c=i+1):=by omega
 have hb3:(i:Int)≤(n:Int)+1:=by omega
 have hb4:¬ (c=i):=by omega
 have hcp1:∀ ty dc sc,(Builtin.copy_ #[36,36] ty #[.slice (some ⟨b,(i+1)*2,none⟩) (n-i) dc,.slice (some ⟨b,i*2,none⟩) (n+1-i) sc]).run Tryz.prog w.drew = .ok (goInt (Nat.min (n+1-i) (n-i))) (w.drew.setCells b ((i+1)*2) (us.drop (i*2))):=fun ty dc sc=>
  jcA w.drew ty b ((i+1)*2) (n-i) dc ⟨b,i*2,none⟩ (n+1-i) sc (us.drop (i*2)) (by rw[hdl];simp only[Nat.min_def];split<;>omega)
   (fun j v hj=>by rw[Addr.add_lit];exact hcs (i*2+j) v (by rwa [List.getElem?_drop] at hj))
   (fun j hj=>hsp _ (by omega)) (fun j hj=>hfz _) (fun v hv=>h1c v (jje hv))
 obtain⟨W1,hW1⟩:∃ W1,W1=w.drew.setCells b ((i+1)*2) (us.drop (i*2)):=⟨_,rfl⟩
 have hsp1:∀ k,k<(n+1)*2→(W1.cell? ⟨b,k,none⟩).isSome=true:=fun k hk=>by
  rw[hW1]
  refine ja1 b (us.drop (i*2)) ((i+1)*2) w.drew (fun j hj=>hsp _ ?_) _ (hsp k hk)
  omega
 have hcp2:∀ (W:World),(∀ x,W.cell? x=W1.cell? x)→(∀ x,W.frozen? x=W1.frozen? x) → ∀ ty dc,(Builtin.copy_ #[36,36] ty #[.slice (some ⟨b,i*2,none⟩) (n+1-i) dc,.slice (some ⟨vb,0,none⟩) 1 vc]).run Tryz.prog W = .ok (goInt (Nat.min 1 (n+1-i))) (W.setCells b (i*2) vs):=fun W hWc hWf ty dc=>
  jcA W ty b (i*2) (n+1-i) dc ⟨vb,0,none⟩ 1 vc vs (by rw[hvl];simp only[Nat.min_def];split<;>omega)
   (fun j v hj=>by
    rw[Addr.add_lit,hWc,hW1,World.cell?_setCells_out b _ _ _ _ (fun h _=>absurd h hvb),jiy]
    exact hvs j v hj)
   (fun j hj=>by rw[hWc];exact hsp1 _ (by omega)) (fun j hj=>by rw[hWf,hW1,World.frozen?_setCells];exact hfz _) h1v
 rw[← hW1] at hcp1
 go_enter Tryz.func126,Tryz.ntmps126
 go_wp2_with (simp only[hov])
 go_region_law_o (refine jc8 rfl _ _ 36 36 rfl _ _ (by simp[Act.eval,Act.put]) (by simp[Act.eval,Act.put]) (hcp1 _ _ _) ?_)
 go_wp2_with (at_builtin;refine jbK _ rfl _ _ 36 36 rfl _ _ rfl rfl (hcp2 _ (fun _=>rfl) (fun _=>rfl) _ _) ?_)
 go_ret
 first|exact⟨rfl,rfl⟩|exact⟨rfl,by rw[hW1]⟩
set_option maxHeartbeats 4000000
set_option maxRecDepth 1000000
theorem jeW (n c b vb vc:Nat)(w w1:World)(v':Value)(hnc:n≤c)(hbig:n≤1000000)(hrun:∀ ty,(Builtin.append_ #[36,36] ty #[.slice (some ⟨b,0,none⟩) n c,.slice (some ⟨vb,0,none⟩) 1 vc]).run Tryz.prog w = .ok v' w1) :
  Calls Tryz.prog 126 #[.slice (some ⟨b,0,none⟩) n c,.int .i64 (n:Int),.slice (some ⟨vb,0,none⟩) 1 vc] w fun e w'=>
   e = .returned v'∧w'=w1:=by
 have mixed:Tryz.prog.follows .mixedOrders=true:=by kernel_rfl
 go_enter Tryz.func126,Tryz.ntmps126
 go_wp2_with (at_builtin;refine Lib.wpList_append_run _ rfl _ _ _ _ rfl _ _ rfl rfl _ _ (hrun _) ?_)
 all_goals (go_ret;first|done|exact⟨rfl,rfl⟩)
set_option maxHeartbeats 4000000
structure Alone (b:Nat)(w w':World):Prop where
 os:w'.os=w.os
 tape:w'.tape=w.tape
 output:w'.output=w.output
 size:w.heap.size≤w'.heap.size
 block:∀ k,k<w.heap.size→k≠b→w'.heap[k]? = w.heap[k]?
theorem Alone.refl (b:Nat)(w:World):Alone b w w:=⟨rfl,rfl,rfl,jiB _,fun _ _ _=>rfl⟩
theorem Alone.drew {b:Nat}{a w:World}(h:Alone b a w):Alone b a w.drew:=⟨h.os,h.tape,h.output,h.size,h.block⟩
theorem Alone.drewN {b:Nat}{a w:World}(h:Alone b a w)(q:Nat):Alone b a (w.drewN q):=⟨h.os,h.tape,h.output,h.size,h.block⟩
theorem Alone.alloc {b:Nat}{a w:World}(h:Alone b a w)(o:Obj):Alone b a (w.alloc o):=
 ⟨h.os,h.tape,h.output,jiC h.size (by simp),fun k hk hb=>by rw[Below.heap_alloc _ _ _ (jiH hk h.size)];exact h.block k hk hb⟩
theorem Alone.setCells {b : Nat} {a : World} (d : Nat) (hd : d = b ∨ a.heap.size ≤ d) : ∀ (vs : List Value) (o : Nat) {w : World}, Alone b a w → Alone b a (w.setCells d o vs)
  | [], _, _, h => h
  | v :: r, o, w, h => Alone.setCells d hd r (o + 1) ⟨h.os, h.tape, h.output, by simpa [World.setCell] using h.size, fun k hk hb => by
      rw [Below.heap_setCell _ _ _ _ (by show k ≠ d; omega)]; exact h.block k hk hb⟩
theorem MS.gave {cx:Cx}{E:Env}{h:Pub}{w w':World}{H:Hp}(M:MS cx E h w H){i b:Nat}{ds:List D}{vals:List Value}(hi:lookH H i=some (.box ds))(ri:E.real i=true)(hb:b=E.blk i∨w.heap.size≤b)
  (ha:Alone (E.blk i) w w') (hcell:∀ (o:Nat) v,vals[o]? = some v→w'.cell? ⟨b,o,none⟩=some v) :
  h.Le (jal vals b h)∧MS cx E (jal vals b h) w' ((i,.gone)::H):=by
 have hun:∀ o,h b o=none:=fun o=>by
  rcases hb with rfl|hb
  ·exact M.mem.unpub i _ hi rfl ri o
  ·cases hv:h b o with
   | none=>rfl
   | some v=>exact absurd (M.agree.lt hv) (by omega)
 have hB:=M.mem.base i _ hi rfl ri
 have hbB:cx.w0.heap.size≤b:=by
  rcases hb with rfl|hb
  ·exact hB
  ·exact jiC M.since.below.size hb
 obtain⟨csi,Ti,fi,hci⟩:=(M.mem.ok i _ hi).cells rfl ri
 have hle:=jaG hun vals
 have live:∀ j c,lookH ((i,.gone)::H) j=some c→c.live=true→j≠i∧lookH H j=some c:=by
  intro j c hc hl
  rw[jad] at hc
  split at hc
  ·cases hc;simp[Chunk.live] at hl
  ·rename_i e;exact⟨Ne.symm e,hc⟩
 have ag:Agree h w':=M.agree.of_blocks fun k ⟨x,v,hv⟩=>ha.block k (M.agree.lt hv) fun e=>by
  rw[e,M.mem.unpub i _ hi rfl ri x] at hv;cases hv
 refine⟨hle,⟨?_,?_,?_,?_⟩,⟨fun k o v hv=>?_,ag.glob.mono hle,ag.blk,fun g hg=>by
  obtain⟨v,hv⟩:=ag.errs g hg
  exact⟨v,hle _ _ _ hv⟩⟩,⟨M.since.below.trans ⟨ha.os,ha.tape,ha.output,ha.size,fun k hk=>ha.block k (jiH hk M.since.below.size) (by omega)⟩,M.since.le.trans hle,fun k hk o=>?_⟩,M.low,fun k q hq=>?_⟩
 ·intro j c hc
  cases hl:c.live with
  | false=>cases c<;>first|trivial|simp[Chunk.live] at hl
  | true=>
   obtain⟨hj,hc⟩:=live j c hc hl
   exact ChunkOk.mono hle ((M.mem.ok j c hc).keep fun hlv hr=>ha.block _ ((M.mem.ok j c hc).lt hlv hr) (M.mem.inj j i c _ hj hc hi hlv rfl hr ri))
 ·exact fun j c hc hl=>M.mem.base j c (live j c hc hl).2 hl
 ·intro j c hc hl hr o
  obtain⟨hj,hc⟩:=live j c hc hl
  unfold jal
  rw[if_neg (fun e=>by
   rcases hb with rfl|hb
   ·exact M.mem.inj j i c _ hj hc hi hl rfl hr ri e
   ·have:=(M.mem.ok j c hc).lt hl hr
    omega)]
  exact M.mem.unpub j c hc hl hr o
 ·exact fun j k c1 c2 hjk h1 h2 l1 l2=>M.mem.inj j k c1 c2 hjk (live j c1 h1 l1).2 (live k c2 h2 l2).2 l1 l2
 ·unfold jal at hv
  split at hv
  ·rename_i e;subst e;exact hcell o v hv
  ·exact ag k o v hv
 ·unfold jal
  rw[if_neg (by omega)]
  exact M.since.old k hk o
 ·obtain⟨h1,h2,h3⟩:=M.objs k q hq
  exact⟨h1,h2,by rw[ha.block k (Array.getElem?_eq_some_iff.1 h3).1 (fun e=>by rw[e,hci] at h3;cases h3;cases h2.1)];exact h3⟩
theorem jdx:∀ {a b:List D},D.pureL a=true→D.pureL b=true→D.pureL (a++b)=true
 | [],_,_,h=>h
 | x::xs,b,h,k=>by
  simp only[ji1,D.pureL] at h ⊢
  cases hx:D.pure x with
  | false=>rw[hx] at h;cases h
  | true=>rw[hx] at h;exact jdx h k
theorem jdT:∀ {a:List D} (n:Nat),D.pureL a=true→D.pureL (a.take n)=true
 | [],n,h=>by rw[List.take_nil];exact h
 | x::xs,0,h=>rfl
 | x::xs,n+1,h=>by
  simp only[List.take_succ_cons,D.pureL] at h ⊢
  cases hx:D.pure x with
  | false=>rw[hx] at h;cases h
  | true=>rw[hx] at h;exact jdT n h
theorem jdU:∀ {a:List D} (n:Nat),D.pureL a=true→D.pureL (a.drop n)=true
 | [],n,h=>by rw[List.drop_nil];exact h
 | x::xs,0,h=>h
 | x::xs,n+1,h=>by
  simp only[D.pureL] at h
  cases hx:D.pure x with
  | false=>rw[hx] at h;cases h
  | true=>rw[hx] at h;exact jdU n h
theorem jhs {E:Env}{h h1:Pub}{ds:List D}{vals:List Value}{m cap b:Nat}(hd:DenL E h ds vals)(hp:D.pureL ds=true)(hl:vals.length=m*2)(h1c:∀ v∈vals,v.oneCell'=true)(hle:h.Le h1)(hc:∀ (o:Nat) v,vals[o]? = some v→h1 b o=some v)(hm:m≤cap)(hb:m≤281474976710656) :
  Den E h1 (.slf 2 m (fun t=>(ds.drop (t*2)).take 2)) (.slice (some ⟨b,0,none⟩) m cap):=by
 simp only[Den]
 refine⟨some ⟨b,0,none⟩,cap,rfl,hm,hb,rfl,fun j hj=>⟨(vals.drop (j*2)).take 2,DenL.mono hle ((DenL.pure (E':=Env.dummy) hp hd).drop (j*2) |>.take 2),by rw[ji9,jjo,hl];omega,fun v hv=>h1c v (jje (jjf hv)),fun i v hv=>?_⟩⟩
 rw[List.getElem?_take] at hv
 split at hv
 ·rw[List.getElem?_drop] at hv
  exact hc _ v (by rw[jiy];exact hv)
 ·cases hv
theorem ins_vals (us vs:List Value)(j n:Nat)(hj:j≤n)(hl:us.length=n*2)(hv:vs.length=2)(c:Nat→Option Value)(h1:∀ o,o<j*2→c o=us[o]?)(h2:∀ t,t<2→c (j*2+t)=vs[t]?)(h3:∀ t,t<(n-j)*2→c ((j+1)*2+t)=(us.drop (j*2))[t]?) :
  ∀ (o:Nat) v,(us.take (j*2)++vs++us.drop (j*2))[o]? = some v→c o=some v:=by
 intro o v ho
 have hlt:(us.take (j*2)).length=j*2:=by rw[ji9,hl];omega
 rcases jiI o (j*2) with a|a
 ·rw[h1 o a,← ho,jja,jjc (by omega),List.getElem?_take,if_pos a]
 ·rcases jiI o (j*2+2) with b|b
  ·have:=h2 (o-j*2) (by omega)
   rw[show j*2+(o-j*2)=o by omega] at this
   rw[this,← ho,jja,jjm (by omega),hlt,jjc (by omega)]
  ·have hlen:o<(us.take (j*2)++vs++us.drop (j*2)).length:=(jjd.1 ho).1
   simp only[ji8,hlt,hv,jjo,hl] at hlen
   have:=h3 (o-(j*2+2)) (by omega)
   rw[show (j+1)*2+(o-(j*2+2))=o by omega] at this
   rw[this,← ho,jjm (by simp only[ji8,hlt,hv];omega)]
   simp only[ji8,hlt,hv]
def insO:Inl:=fun _ g ds _ H K _=>g=126 ∧ ∃ (i n j k:Nat) (vs news:List D),ds=[.bsl i 0 n 2,.int .i64 j,.bsl k 0 1 2]∧i≠k∧lookH H i=some (.box vs)∧lookH H k=some (.box news)∧vs.length=n*2∧news.length=2∧D.pureL vs=true∧D.pureL news=true∧j≤n∧n≤1000000 ∧
 K (.slf 2 (n+1) (fun t=>((vs.take (j*2)++news++vs.drop (j*2)).drop (t*2)).take 2)) ((i,.gone)::H)
def delO:Inl:=fun _ g ds _ H K _=>g=127 ∧ ∃ (i n j:Nat) (vs:List D),ds=[.bsl i 0 n 2,.int .i64 j,.int .i64 ((j+1:Nat):Int)]∧lookH H i=some (.box vs)∧vs.length=n*2∧D.pureL vs=true∧j<n∧n≤1000000 ∧
 K (.slf 2 (n-1) (fun t=>((vs.take (j*2)++vs.drop ((j+1)*2)).drop (t*2)).take 2)) ((i,.gone)::H)
theorem DenL.three {E:Env}{h:Pub}{a b c:D}{vs:List Value}(H:DenL E h [a,b,c] vs):∃ x y z,vs=[x,y,z]∧Den E h a x∧Den E h b y∧Den E h c z:=by
 simp only[DenL] at H
 obtain⟨x,_,rfl,hx,y,_,rfl,hy,z,_,rfl,hz,rfl⟩:=H
 exact⟨x,y,z,rfl,hx,hy,hz⟩
theorem delO_ok:InlOk Tryz.prog delO:=by
 intro yl g ds off H K KP hh cx E h w vs hoff hds hyl M hv
 obtain⟨rfl,i,n,j,us,rfl,hi,hul,hpu,hj,hn,hK⟩:=hh
 refine⟨jaw Tryz.func127 rfl rfl,callsIn_wide.2 ?_⟩
 obtain⟨x,y,z,rfl,hx,hy,hz⟩:=DenL.three hv
 simp only[Den] at hx hy hz
 obtain⟨ri,cap,rfl,hc1,hc2,hc3⟩:=hx
 obtain⟨_,uv,rest,T,hb,hd,hone,hsz⟩:=M.mem.ok i _ hi
 have hul2:uv.length=n*2:=by rw[hd.length,hul]
 refine(show Calls Tryz.prog _ #[.slice (some ⟨E.blk i,0,none⟩) n cap,y,z] w _ by rw[hy.1,hz.1];exact del_run j n cap (E.blk i) uv rest T w hb hul2 hj hc1 hn hone).mono ?_
 rintro e w' ⟨rfl,q,rfl⟩
 have hcell:∀ t,t<n*2→((w.drewN q).cell? ⟨E.blk i,t,none⟩).isSome=true:=fun t ht=>by
  show (w.cell? ⟨E.blk i,t,none⟩).isSome=true
  rw[jaY hb (ji6 (by omega))];rfl
 have hdl:(uv.drop ((j+1)*2)).length=(n-(j+1))*2:=by rw[jjo,hul2];omega
 have al:Alone (E.blk i) w (((w.drewN q).setCells (E.blk i) (j*2) (uv.drop ((j+1)*2))).setCells (E.blk i) ((n-1)*2) [.int .i64 0,.int .i64 0]):=
  Alone.setCells _ (.inl rfl) _ _ (Alone.setCells _ (.inl rfl) _ _ ((Alone.refl _ w).drewN q))
 have hvals:∀ (o:Nat) v,(uv.take (j*2)++uv.drop ((j+1)*2))[o]? = some v→(((w.drewN q).setCells (E.blk i) (j*2) (uv.drop ((j+1)*2))).setCells (E.blk i) ((n-1)*2) [.int .i64 0,.int .i64 0]).cell? ⟨E.blk i,o,none⟩=some v:=by
  intro o v ho
  have hlt:(uv.take (j*2)).length=j*2:=by rw[ji9,hul2];omega
  have hlen:=(jjd.1 ho).1
  simp only[ji8,hlt,hdl] at hlen
  rw[World.cell?_setCells_out _ _ _ _ _ (fun _ _=>by show o<_∨_;left;omega)]
  rcases jiI o (j*2) with a|a
  ·rw[World.cell?_setCells_out _ _ _ _ _ (fun _ _=>by show o<_∨_;left;omega)]
   rw[jjc (by omega),List.getElem?_take,if_pos a] at ho
   exact jaY hb ho
  ·rw[jjm (by omega),hlt] at ho
   have:=World.cell?_setCells_in (E.blk i) (uv.drop ((j+1)*2)) (j*2) (w.drewN q) (fun t ht=>hcell _ (by omega)) (o-j*2) (by omega)
   rw[show j*2+(o-j*2)=o by omega] at this
   rw[this,← ho,ji6]
 obtain⟨hle,M'⟩:=MS.gave M hi ri (.inl rfl) al hvals
 refine .inl ⟨_,_,E,_,_,rfl,hK,jhs ((hd.take (j*2)).append (hd.drop ((j+1)*2))) ?_ (by rw[ji8,ji9,hul2,hdl];omega) ?_ hle (fun o v ho=>by unfold jal;rw[if_pos rfl];exact ho) (by omega) (by omega),M'⟩
 ·exact jdx (jdT _ hpu) (jdU _ hpu)
 ·intro v hv
  rcases jjh.1 hv with hv|hv
  ·exact hone v (jjf hv)
  ·exact hone v (jje hv)
theorem insO_ok:InlOk Tryz.prog insO:=by
 intro yl g ds off H K KP hh cx E h w vs hoff hds hyl M hv
 obtain⟨rfl,i,n,j,k,us,ns,rfl,hik,hi,hk,hul,hnl,hpu,hpn,hj,hn,hK⟩:=hh
 refine⟨jaw Tryz.func126 rfl rfl,callsIn_wide.2 ?_⟩
 obtain⟨x,y,z,rfl,hx,hy,hz⟩:=DenL.three hv
 simp only[Den] at hx hy hz
 obtain⟨ri,cap,rfl,hc1,hc2,hc3⟩:=hx
 obtain⟨rk,vc,rfl,hv1,hv2,hv3⟩:=hz
 obtain⟨_,uv,rest,T,hb,hd,hone,hsz⟩:=M.mem.ok i _ hi
 obtain⟨_,nv,rest2,T2,hb2,hd2,hone2,hsz2⟩:=M.mem.ok k _ hk
 have hul2:uv.length=n*2:=by rw[hd.length,hul]
 have hnl2:nv.length=2:=by rw[hd2.length,hnl]
 have hne:E.blk k≠E.blk i:=M.mem.inj k i _ _ (Ne.symm hik) hk hi rfl rfl rk ri
 have hdl:(uv.drop (j*2)).length=(n-j)*2:=by rw[jjo,hul2];omega
 have hcs:∀ (t:Nat) v,uv[t]? = some v→w.cell? ⟨E.blk i,t,none⟩=some v:=fun t v ht=>jaY hb ht
 have hns:∀ (t:Nat) v,nv[t]? = some v→w.cell? ⟨E.blk k,t,none⟩=some v:=fun t v ht=>jaY hb2 ht
 -- what comes back, whichever way
 have fin:∀ (b cp:Nat) (w':World),(b=E.blk i∨w.heap.size≤b)→Alone (E.blk i) w w'→n+1≤cp→(∀ o,o<j*2→w'.cell? ⟨b,o,none⟩=uv[o]?)→(∀ t,t<2→w'.cell? ⟨b,j*2+t,none⟩=nv[t]?)→(∀ t,t<(n-j)*2→w'.cell? ⟨b,(j+1)*2+t,none⟩=(uv.drop (j*2))[t]?) →
   (∃ v r E' h' H',Ending.returned (.slice (some ⟨b,0,none⟩) (n+1) cp) = .returned v∧K r H'∧Den E' h' r v∧MS cx E' h' w' H') ∨ ∃ v E' h' H',Ending.returned (.slice (some ⟨b,0,none⟩) (n+1) cp) = .panicked [{ v:=v,recovered:=false }]∧KP v H'∧MS cx E' h' w' H':=by
  intro b cp w' hbb al hcp h1 h2 h3
  have hvals:=ins_vals uv nv j n hj hul2 hnl2 (fun o=>w'.cell? ⟨b,o,none⟩) h1 h2 h3
  obtain⟨hle,M'⟩:=MS.gave M hi ri hbb al hvals
  refine .inl ⟨_,_,E,_,_,rfl,hK,jhs (((hd.take (j*2)).append hd2).append (hd.drop (j*2))) ?_ (by rw[ji8,ji8,ji9,hul2,hnl2,hdl];omega) ?_ hle (fun o v ho=>by unfold jal;rw[if_pos rfl];exact ho) hcp (by omega),M'⟩
  ·exact jdx (jdx (jdT _ hpu) hpn) (jdU _ hpu)
  ·intro v hv
   rcases jjh.1 hv with hv|hv
   ·rcases jjh.1 hv with hv|hv
    ·exact hone v (jjf hv)
    ·exact hone2 v hv
   ·exact hone v (jje hv)
 rcases Nat.lt_or_eq_of_le hj with hj|hj
 case inr=>
  subst hj
  have hdn:uv.drop (j*2)=[]:=jjt (by omega)
  rcases jiI cap (j+1) with hr|hr
  ·obtain⟨i0,hi0,hz0,hzs,hzb⟩:=info_parts jdy
   have hrun:∀ ty,(Builtin.append_ #[36,36] ty #[.slice (some ⟨E.blk i,0,none⟩) j cap,.slice (some ⟨E.blk k,0,none⟩) 1 vc]).run Tryz.prog w=_:=fun ty=>
    run_append_grow (P:=Tryz.prog) w 36 ty 33 i0 _ opSl hi0 hz0 ⟨E.blk i,0,none⟩ j cap uv (by rw[hzs];exact hul2) (fun t v ht=>by rw[Addr.add_lit,jiy];exact hcs t v ht) ⟨E.blk k,0,none⟩ 1 vc nv (by rw[hzs];exact hnl2) (fun t v ht=>by rw[Addr.add_lit,jiy];exact hns t v ht) hr (by omega) (growslice_fits (by omega) (by rw[hzb];omega))
   refine(show Calls Tryz.prog _ #[.slice (some ⟨E.blk i,0,none⟩) j cap,y,.slice (some ⟨E.blk k,0,none⟩) 1 vc] w _ by rw[hy.1];exact jeW j cap (E.blk i) (E.blk k) vc w _ _ hc1 hn hrun).mono ?_
   rintro e w' ⟨rfl,rfl⟩
   refine fin w.heap.size _ _ (.inr (jiB _)) (Alone.alloc (Alone.refl _ w).drew _) (jaP _ _ _ _) ?_ ?_ ?_
   ·intro o ho
    rw[World.cell?_alloc_at (w:=w.drew) _ _ w.heap.size o rfl,Array.append_assoc,Array.getElem?_append_left (by simp only[List.size_toArray,hul2];exact ho),jjn]
   ·intro t ht
    rw[World.cell?_alloc_at (w:=w.drew) _ _ w.heap.size _ rfl,Array.append_assoc,Array.getElem?_append_right (by simp only[List.size_toArray,hul2];omega),Array.getElem?_append_left (by simp only[List.size_toArray,hul2,hnl2];omega),jjn]
    congr 1
    simp only[List.size_toArray,hul2]
    omega
   ·intro t ht
    omega
  ·obtain⟨i0,hi0,hz0,hzs,hzb⟩:=info_parts jdy
   have hsp:∀ t,t<(j+1)*2→(w.cell? ⟨E.blk i,t,none⟩).isSome=true:=fun t ht=>by
    have h4:cap*2≤uv.length+rest.length:=by
     rcases hc3 with h5|h5|h5
     ·omega
     ·exact absurd rfl h5
     ·rw[← hsz];exact h5
    rw[jbE hb (ji6 (by rw[ji8];omega))]
    rfl
   have hrun:∀ ty,(Builtin.append_ #[36,36] ty #[.slice (some ⟨E.blk i,0,none⟩) j cap,.slice (some ⟨E.blk k,0,none⟩) 1 vc]).run Tryz.prog w=_:=fun ty=>
    run_append_room_cells (P:=Tryz.prog) w 36 ty 33 i0 opSl hi0 (E.blk i) 0 j cap ⟨E.blk k,0,none⟩ 1 vc nv (by rw[hzs];exact hnl2) (fun t v ht=>by rw[Addr.add_lit,jiy];exact hns t v ht) hone2 hr (fun t ht=>by rw[hzs];exact hsp _ (by omega)) (fun t ht=>jcv hb)
   refine(show Calls Tryz.prog _ #[.slice (some ⟨E.blk i,0,none⟩) j cap,y,.slice (some ⟨E.blk k,0,none⟩) 1 vc] w _ by rw[hy.1];exact jeW j cap (E.blk i) (E.blk k) vc w _ _ hc1 hn hrun).mono ?_
   rintro e w' ⟨rfl,rfl⟩
   refine fin (E.blk i) cap _ (.inl rfl) (Alone.setCells _ (.inl rfl) _ _ (Alone.refl _ w)) hr ?_ ?_ ?_
   ·intro o ho
    rw[World.cell?_setCells_out _ _ _ _ _ (fun _ _=>by show o<_∨_;left;rw[hzs];omega)]
    rw[hcs o _ (ji6 (by omega)),ji6]
   ·intro t ht
    rw[hzs,jiy]
    rw[World.cell?_setCells_in (E.blk i) nv (j*2) w (fun s hs=>hsp _ (by omega)) t (by omega),ji6]
   ·intro t ht
    omega
 rcases jiI cap (n+1) with hr|hr
 ·refine(show Calls Tryz.prog _ #[.slice (some ⟨E.blk i,0,none⟩) n cap,y,.slice (some ⟨E.blk k,0,none⟩) 1 vc] w _ by rw[hy.1];exact jg3 n cap j (E.blk i) (E.blk k) vc uv nv w hj hc1 hr hn hul2 hnl2 hcs hns hone hone2).mono ?_
  rintro e w' ⟨rfl,rfl⟩
  have hg:n+1≤grownCap w (n+1) cap 33:=jaP _ _ _ _
  generalize hcells:(Obj.cells ((uv.take (j*2)).toArray++Builtin.zeroCells (Value.agg #[.int .i64 0,.int .i64 0]).cells (n+1-j)++Builtin.zeroCells (Value.agg #[.int .i64 0,.int .i64 0]).cells (grownCap w (n+1) cap 33-(n+1))) 33)=ob
  have hz:∀ m,(Builtin.zeroCells (Value.agg #[.int .i64 0,.int .i64 0]).cells m).size=m*2:=fun m=>by simp[Builtin.zeroCells,Value.cells]
  have hlt:(uv.take (j*2)).length=j*2:=by rw[ji9,hul2];omega
  have hsome:∀ o,o<(n+1)*2→((w.alloc ob).drew.cell? ⟨w.heap.size,o,none⟩).isSome=true:=fun o ho=>by
   show ((w.alloc ob).cell? ⟨w.heap.size,o,none⟩).isSome=true
   rw[← hcells,World.cell?_alloc_new]
   rw[Array.getElem?_eq_getElem (by simp only[Array.size_append,List.size_toArray,hlt,hz];omega)]
   rfl
  have hold:∀ o,o<j*2→(w.alloc ob).cell? ⟨w.heap.size,o,none⟩=uv[o]? := fun o ho=>by
   rw[← hcells,World.cell?_alloc_new,Array.append_assoc,Array.getElem?_append_left (by simp only[List.size_toArray,hlt];exact ho)]
   simp only[jjn,List.getElem?_take,if_pos ho]
  refine fin w.heap.size _ _ (.inr (jiB _)) ?_ hg ?_ ?_ ?_
  ·exact Alone.setCells _ (.inr (jiB _)) _ _ (Alone.setCells _ (.inr (jiB _)) _ _ ((Alone.refl _ w).alloc ob).drew).drew
  ·intro o ho
   rw[World.cell?_setCells_out _ _ _ _ _ (fun _ _=>by show o<_∨_;left;omega)]
   show (World.setCells _ _ _ _).cell? _=_
   rw[World.cell?_setCells_out _ _ _ _ _ (fun _ _=>by show o<_∨_;left;omega)]
   exact hold o ho
  ·intro t ht
   rw[World.cell?_setCells_out _ _ _ _ _ (fun _ _=>by show _<_∨_;left;show j*2+t<_;omega)]
   show (World.setCells _ _ _ _).cell? _=_
   rw[World.cell?_setCells_in w.heap.size nv (j*2) (w.alloc ob).drew (fun s hs=>hsome _ (by omega)) t (by omega),ji6]
  ·intro t ht
   rw[World.cell?_setCells_in w.heap.size (uv.drop (j*2)) ((j+1)*2) _ (fun s hs=>?_) t (by omega),ji6]
   show ((World.setCells (w.alloc ob).drew _ _ _).cell? _).isSome=true
   exact ja1 w.heap.size nv (j*2) (w.alloc ob).drew (fun s hs=>hsome _ (by omega)) _ (hsome _ (by omega))
 ·have hsp:∀ t,t<(n+1)*2→(w.cell? ⟨E.blk i,t,none⟩).isSome=true:=fun t ht=>by
   have h4:cap*2≤uv.length+rest.length:=by
    rcases hc3 with h5|h5|h5
    ·omega
    ·exact absurd rfl h5
    ·rw[← hsz];exact h5
   rw[jbE hb (ji6 (by rw[ji8];omega))]
   rfl
  refine(show Calls Tryz.prog _ #[.slice (some ⟨E.blk i,0,none⟩) n cap,y,.slice (some ⟨E.blk k,0,none⟩) 1 vc] w _ by
   rw[hy.1]
   exact jgo n cap j (E.blk i) (E.blk k) vc uv nv w hj hr hn hne hul2 hnl2 hcs hsp (fun t=>jcv hb) hns hone hone2 T2 T (nv++rest2).length (uv++rest).length (by simp[World.shape?,hb2]) (by simp[World.shape?,hb]) (by rw[ji8];omega) (jcv hb2) (jcv hb2)).mono ?_
  rintro e w' ⟨rfl,rfl⟩
  have hsp2:∀ t,t<(n+1)*2→((w.drew.setCells (E.blk i) ((j+1)*2) (uv.drop (j*2))).cell? ⟨E.blk i,t,none⟩).isSome=true:=fun t ht=>
   ja1 (E.blk i) (uv.drop (j*2)) ((j+1)*2) w.drew (fun s hs=>hsp _ (by omega)) t (hsp t ht)
  refine fin (E.blk i) cap _ (.inl rfl) ?_ hr ?_ ?_ ?_
  ·exact Alone.setCells _ (.inl rfl) _ _ (Alone.setCells _ (.inl rfl) _ _ (Alone.refl _ w).drew)
  ·intro o ho
   rw[World.cell?_setCells_out _ _ _ _ _ (fun _ _=>by show o<_∨_;left;omega),World.cell?_setCells_out _ _ _ _ _ (fun _ _=>by show o<_∨_;left;omega)]
   show w.cell? _=_
   rw[hcs o _ (ji6 (by omega)),ji6]
  ·intro t ht
   rw[World.cell?_setCells_in (E.blk i) nv (j*2) _ (fun s hs=>hsp2 _ (by omega)) t (by omega),ji6]
  ·intro t ht
   rw[World.cell?_setCells_out _ _ _ _ _ (fun _ _=>by show _∨_≤(j+1)*2+t;right;omega)]
   rw[World.cell?_setCells_in (E.blk i) (uv.drop (j*2)) ((j+1)*2) w.drew (fun s hs=>hsp _ (by omega)) t (by omega),ji6]
def inlY (k:Nat):Inl:=fun yl g ds off H K KP=>inlN Tryz.prog tb k yl g ds off H K KP∨insO yl g ds off H K KP∨delO yl g ds off H K KP
theorem inlY_ok (k:Nat):InlOk Tryz.prog (inlY k):=fun yl g ds off H K KP hh=>by
 rcases hh with hh|hh|hh
 ·exact jdg tbOk k yl g ds off H K KP hh
 ·exact insO_ok yl g ds off H K KP hh
 ·exact delO_ok yl g ds off H K KP hh
end Go.Proofs.YtpkdedncgclblaaGreatDoor
end
section
namespace Go.Proofs.YtpkdedncgclblaaGreatDoor
open Go Go.V
def dcode (n c0:Int):Int:=if tkn c0>n∨n=0∨(n>8∧tkn c0=0) then (if n>8 then 3 else 1) else c0
def darg (ins n c a:Int):Int:=if c=1 then (a%65536)%ins else if c=2 then 100*a else if c=11 then (a%65536)%n else 0
def dop (ins n:Int)(s:Int×Int):Int×Int:=(dcode n (1+s.1%12),darg ins n (dcode n (1+s.1%12)) s.2)
def dst (ins:Int)(t:List (Int×Int)×Int)(s:Int×Int):List (Int×Int)×Int:=(t.1++[dop ins t.2 s],t.2-tkn (dop ins t.2 s).1+1)
def dfo (ins:Int)(l:List (Int×Int)):List (Int×Int)×Int:=l.foldl (dst ins) ([],0)
theorem dfo_snoc (ins:Int)(l:List (Int×Int))(s:Int×Int):dfo ins (l++[s])=dst ins (dfo ins l) s:=by unfold dfo;rw[List.foldl_append];rfl
def dup (ins o:Int):Nat→List (Int×Int)×Int→List (Int×Int)×Int
 | 0,t=>t
 | k+1,t=>if t.2<o then dup ins o k (t.1++[(1,t.2%ins)],t.2+1) else t
def ddn (o:Int):Nat→List (Int×Int)×Int→List (Int×Int)×Int
 | 0,t=>t
 | k+1,t=>if t.2>o then ddn o k (t.1++[(3,0)],t.2-1) else t
def dprog (ins o:Int)(l:List (Int×Int)):List (Int×Int):=(ddn o 9 (dup ins o 3 (dfo ins (l.take 12)))).1
structure Good (ins:Int)(t:List (Int×Int)×Int)(m:Nat):Prop where
 ok:∃ d,svL ins (0,0) t.1=some (t.2,d)∧d≤9
 lo:0≤t.2
 hi:t.2≤9
 len:t.1.length≤m
theorem Good.snoc {ins:Int}{t:List (Int×Int)×Int}{m:Nat}{o:Int×Int}(h:Good ins t m)(h1:tkb o.1=true)(h2:tkn o.1≤t.2)(h3:loA o.1≤o.2)(h4:o.2≤hiA o.1 ins t.2)(h5:t.2-tkn o.1+1≤9):Good ins (t.1++[o],t.2-tkn o.1+1) (m+1):=by
 obtain⟨d,hd,h9⟩:=h.ok
 refine⟨⟨max d (t.2+(1-tkn o.1)),?_,by omega⟩,by dsimp only;omega,h5,by simp;exact h.len⟩
 dsimp only
 rw[jhp,hd]
 dsimp only
 unfold svL svS svL
 rw[if_pos ⟨h1,h2,h3,h4,by dsimp only;omega⟩]
 rw[show t.2+(1-tkn o.1)=t.2-tkn o.1+1 by omega]
theorem dop_code (ins n:Int)(s:Int×Int):tkb (dop ins n s).1=true:=by
 unfold dop dcode tkb
 dsimp only
 split
 ·split<;>decide
 ·simp only[decide_eq_true_eq];omega
theorem good_dst {ins:Int}(hi:1≤ins){t:List (Int×Int)×Int}{m:Nat}(h:Good ins t m)(s:Int×Int)(hs : -32768≤s.2∧s.2≤32767):Good ins (dst ins t s) (m+1):=by
 have g1:=h.lo
 have g2:=h.hi
 have t3:tkn 3=2:=rfl
 have t1:tkn 1=0:=rfl
 have key:tkn (dop ins t.2 s).1≤t.2∧t.2-tkn (dop ins t.2 s).1+1≤9∧((dop ins t.2 s).1=11→0<t.2):=by
  unfold dop dcode
  dsimp only
  have hb:=jeB (1+s.1%12)
  split
  ·split
   ·rw[t3];omega
   ·rw[t1];omega
  ·rename_i hn
   refine⟨by omega,?_,fun _=>by omega⟩
   omega
 refine h.snoc (dop_code ins t.2 s) key.1 ?_ ?_ key.2.1
 ·unfold loA dop darg
  dsimp only
  generalize dcode t.2 (1+s.1%12)=c
  split
  ·rename_i e;subst e;simp;omega
  ·split
   ·exact jiu _ (by omega)
   ·rename_i e1;split
    ·rename_i e;by_cases h0:t.2=0
     ·rw[h0,Int.emod_zero];omega
     ·exact jiu _ h0
    ·exact Int.le_refl _
 ·have k3:=key.2.2
  unfold hiA
  unfold dop at k3 ⊢
  dsimp only at k3 ⊢
  generalize dcode t.2 (1+s.1%12)=c at *
  unfold darg
  split
  ·rename_i e;subst e;simp;have:=jiT (s.2%65536) (b:=ins) (by omega);omega
  ·rename_i e1
   split
   ·rename_i e;subst e;simp;omega
   ·rename_i e2
    split
    ·rename_i e;subst e;simp;have:=jiT (s.2%65536) (b:=t.2) (k3 rfl);omega
    ·exact Int.le_refl _
theorem jg6 {ins:Int}(hi:1≤ins):∀ (l:List (Int×Int)) {t:List (Int×Int)×Int} {m:Nat},Good ins t m→(∀ s∈l, -32768≤s.2∧s.2≤32767)→Good ins (l.foldl (dst ins) t) (m+l.length)
 | [],_,_,h,_=>h
 | s::l,t,m,h,hl=>by
  have:=jg6 hi l (good_dst hi h s (hl s List.mem_cons_self)) (fun x hx=>hl x (List.mem_cons_of_mem _ hx))
  rw[jji,show m+(l.length+1)=m+1+l.length by omega]
  exact this
theorem good_dfo {ins:Int}(hi:1≤ins)(l:List (Int×Int))(hl:∀ s∈l, -32768≤s.2∧s.2≤32767):Good ins (dfo ins l) (0+l.length):=
 jg6 hi l ⟨⟨0,rfl,by decide⟩,Int.le_refl _,by decide,jiB _⟩ hl
theorem good_up {ins o:Int}(hi:1≤ins)(ho:o≤9):∀ (k:Nat) {t:List (Int×Int)×Int} {m:Nat},Good ins t m→Good ins (dup ins o k t) (m+k)
 | 0,_,_,h=>h
 | k+1,t,m,h=>by
  unfold dup
  split
  ·rename_i c
   have g:=h.snoc (o:=(1,t.2%ins)) rfl (by show (0:Int)≤t.2;exact h.lo) (by show (0:Int)≤_;exact jiu _ (by omega)) (by show t.2%ins≤ins-1;have:=jiT t.2 (b:=ins) (by omega);omega) (by show t.2-0+1≤9;omega)
   have g2:Good ins (t.1++[(1,t.2%ins)],t.2+1) (m+1):=by
    have e:t.2-tkn 1+1=t.2+1:=by show t.2-0+1=_;omega
    rw[← e];exact g
   rw[show m+(k+1)=m+1+k by omega]
   exact good_up hi ho k g2
  ·exact⟨h.ok,h.lo,h.hi,by have:=h.len;omega⟩
theorem up_ge {ins o:Int} : ∀ (k:Nat) {t:List (Int×Int)×Int},o-t.2≤k→o≤(dup ins o k t).2
 | 0,t,h=>by unfold dup;omega
 | k+1,t,h=>by
  unfold dup
  split
  ·exact up_ge k (by dsimp only;omega)
  ·omega
theorem good_dn {ins o:Int}(ho:1≤o):∀ (k:Nat) {t:List (Int×Int)×Int} {m:Nat},Good ins t m→Good ins (ddn o k t) (m+k)
 | 0,_,_,h=>h
 | k+1,t,m,h=>by
  unfold ddn
  split
  ·rename_i c
   have h9:=h.hi
   have g:=h.snoc (o:=(3,0)) rfl (by show (2:Int)≤t.2;omega) (by show (0:Int)≤0;omega) (by show (0:Int)≤0;omega) (by show t.2-2+1≤9;omega)
   have g2:Good ins (t.1++[(3,0)],t.2-1) (m+1):=by
    have e:t.2-tkn 3+1=t.2-1:=by show t.2-2+1=_;omega
    rw[← e];exact g
   rw[show m+(k+1)=m+1+k by omega]
   exact good_dn ho k g2
  ·exact⟨h.ok,h.lo,h.hi,by have:=h.len;omega⟩
theorem dn_le {o:Int} : ∀ (k:Nat) {t:List (Int×Int)×Int},t.2-o≤k→o≤t.2→(ddn o k t).2=o
 | 0,t,h,h2=>by unfold ddn;omega
 | k+1,t,h,h2=>by
  unfold ddn
  split
  ·exact dn_le k (by dsimp only;omega) (by dsimp only;omega)
  ·omega
theorem dprog_ok9 {ins o:Int}(hi:1≤ins∧ins≤4)(ho:1≤o∧o≤3)(l:List (Int×Int))(hl:∀ s∈l, -32768≤s.2∧s.2≤32767):(∃ d,surv (dprog ins o l) ins o=some d∧d≤9)∧(dprog ins o l).length≤24:=by
 have g0:=good_dfo hi.1 (l.take 12) (fun s hs=>hl s (jjf hs))
 have g1:=good_up hi.1 (o:=o) (by omega) 3 g0
 have g2:=good_dn (o:=o) ho.1 9 g1
 have e1:=up_ge (ins:=ins) (o:=o) 3 (t:=dfo ins (l.take 12)) (by have:=g0.lo;omega)
 have e2:=dn_le (o:=o) 9 (t:=dup ins o 3 (dfo ins (l.take 12))) (by have:=g1.hi;omega) e1
 have hlen:(dprog ins o l).length≤24:=by
  have:=g2.len
  have h12:(l.take 12).length≤12:=List.length_take_le _ _
  unfold dprog;omega
 obtain⟨d,hd,h9⟩:=g2.ok
 refine⟨⟨d,?_,h9⟩,hlen⟩
 unfold surv
 rw[if_pos ⟨hi.1,hi.2,ho.1,by omega,by omega⟩]
 rw[e2] at hd
 unfold dprog
 rw[hd]
 dsimp only
 rw[if_pos rfl]
theorem dprog_ok {ins o:Int}(hi:1≤ins∧ins≤4)(ho:1≤o∧o≤3)(l:List (Int×Int))(hl:∀ s∈l, -32768≤s.2∧s.2≤32767):(∃ d,surv (dprog ins o l) ins o=some d)∧(dprog ins o l).length≤24:=by
 obtain⟨⟨d,h1,_⟩,h2⟩:=dprog_ok9 hi ho l hl
 exact⟨⟨d,h1⟩,h2⟩
end Go.Proofs.YtpkdedncgclblaaGreatDoor
end
section
namespace Go.Proofs.YtpkdedncgclblaaGreatDoor
open Go Go.V Go.Nb
def bendP (W A:Int)(q:Int×Int)(p:List (Int×Int)):List (Int×Int):=
 if W%6=0 then (if (A%((p.length:Int)+1)).toNat<p.length then p.set (A%((p.length:Int)+1)).toNat q else p)
 else if W%6=1 then p.take (A%((p.length:Int)+1)).toNat++[q]++p.drop (A%((p.length:Int)+1)).toNat
 else if W%6=2 then (if (A%((p.length:Int)+1)).toNat<p.length then p.take (A%((p.length:Int)+1)).toNat++p.drop ((A%((p.length:Int)+1)).toNat+1) else p)
 else if W%6=3 then List.replicate (9+A%9).toNat (2,0)++p
 else if W%6=4 then p++List.replicate ((39+A%3)-p.length).toNat (8,0)
 else p
theorem bcl_set (q:Int×Int):∀ (K:List D→Prop) (p:List (Int×Int)) (i:Nat),i<p.length→jaR (bcl p) (i*2) [.int .i64 q.1,.int .i64 q.2] K=K (bcl (p.set i q))
 | _,[],_,h=>absurd h (by simp)
 | K,u::p,0,_=>by
  show jaR (bcl p) 0 [] _=_
  cases h:bcl p<;>simp only[jaR,List.set_cons_zero,bcl,h]
 | K,u::p,i+1,h=>by
  rw[show (i+1)*2=i*2+1+1 by omega]
  show jaR (bcl p) (i*2) _ _=_
  rw[bcl_set q _ p i (by simpa using h)]
  rfl
theorem bcl_tk:∀ (p:List (Int×Int)) (i:Nat),(bcl p).take (i*2)=bcl (p.take i)
 | [],i=>by simp[bcl]
 | q::p,0=>rfl
 | q::p,i+1=>by
  rw[show (i+1)*2=i*2+1+1 by omega]
  simp only[bcl,List.take_succ_cons,bcl_tk p i]
theorem bcl_dr:∀ (p:List (Int×Int)) (i:Nat),(bcl p).drop (i*2)=bcl (p.drop i)
 | [],i=>by simp[bcl]
 | q::p,0=>rfl
 | q::p,i+1=>by
  rw[show (i+1)*2=i*2+1+1 by omega]
  simp only[bcl,List.drop_succ_cons,bcl_dr p i]
theorem fin_q (q:List (Int×Int))(n:Nat)(B:List D)(hn:q.length=n)(hB:B=bcl q):Fin (oL q) (.slf 2 n (fun t=>(B.drop (t*2)).take 2)):=by
 subst hn
 subst hB
 exact jdk fun _ _=>rfl
theorem jil:type_of% @jjg ∧ type_of% @jiy:=⟨@jjg,@jiy⟩
theorem jie:type_of% @jiA∧type_of% @jiy:=⟨@jiA,@jiy⟩
theorem bend_x (p:List (Int×Int))(W A c a:Int)(h0:0<p.length)(h:p.length≤60)(hW:0≤W∧W≤255)(hA:0≤A∧A≤255)(hc:InR .i64 c)(ha:InR .i64 a):Cl 59 [.agg [.int .u8 W,.int .u8 A,.int .i64 c,.int .i64 a],oL p] (oL (bendP W A (c,a) p)):=by
 have hb:Nat.beq p.length 0=false:=by
  cases e:Nat.beq p.length 0 with
  | false=>rfl
  | true=>have:=jiq e;omega
 have hcF:∀ K,catF 2 (fun j=>List.take 2 (List.drop (j*2) (bcl p))) p.length [] K=K (bcl p):=fun K=>by rw[jhi p K p.length [] (jiB _),jjs,jjk]
 have pu:=jev p
 have fr:=jfl p
 have pg:=jaA p
 have pb:=jbs p
 have bo:=jbO p
 have hz:Nat.ble p.length 1000000=true:=by rw[ji0];omega
 refine jbr (jd2 tbOk (inlY_ok 6)) (jaw Tryz.func59 rfl rfl) ⟨_,_,⟨Tryz.func59,rfl,rfl,jis rfl⟩,?_⟩
 (conv=>whnf)
 (conv=>whnf)
 (try simp only[jil,hz,fr])
 repeat ((first|refine V.s1 ?_|((try ((with_reducible refine .ext ?_);(conv=>whnf);(try simp only[jil,hz,fr])));(with_reducible refine jaa (r:=?_) ?_ ?_);rotate_left;(focus (first|fail));(conv=>whnf))|(((rewrite [hb];(conv=>whnf)));(conv=>whnf))|(((rewrite [hcF];(conv=>whnf)));(conv=>whnf))|(((rewrite [pg];(conv=>whnf)));(conv=>whnf)));(try simp only[jil,hz,fr]))
 refine .inl ?_
 (conv=>whnf)
 refine⟨0,Or.inl ⟨_,_,⟨Tryz.func24,rfl,rfl,jis rfl⟩,?_⟩⟩
 (conv=>whnf)
 (conv=>whnf)
 (try simp only[jil,hz,fr])
 repeat ((first|refine V.s1 ?_|((try ((with_reducible refine .ext ?_);(conv=>whnf);(try simp only[jil,hz,fr])));(with_reducible refine jaa (r:=?_) ?_ ?_);rotate_left;(focus (first|fail));(conv=>whnf))|(((rewrite [hb];(conv=>whnf)));(conv=>whnf))|(((rewrite [hcF];(conv=>whnf)));(conv=>whnf))|(((rewrite [pu];(conv=>whnf)));(conv=>whnf))|(((rewrite [pg];(conv=>whnf)));(conv=>whnf)));(try simp only[jil,hz,fr]))
 obtain⟨i,hi⟩:∃ i:Nat,A%((p.length:Int)+1)=(i:Int):=⟨(A%((p.length:Int)+1)).toNat,by have:=jiu A (show (p.length:Int)+1≠0 by omega);omega⟩
 have hi2:i≤p.length:=by have:=jiT A (show 0<(p.length:Int)+1 by omega);omega
 by_cases hW0:W%6=0
 ·refine Cnd.yes (by simp only[hW0,decide_eq_true_eq]) ?_
  (conv=>whnf)
  (try simp only[jie,hi])
  repeat ((first|refine V.s1 ?_|((try ((with_reducible refine .ext ?_);(conv=>whnf);(try simp only[jie,hi])));(with_reducible refine jaa (r:=?_) ?_ ?_);rotate_left;(focus (first|fail));(conv=>whnf))|(((rewrite [pg];(conv=>whnf)));(conv=>whnf)));(try simp only[jie,hi]))
  have e:bendP W A (c,a) p=if i<p.length then p.set i (c,a) else p:=by unfold bendP;rw[if_pos hW0,hi,jiA]
  rw[e]
  by_cases hlt:i<p.length
  ·refine Cnd.yes (by simp only[decide_eq_true_eq];omega) ?_
   rw[if_pos hlt]
   (conv=>whnf)
   (try simp only[jie])
   repeat ((first|refine V.s1 ?_|((try ((with_reducible refine .ext ?_);(conv=>whnf);(try simp only[jie])));(with_reducible refine jaa (r:=?_) ?_ ?_);rotate_left;(focus (first|fail));(conv=>whnf))|(((rewrite [pg];(conv=>whnf)));(conv=>whnf)));(try simp only[jie]))
   rewrite [bcl_set (c,a) _ p i hlt]
   have pg2:=jaA (p.set i (c,a))
   have pb2:=jbs (p.set i (c,a))
   have bo2:=jbO (p.set i (c,a))
   rw[jjq] at bo2
   (conv=>whnf)
   (conv=>whnf)
   (try simp only[jie])
   repeat ((first|refine V.s1 ?_|((try ((with_reducible refine .ext ?_);(conv=>whnf);(try simp only[jie])));(with_reducible refine jaa (r:=?_) ?_ ?_);rotate_left;(focus (first|fail));(conv=>whnf))|(((rewrite [pg2];(conv=>whnf)));(conv=>whnf))|(((rewrite [bo2];(conv=>whnf)));(conv=>whnf))|(((rewrite [pb2];(conv=>whnf)));(conv=>whnf))|(((rewrite [pb];(conv=>whnf)));(conv=>whnf)));(try simp only[jie]))
   first|exact Fin.of rfl|exact fin_q _ _ _ jjq rfl
  ·refine Cnd.no (by simp only[decide_eq_false_iff_not];omega) ?_
   rw[if_neg hlt]
   (conv=>whnf)
   (try simp only[jie])
   repeat ((first|refine V.s1 ?_|((try ((with_reducible refine .ext ?_);(conv=>whnf);(try simp only[jie])));(with_reducible refine jaa (r:=?_) ?_ ?_);rotate_left;(focus (first|fail));(conv=>whnf))|(((rewrite [pg];(conv=>whnf)));(conv=>whnf))|(((rewrite [bo];(conv=>whnf)));(conv=>whnf))|(((rewrite [pb];(conv=>whnf)));(conv=>whnf)));(try simp only[jie]))
   refine Fin.of ?_
   simp only[jiy]
 refine Cnd.no (by simp only[decide_eq_false_iff_not];exact hW0) ?_
 (conv=>whnf)
 (try simp only[jie,hi])
 repeat ((first|refine V.s1 ?_|((try ((with_reducible refine .ext ?_);(conv=>whnf);(try simp only[jie,hi])));(with_reducible refine jaa (r:=?_) ?_ ?_);rotate_left;(focus (first|fail));(conv=>whnf))|(((rewrite [pg];(conv=>whnf)));(conv=>whnf)));(try simp only[jie,hi]))
 by_cases hW1:W%6=1
 ·refine Cnd.yes (by simp only[hW1,decide_eq_true_eq]) ?_
  have e:bendP W A (c,a) p=p.take i++[(c,a)]++p.drop i:=by unfold bendP;rw[if_neg hW0,if_pos hW1,hi,jiA]
  rw[e]
  (conv=>whnf)
  (try simp only[jie,hi])
  repeat ((first|refine V.s1 ?_|((try ((with_reducible refine .ext ?_);(conv=>whnf);(try simp only[jie,hi])));(with_reducible refine jaa (r:=?_) ?_ ?_);rotate_left;(focus (first|fail));(conv=>whnf))|(((rewrite [pg];(conv=>whnf)));(conv=>whnf)));(try simp only[jie,hi]))
  refine .inl ?_
  (conv=>whnf)
  refine⟨0,Or.inr (Or.inl ⟨rfl,85,p.length,i,35,bcl p,[.int .i64 c,.int .i64 a],rfl,by decide,rfl,rfl,jaU p,rfl,pu,rfl,hi2,by omega,?_⟩)⟩
  (conv=>whnf)
  (conv=>whnf)
  (try simp only[jie])
  repeat ((first|refine V.s1 ?_|((try ((with_reducible refine .ext ?_);(conv=>whnf);(try simp only[jie])));(with_reducible refine jaa (r:=?_) ?_ ?_);rotate_left;(focus (first|fail));(conv=>whnf))|(((rewrite [pg];(conv=>whnf)));(conv=>whnf))|(((rewrite [bo];(conv=>whnf)));(conv=>whnf))|(((rewrite [pb];(conv=>whnf)));(conv=>whnf)));(try simp only[jie]))
  refine fin_q _ _ _ (by simp only[ji8,ji9,jjo,jji,List.length_nil];omega) ?_
  rw[jaM,jaM,bcl_tk,bcl_dr]
  rfl
 refine Cnd.no (by simp only[decide_eq_false_iff_not];exact hW1) ?_
 (conv=>whnf)
 (try simp only[jie,hi])
 repeat ((first|refine V.s1 ?_|((try ((with_reducible refine .ext ?_);(conv=>whnf);(try simp only[jie,hi])));(with_reducible refine jaa (r:=?_) ?_ ?_);rotate_left;(focus (first|fail));(conv=>whnf))|(((rewrite [pg];(conv=>whnf)));(conv=>whnf)));(try simp only[jie,hi]))
 by_cases hW2:W%6=2
 ·refine Cnd.yes (by simp only[hW2,decide_eq_true_eq]) ?_
  have e:bendP W A (c,a) p=if i<p.length then p.take i++p.drop (i+1) else p:=by unfold bendP;rw[if_neg hW0,if_neg hW1,if_pos hW2,hi,jiA]
  rw[e]
  (conv=>whnf)
  (try simp only[jie,hi])
  repeat ((first|refine V.s1 ?_|((try ((with_reducible refine .ext ?_);(conv=>whnf);(try simp only[jie,hi])));(with_reducible refine jaa (r:=?_) ?_ ?_);rotate_left;(focus (first|fail));(conv=>whnf))|(((rewrite [pg];(conv=>whnf)));(conv=>whnf)));(try simp only[jie,hi]))
  by_cases hlt:i<p.length
  ·refine Cnd.yes (by simp only[decide_eq_true_eq];omega) ?_
   rw[if_pos hlt]
   (conv=>whnf)
   (try simp only[jie])
   repeat ((first|refine V.s1 ?_|((try ((with_reducible refine .ext ?_);(conv=>whnf);(try simp only[jie])));(with_reducible refine jaa (r:=?_) ?_ ?_);rotate_left;(focus (first|fail));(conv=>whnf))|(((rewrite [pg];(conv=>whnf)));(conv=>whnf)));(try simp only[jie]))
   refine .inl ?_
   (conv=>whnf)
   refine⟨0,Or.inr (Or.inr ⟨rfl,85,p.length,i,bcl p,rfl,rfl,jaU p,pu,hlt,by omega,?_⟩)⟩
   (conv=>whnf)
   (conv=>whnf)
   (try simp only[jie])
   repeat ((first|refine V.s1 ?_|((try ((with_reducible refine .ext ?_);(conv=>whnf);(try simp only[jie])));(with_reducible refine jaa (r:=?_) ?_ ?_);rotate_left;(focus (first|fail));(conv=>whnf))|(((rewrite [pg];(conv=>whnf)));(conv=>whnf))|(((rewrite [bo];(conv=>whnf)));(conv=>whnf))|(((rewrite [pb];(conv=>whnf)));(conv=>whnf)));(try simp only[jie]))
   refine fin_q _ _ _ (by simp only[ji8,ji9,jjo];omega) ?_
   rw[jaM,bcl_tk,bcl_dr]
  ·refine Cnd.no (by simp only[decide_eq_false_iff_not];omega) ?_
   rw[if_neg hlt]
   (conv=>whnf)
   (try simp only[jie])
   repeat ((first|refine V.s1 ?_|((try ((with_reducible refine .ext ?_);(conv=>whnf);(try simp only[jie])));(with_reducible refine jaa (r:=?_) ?_ ?_);rotate_left;(focus (first|fail));(conv=>whnf))|(((rewrite [pg];(conv=>whnf)));(conv=>whnf))|(((rewrite [bo];(conv=>whnf)));(conv=>whnf))|(((rewrite [pb];(conv=>whnf)));(conv=>whnf)));(try simp only[jie]))
   refine Fin.of ?_
   simp only[jiy]
 refine Cnd.no (by simp only[decide_eq_false_iff_not];exact hW2) ?_
 (conv=>whnf)
 (try simp only[jie,hi])
 repeat ((first|refine V.s1 ?_|((try ((with_reducible refine .ext ?_);(conv=>whnf);(try simp only[jie,hi])));(with_reducible refine jaa (r:=?_) ?_ ?_);rotate_left;(focus (first|fail));(conv=>whnf))|(((rewrite [pg];(conv=>whnf)));(conv=>whnf)));(try simp only[jie,hi]))
 by_cases hW3:W%6=3
 ·refine Cnd.yes (by simp only[hW3,decide_eq_true_eq]) ?_
  have e:bendP W A (c,a) p=List.replicate (9+A%9).toNat (2,0)++p:=by unfold bendP;rw[if_neg hW0,if_neg hW1,if_neg hW2,if_pos hW3]
  rw[e]
  (conv=>whnf)
  (try simp only[jie,hi])
  repeat ((first|refine V.s1 ?_|((try ((with_reducible refine .ext ?_);(conv=>whnf);(try simp only[jie,hi])));(with_reducible refine jaa (r:=?_) ?_ ?_);rotate_left;(focus (first|fail));(conv=>whnf))|(((rewrite [pg];(conv=>whnf)));(conv=>whnf)));(try simp only[jie,hi]))
  obtain⟨N,hN⟩:∃ N:Nat,9+A%9=(N:Int):=⟨(9+A%9).toNat,by omega⟩
  have hN2:N≤17:=by omega
  rw[hN,jiA]
  refine Lp.of ⟨Nat,fun k=>k≤N,fun k=>[(1,oL (List.replicate k ((2:Int),(0:Int))++p)),(54,.int .i64 N),(55,.int .i64 k)],fun _=>[],fun k=>N-k,⟨0,jit _,?_⟩,?_⟩
  ·refine Wk.pub 85 ?_
   (conv=>whnf)
   repeat (first|(rewrite [bo];(conv=>whnf))|(rewrite [pb];(conv=>whnf)))
   simp only[jiy]
   exact V.wk
  intro k hk
  dsimp only at hk ⊢
  obtain⟨q,hq⟩:∃ q,q=List.replicate k ((2:Int),(0:Int))++p:=⟨_,rfl⟩
  have hql:q.length=k+p.length:=by rw[hq,ji8,List.length_replicate]
  rw[← hq]
  have hbq:Nat.beq q.length 0=false:=by
   cases e:Nat.beq q.length 0 with
   | false=>rfl
   | true=>have:=jiq e;omega
  have hcq:∀ K,catF 2 (fun j=>List.take 2 (List.drop (j*2) (bcl q))) q.length [] K=K (bcl q):=fun K=>by rw[jhi q K q.length [] (jiB _),jjs,jjk]
  have puq:=jev q
  have frq:=jfl q
  have pgq:=jaA q
  have pbq:=jbs q
  have boq:bslOk (.int .i64 2 :: .int .i64 0::bcl q) 0 (q.length+1) 2=true:=jbO ((2,0)::q)
  have pb1:∀ (i:Nat) (c:Chunk) (K:List D→Prop),pubLK i c (.int .i64 2 :: .int .i64 0::bcl q) K=K (.int .i64 2 :: .int .i64 0::bcl q):=jbs ((2,0)::q)
  have frq2:∀ i,D.freeL i (.int .i64 2 :: .int .i64 0::bcl q)=true:=jfl ((2,0)::q)
  have hzq:Nat.ble (1+q.length) 1000000=true:=by rw[ji0];omega
  refine V.r0 @jiy ?_
  refine V.br (fun hkN=>?_) (fun hkN=>?_)
  ·simp only[decide_eq_true_eq] at hkN
   (conv=>whnf)
   (try simp only[jil,hzq,frq])
   repeat ((first|refine V.s1 ?_|((try ((with_reducible refine .ext ?_);(conv=>whnf);(try simp only[jil,hzq,frq])));(with_reducible refine jaa (r:=?_) ?_ ?_);rotate_left;(focus (first|fail));(conv=>whnf))|(((rewrite [hbq];(conv=>whnf)));(conv=>whnf))|(((rewrite [hcq];(conv=>whnf)));(conv=>whnf))|(((rewrite [puq];(conv=>whnf)));(conv=>whnf))|(((rewrite [pgq];(conv=>whnf)));(conv=>whnf))|(((simp only[jju,ji1,jjg,frq2];(conv=>whnf)));(conv=>whnf)));(try simp only[jil,hzq,frq]))
   refine⟨k+1,by omega,by omega,?_⟩
   have e1:List.replicate (k+1) ((2:Int),(0:Int))++p=(2,0)::q:=by rw[hq];rfl
   have e4:1+q.length=q.length+1:=by omega
   rw[e1]
   simp only[e4]
   refine Wk.pub 60 ?_
   (conv=>whnf)
   trace_state
   repeat (first|(rewrite [boq];(conv=>whnf))|(rewrite [pb1];(conv=>whnf))|(rewrite [pbq];(conv=>whnf)))
   simp only[jiy]
   exact V.wk
  ·simp only[decide_eq_false_iff_not] at hkN
   obtain rfl:k=N:=by omega
   rw[← hq]
   refine V.r0 @jiy ?_
   exact Fin.of rfl
 refine Cnd.no (by simp only[decide_eq_false_iff_not];exact hW3) ?_
 (conv=>whnf)
 (try simp only[jie,hi])
 repeat ((first|refine V.s1 ?_|((try ((with_reducible refine .ext ?_);(conv=>whnf);(try simp only[jie,hi])));(with_reducible refine jaa (r:=?_) ?_ ?_);rotate_left;(focus (first|fail));(conv=>whnf))|(((rewrite [pg];(conv=>whnf)));(conv=>whnf)));(try simp only[jie,hi]))
 by_cases hW4:W%6=4
 ·refine Cnd.yes (by simp only[hW4,decide_eq_true_eq]) ?_
  have e:bendP W A (c,a) p=p++List.replicate ((39+A%3)-p.length).toNat (8,0):=by unfold bendP;rw[if_neg hW0,if_neg hW1,if_neg hW2,if_neg hW3,if_pos hW4]
  rw[e]
  (conv=>whnf)
  (try simp only[jie,hi])
  repeat ((first|refine V.s1 ?_|((try ((with_reducible refine .ext ?_);(conv=>whnf);(try simp only[jie,hi])));(with_reducible refine jaa (r:=?_) ?_ ?_);rotate_left;(focus (first|fail));(conv=>whnf))|(((rewrite [pg];(conv=>whnf)));(conv=>whnf)));(try simp only[jie,hi]))
  obtain⟨N,hN⟩:∃ N:Nat,39+A%3=(N:Int):=⟨(39+A%3).toNat,by omega⟩
  have hN2:N≤41:=by omega
  have hNp:(39+A%3-(p.length:Int)).toNat=N-p.length:=by omega
  rw[hNp]
  refine Lp.of ⟨List (Int×Int),fun q=>q.length≤60∧q++List.replicate (N-q.length) ((8:Int),(0:Int))=p++List.replicate (N-p.length) (8,0),fun q=>[(1,.bsl 300 0 q.length 2),(2,.box 2 0)],fun q=>[(300,.box (bcl q)),(2,.box [.int .u8 W,.int .u8 A,.int .i64 c,.int .i64 a])],fun q=>60-q.length,⟨p,⟨h,rfl⟩,Wk.renS 85 300 1 p.length 2 (by decide) (by decide) (fr _) rfl rfl V.wk⟩,?_⟩
  rintro q ⟨hq1,hq2⟩
  dsimp only at hq1 hq2 ⊢
  have pgq:=jaA q
  have pbq:=jbs q
  have boq:=jbO q
  have hbq:Nat.beq (bcl q).length (q.length*2)=true:=jby q
  have frq:=jaB q 8 0
  (conv=>whnf)
  (try simp only[jiy])
  repeat ((first|refine V.s1 ?_|((try ((with_reducible refine .ext ?_);(conv=>whnf);(try simp only[jiy])));(with_reducible refine jaa (r:=?_) ?_ ?_);rotate_left;(focus (first|fail));(conv=>whnf))|(((rewrite [pgq];(conv=>whnf)));(conv=>whnf)));(try simp only[jiy]))
  refine V.br (fun hqN=>?_) (fun hqN=>?_)
  ·simp only[decide_eq_true_eq] at hqN
   have htq:Nat.ble (q.length+1) 1000000=true:=by rw[ji0];omega
   (conv=>whnf)
   (try simp only[jiy])
   repeat ((first|refine V.s1 ?_|((try ((with_reducible refine .ext ?_);(conv=>whnf);(try simp only[jiy])));(with_reducible refine jaa (r:=?_) ?_ ?_);rotate_left;(focus (first|fail));(conv=>whnf))|(((rewrite [pgq];(conv=>whnf)));(conv=>whnf))|(((simp only[hbq,htq,jju,frq];(conv=>whnf)));(conv=>whnf)));(try simp only[jiy]))
   have e2:bcl (q++[(8,0)])=bcl q++[.int .i64 8,.int .i64 0]:=jaM q [(8,0)]
   have e3:(q++[((8:Int),(0:Int))]).length=q.length+1:=by simp
   refine⟨q++[(8,0)],⟨by rw[e3];omega,?_⟩,by rw[e3];omega,?_⟩
   ·rw[← hq2,e3,jja]
    congr 1
    rw[show N-q.length=(N-(q.length+1))+1 by omega,List.replicate_succ]
    rfl
   ·rw[e2,e3]
    refine Wk.renS 75 300 1 (q.length+1) 2 (by decide) (by decide) (frq _) rfl rfl ?_
    exact V.wk
  ·simp only[decide_eq_false_iff_not] at hqN
   have hz0:N-q.length=0:=by omega
   rw[hz0,jju,jjk] at hq2
   rw[← hq2]
   (conv=>whnf)
   (try simp only[jiy])
   repeat ((first|refine V.s1 ?_|((try ((with_reducible refine .ext ?_);(conv=>whnf);(try simp only[jiy])));(with_reducible refine jaa (r:=?_) ?_ ?_);rotate_left;(focus (first|fail));(conv=>whnf))|(((rewrite [pgq];(conv=>whnf)));(conv=>whnf))|(((rewrite [boq];(conv=>whnf)));(conv=>whnf))|(((rewrite [pbq];(conv=>whnf)));(conv=>whnf)));(try simp only[jiy]))
   exact Fin.of rfl
 refine Cnd.no (by simp only[decide_eq_false_iff_not];exact hW4) ?_
 have e:bendP W A (c,a) p=p:=by unfold bendP;rw[if_neg hW0,if_neg hW1,if_neg hW2,if_neg hW3,if_neg hW4]
 rw[e]
 (conv=>whnf)
 (try simp only[jie])
 repeat ((first|refine V.s1 ?_|((try ((with_reducible refine .ext ?_);(conv=>whnf);(try simp only[jie])));(with_reducible refine jaa (r:=?_) ?_ ?_);rotate_left;(focus (first|fail));(conv=>whnf))|(((rewrite [pg];(conv=>whnf)));(conv=>whnf))|(((rewrite [bo];(conv=>whnf)));(conv=>whnf))|(((rewrite [pb];(conv=>whnf)));(conv=>whnf)));(try simp only[jie]))
 refine Fin.of ?_
 simp only[jiy]
end Go.Proofs.YtpkdedncgclblaaGreatDoor
end
section
namespace Go.Proofs.YtpkdedncgclblaaGreatDoor
open Go Go.V Go.RowKit Go.Proofs Go.Shelf Go.Lib
set_option maxHeartbeats 4000000
set_option maxRecDepth 1000000
theorem clone_nil (w:World):Calls Tryz.prog 24 #[.slice none 0 0] w fun e w'=>e = .returned (.slice none 0 0)∧w'=w:=by
 have q36:∀ (w:World) (a:Option Addr) (n c n' c':Nat),(binOp .eql 36 (.slice a n c) (.slice none n' c')).run Tryz.prog w = .ok (.bool a.isNone) w:=fun w a n c n' c'=>Lib.run_eql_slice_nil w _ _ a n c n' c' opSl
 have mixed:Tryz.prog.follows .mixedOrders=true:=by kernel_rfl
 go_enter Tryz.func24,Tryz.ntmps24
 go_wp2_with fail
 go_ret
 exact⟨rfl,rfl⟩
theorem clone_emp (w:World)(A:Addr)(cap:Nat):Calls Tryz.prog 24 #[.slice (some A) 0 cap] w fun e w'=>e = .returned (.slice (some ⟨w.heap.size,0,none⟩) 0 0)∧w'=w.alloc (.cells #[] 33):=by
 obtain⟨i0,hi0,hz0,hzs,hzb⟩:=info_parts jdy
 have hrun:∀ ty,(Builtin.append_ #[36,36] ty #[.slice (some ⟨w.heap.size,0,none⟩) 0 0,.slice (some A) 0 cap]).run Tryz.prog (w.alloc (.cells #[] 33)) = .ok (.slice (some ⟨w.heap.size,0,none⟩) (0+0) 0) ((w.alloc (.cells #[] 33)).setCells w.heap.size (0+0*i0.size) []):=fun ty=>
  run_append_room_cells (P:=Tryz.prog) (w.alloc (.cells #[] 33)) 36 ty 33 i0 opSl hi0 w.heap.size 0 0 0 A 0 cap [] (by simp) (fun j u hj=>by simp at hj) (fun u hu=>by simp at hu) (by omega) (fun j hj=>by simp at hj) (fun j hj=>by simp at hj)
 have q36:∀ (w:World) (a:Option Addr) (n c n' c':Nat),(binOp .eql 36 (.slice a n c) (.slice none n' c')).run Tryz.prog w = .ok (.bool a.isNone) w:=fun w a n c n' c'=>Lib.run_eql_slice_nil w _ _ a n c n' c' opSl
 have mixed:Tryz.prog.follows .mixedOrders=true:=by kernel_rfl
 go_enter Tryz.func24,Tryz.ntmps24
 go_wp2_with (at_builtin;refine Lib.wpList_append_run _ rfl _ _ _ _ rfl _ _ rfl rfl _ _ (hrun _) ?_)
 go_ret
 exact⟨rfl,rfl⟩
def cloO:Inl:=fun _ g ds off H K _=>g=24 ∧ ∃ f,ds=[.slf 2 0 f]∧K .nil H∧K (.bsl off 0 0 2) ((off,.box [])::jaC off H)
theorem cloO_ok:InlOk Tryz.prog cloO:=by
 intro yl g ds off H K KP hh cx E h w vs hoff hds hyl M hv
 obtain⟨rfl,f,rfl,hK1,hK2⟩:=hh
 refine⟨jaw Tryz.func24 rfl rfl,callsIn_wide.2 ?_⟩
 simp only[DenL] at hv
 obtain⟨x,_,rfl,hx,rfl⟩:=hv
 simp only[Den] at hx
 obtain⟨A,cap,rfl,_,_,hA⟩:=hx
 cases A with
 | none=>
  obtain⟨_,rfl⟩:=hA
  refine(clone_nil w).mono ?_
  rintro e w' ⟨rfl,rfl⟩
  exact .inl ⟨_,_,E,h,H,rfl,hK1,by simp only[Den],M⟩
 | some A=>
  refine(clone_emp w A cap).mono ?_
  rintro e w' ⟨rfl,rfl⟩
  obtain⟨a0,ha0⟩:∃ a0:Act,a0 = { tmps := #[Go.undef],defers:=cx.ds } := ⟨_,rfl⟩
  have S0:Sat cx E h a0 w [] H:=M.sat (fun t=>by show Den E h .any _;simp only[Den]) ⟨[],by simp,by rw[ha0];rfl,by simp⟩
  have hden:Den (E.set off w.heap.size 0 0) h (.bsl off 0 0 2) (.slice (some ⟨w.heap.size,0,none⟩) 0 0):=by
   simp only[Den]
   refine⟨E.set_real _ _ _ _,0,by rw[Env.set_blk],by omega,by omega,.inl rfl⟩
  have S1:=S0.alloc (i:=off) (r := .bsl off 0 0 2) (c := .box []) (s:=0) (n:=0) (d:=0) ((Below.refl _ w).alloc (jiB _) (.cells #[] 33)) ⟨E.set_real _ _ _ _,[],[],33,by
   rw[Env.set_blk]
   exact heap_alloc_new w (.cells #[] 33),by simp only[DenL],by simp,by rw[Env.set_siz];rfl⟩ (by rw[ha0];simp) (by omega) hden
  exact .inl ⟨_,_,_,_,_,rfl,hK2,hden,S1.ms⟩
theorem jhJ (vb vc:Nat)(w w1:World)(v':Value)(hrun:∀ ty,(Builtin.append_ #[36,36] ty #[.slice none 0 0,.slice (some ⟨vb,0,none⟩) 1 vc]).run Tryz.prog w = .ok v' w1) :
  Calls Tryz.prog 126 #[.slice none 0 0,.int .i64 0,.slice (some ⟨vb,0,none⟩) 1 vc] w fun e w'=>
   e = .returned v'∧w'=w1:=by
 have mixed:Tryz.prog.follows .mixedOrders=true:=by kernel_rfl
 go_enter Tryz.func126,Tryz.ntmps126
 go_wp2_with (at_builtin;refine Lib.wpList_append_run _ rfl _ _ _ _ rfl _ _ rfl rfl _ _ (hrun _) ?_)
 all_goals (go_ret;first|done|exact⟨rfl,rfl⟩)
def insN:Inl:=fun _ g ds _ H K _=>g=126 ∧ ∃ (k:Nat) (z:Int) (news:List D),ds=[.nil,.int .i64 z,.bsl k 0 1 2]∧z=0∧lookH H k=some (.box news)∧news.length=2∧D.pureL news=true ∧
 K (.slf 2 1 (fun t=>(news.drop (t*2)).take 2)) ((k,.gone)::H)
theorem insN_ok:InlOk Tryz.prog insN:=by
 intro yl g ds off H K KP hh cx E h w vs hoff hds hyl M hv
 obtain⟨rfl,k,z,ns,rfl,rfl,hk,hnl,hpn,hK⟩:=hh
 refine⟨jaw Tryz.func126 rfl rfl,callsIn_wide.2 ?_⟩
 obtain⟨x,y,z,rfl,hx,hy,hz⟩:=DenL.three hv
 simp only[Den] at hx hy hz
 obtain⟨rk,vc,rfl,hv1,hv2,hv3⟩:=hz
 obtain⟨_,nv,rest2,T2,hb2,hd2,hone2,hsz2⟩:=M.mem.ok k _ hk
 have hnl2:nv.length=2:=by rw[hd2.length,hnl]
 obtain⟨i0,hi0,hz0,hzs,hzb⟩:=info_parts jdy
 have hrun:∀ ty,(Builtin.append_ #[36,36] ty #[.slice none 0 0,.slice (some ⟨E.blk k,0,none⟩) 1 vc]).run Tryz.prog w=_:=fun ty=>
  run_append_nil (P:=Tryz.prog) w 36 ty 33 i0 _ opSl hi0 hz0 ⟨E.blk k,0,none⟩ 1 vc nv (by rw[hzs];exact hnl2) (fun t v ht=>by rw[Addr.add_lit,jiy];exact jaY hb2 ht) (by omega) (by omega) (by rw[hzb];omega)
 refine(show Calls Tryz.prog _ #[x,y,.slice (some ⟨E.blk k,0,none⟩) 1 vc] w _ by rw[hx,hy.1];exact jhJ (E.blk k) vc w _ _ hrun).mono ?_
 rintro e w' ⟨rfl,rfl⟩
 have hvals:∀ (o:Nat) v,nv[o]? = some v→(w.drew.alloc (.cells (nv.toArray++Builtin.zeroCells (Value.agg #[.int .i64 0,.int .i64 0]).cells (grownCap w 1 0 33-1)) 33)).cell? ⟨w.heap.size,o,none⟩=some v:=fun o v ho=>by
  rw[World.cell?_alloc_at (w:=w.drew) _ _ w.heap.size o rfl,Array.getElem?_append_left (by have:=(jjd.1 ho).1;simpa using this),jjn]
  exact ho
 obtain⟨hle,M'⟩:=MS.gave M hk rk (.inr (jiB _)) (Alone.alloc (Alone.refl _ w).drew _) hvals
 exact .inl ⟨_,_,E,_,_,rfl,hK,jhs hd2 hpn (by omega) hone2 hle (fun o v ho=>by unfold jal;rw[if_pos rfl];exact ho) (jaP _ _ _ _) (by omega),M'⟩
def inlZ (k:Nat):Inl:=fun yl g ds off H K KP=>inlY k yl g ds off H K KP∨cloO yl g ds off H K KP∨insN yl g ds off H K KP
theorem inlZ_ok (k:Nat):InlOk Tryz.prog (inlZ k):=fun yl g ds off H K KP hh=>by
 rcases hh with hh|hh
 ·exact inlY_ok k yl g ds off H K KP hh
 ·rcases hh with hh|hh
  ·exact cloO_ok yl g ds off H K KP hh
  ·exact insN_ok yl g ds off H K KP hh
end Go.Proofs.YtpkdedncgclblaaGreatDoor
end
section
namespace Go.Proofs.YtpkdedncgclblaaGreatDoor
open Go Go.V Go.Nb
theorem jik:type_of% @jjg ∧ type_of% @jiy:=⟨@jjg,@jiy⟩
theorem bend_0 (W A c a:Int)(hW:0≤W∧W≤255)(hA:0≤A∧A≤255)(hc:InR .i64 c)(ha:InR .i64 a):Cl 59 [.agg [.int .u8 W,.int .u8 A,.int .i64 c,.int .i64 a],oL []] (oL (bendP W A (c,a) [])):=by
 have eo:oL []=V.sl2 0 []:=rfl
 refine jbr (jd2 tbOk (inlZ_ok 6)) (jaw Tryz.func59 rfl rfl) ⟨_,_,⟨Tryz.func59,rfl,rfl,jis rfl⟩,?_⟩
 refine V.r0 jik ?_
 refine .inl ?_
 (conv=>whnf)
 refine⟨0,Or.inr (Or.inl ⟨rfl,_,rfl,?_,?_⟩)⟩
 ·have hi:A%(((0:Nat):Int)+1)=((0:Nat):Int):=by omega
  refine V.r0 jik ?_
  by_cases hW0:W%6=0
  ·have e:bendP W A (c,a) []=[]:=by unfold bendP;rw[if_pos hW0,if_neg (by simp)]
   rw[e]
   refine Cnd.yes (by simp only[hW0,decide_eq_true_eq]) ?_
   (conv=>whnf)
   (try simp only[jiy,hi])
   repeat ((first|refine V.s1 ?_);(try simp only[jiy,hi]))
   refine Cnd.no (by simp only[decide_eq_false_iff_not];omega) ?_
   refine V.r0 @jiy ?_
   exact jcJ _ _
  refine Cnd.no (by simp only[decide_eq_false_iff_not];exact hW0) ?_
  refine V.r0 @jiy ?_
  by_cases hW1:W%6=1
  ·refine Cnd.yes (by simp only[hW1,decide_eq_true_eq]) ?_
   have e:bendP W A (c,a) []=[(c,a)]:=by unfold bendP;rw[if_neg hW0,if_pos hW1];simp
   rw[e]
   (conv=>whnf)
   (try simp only[jiy,hi])
   repeat ((first|refine V.s1 ?_);(try simp only[jiy,hi]))
   refine .inl ?_
   (conv=>whnf)
   refine⟨0,Or.inr (Or.inr ⟨rfl,35,_,[.int .i64 c,.int .i64 a],rfl,by omega,rfl,rfl,rfl,?_⟩)⟩
   (conv=>whnf)
   (conv=>whnf)
   (try simp only[jiy,hi])
   repeat ((first|refine V.s1 ?_);(try simp only[jiy,hi]))
   first|exact Fin.of rfl|exact fin_q _ _ _ rfl rfl
  refine Cnd.no (by simp only[decide_eq_false_iff_not];exact hW1) ?_
  refine V.r0 @jiy ?_
  by_cases hW2:W%6=2
  ·have e:bendP W A (c,a) []=[]:=by unfold bendP;rw[if_neg hW0,if_neg hW1,if_pos hW2,if_neg (by simp)]
   rw[e]
   refine Cnd.yes (by simp only[hW2,decide_eq_true_eq]) ?_
   (conv=>whnf)
   (try simp only[jiy,hi])
   repeat ((first|refine V.s1 ?_);(try simp only[jiy,hi]))
   refine Cnd.no (by simp only[decide_eq_false_iff_not];omega) ?_
   refine V.r0 @jiy ?_
   exact jcJ _ _
  refine Cnd.no (by simp only[decide_eq_false_iff_not];exact hW2) ?_
  refine V.r0 @jiy ?_
  by_cases hW3:W%6=3
  ·refine Cnd.yes (by simp only[hW3,decide_eq_true_eq]) ?_
   have e:bendP W A (c,a) []=List.replicate (9+A%9).toNat (2,0):=by unfold bendP;rw[if_neg hW0,if_neg hW1,if_neg hW2,if_pos hW3,jjk]
   rw[e]
   refine V.r0 @jiy ?_
   obtain⟨N,hN⟩:∃ N:Nat,9+A%9=(N:Int):=⟨(9+A%9).toNat,by omega⟩
   have hN2:N≤17:=by omega
   have hN3:9≤N:=by omega
   rw[hN,jiA]
   refine Lp.of ⟨Nat,fun k=>k≤N,fun k=>[(1,match k with|0 => .nil|k+1=>oL (List.replicate (k+1) ((2:Int),(0:Int)))),(54,.int .i64 N),(55,.int .i64 k)],fun k=>[],fun k=>N-k,⟨0,jit _,V.wk⟩,?_⟩
   intro k hk
   cases k with
   | zero=>
    dsimp only at hk ⊢
    refine V.r0 @jiy ?_
    refine V.br (fun hkN=>?_) (fun hkN=>?_)
    ·simp only[decide_eq_true_eq] at hkN
     refine V.r0 jik ?_
     refine⟨0+1,by omega,by omega,?_⟩
     refine Wk.pub 58 ?_
     (conv=>whnf)
     simp only[jiy]
     exact V.wk
    ·simp only[decide_eq_false_iff_not] at hkN
     exact absurd hN3 (by omega)
   | succ k=>
    obtain⟨q,hq⟩:∃ q,q=List.replicate (k+1) ((2:Int),(0:Int)):=⟨_,rfl⟩
    have hql:q.length=k+1:=by rw[hq,List.length_replicate]
    dsimp only at hk ⊢
    rw[← hq]
    have hbq:Nat.beq q.length 0=false:=by
     cases e:Nat.beq q.length 0 with
     | false=>rfl
     | true=>have:=jiq e;omega
    have hcq:∀ K,catF 2 (fun j=>List.take 2 (List.drop (j*2) (bcl q))) q.length [] K=K (bcl q):=fun K=>by rw[jhi q K q.length [] (jiB _),jjs,jjk]
    have puq:=jev q
    have frq:=jfl q
    have pgq:=jaA q
    have pbq:=jbs q
    have boq:bslOk (.int .i64 2 :: .int .i64 0::bcl q) 0 (q.length+1) 2=true:=jbO ((2,0)::q)
    have pb1:∀ (i:Nat) (c:Chunk) (K:List D→Prop),pubLK i c (.int .i64 2 :: .int .i64 0::bcl q) K=K (.int .i64 2 :: .int .i64 0::bcl q):=jbs ((2,0)::q)
    have frq2:∀ i,D.freeL i (.int .i64 2 :: .int .i64 0::bcl q)=true:=jfl ((2,0)::q)
    have hzq:Nat.ble (1+q.length) 1000000=true:=by rw[ji0];omega
    refine V.r0 @jiy ?_
    refine V.br (fun hkN=>?_) (fun hkN=>?_)
    ·simp only[decide_eq_true_eq] at hkN
     (conv=>whnf)
     (try simp only[jik,hzq,frq])
     repeat ((first|refine V.s1 ?_|((try ((with_reducible refine .ext ?_);(conv=>whnf);(try simp only[jik,hzq,frq])));(with_reducible refine jaa (r:=?_) ?_ ?_);rotate_left;(focus (first|fail));(conv=>whnf))|(((rewrite [hbq];(conv=>whnf)));(conv=>whnf))|(((rewrite [hcq];(conv=>whnf)));(conv=>whnf))|(((rewrite [puq];(conv=>whnf)));(conv=>whnf))|(((rewrite [pgq];(conv=>whnf)));(conv=>whnf))|(((simp only[jju,ji1,jjg,frq2];(conv=>whnf)));(conv=>whnf)));(try simp only[jik,hzq,frq]))
     refine⟨k+1+1,by omega,by omega,?_⟩
     dsimp only
     have e1:List.replicate (k+1+1) ((2:Int),(0:Int))=(2,0)::q:=by rw[hq];rfl
     have e4:1+q.length=q.length+1:=by omega
     rw[e1]
     simp only[e4]
     refine Wk.pub 60 ?_
     (conv=>whnf)
     repeat (first|(rewrite [boq];(conv=>whnf))|(rewrite [pb1];(conv=>whnf))|(rewrite [pbq];(conv=>whnf)))
     simp only[jiy]
     exact V.wk
    ·simp only[decide_eq_false_iff_not] at hkN
     obtain rfl:N=k+1:=by omega
     rw[← hq]
     refine V.r0 @jiy ?_
     exact Fin.of rfl
  refine Cnd.no (by simp only[decide_eq_false_iff_not];exact hW3) ?_
  refine V.r0 @jiy ?_
  by_cases hW4:W%6=4
  ·refine Cnd.yes (by simp only[hW4,decide_eq_true_eq]) ?_
   obtain⟨N,hN⟩:∃ N:Nat,39+A%3=(N:Int):=⟨(39+A%3).toNat,by omega⟩
   have hN2:N≤41:=by omega
   have hN3:39≤N:=by omega
   have e:bendP W A (c,a) []=List.replicate N (8,0):=by unfold bendP;rw[if_neg hW0,if_neg hW1,if_neg hW2,if_neg hW3,if_pos hW4,hN];simp
   rw[e]
   refine V.r0 @jiy ?_
   refine Lp.of ⟨Nat,fun k=>k≤N,fun k=>match k with|0=>[(1,.nil),(2,.box 2 0)]|k+1=>[(1,.bsl 300 0 (k+1) 2),(2,.box 2 0)],fun k=>match k with|0=>[(2,.box [.int .u8 W,.int .u8 A,.int .i64 c,.int .i64 a])]|k+1=>[(300,.box (bcl (List.replicate (k+1) ((8:Int),(0:Int))))),(2,.box [.int .u8 W,.int .u8 A,.int .i64 c,.int .i64 a])],fun k=>N-k,⟨0,jit _,V.wk⟩,?_⟩
   intro k hk
   cases k with
   | zero=>
    dsimp only at hk ⊢
    refine V.r0 @jiy ?_
    refine V.br (fun hkN=>?_) (fun hkN=>?_)
    ·refine V.r0 jik ?_
     refine⟨0+1,by omega,by omega,?_⟩
     dsimp only
     refine Wk.renS 75 300 1 1 2 (by decide) (by decide) rfl rfl rfl ?_
     exact V.wk
    ·simp only[decide_eq_false_iff_not] at hkN
     exact absurd hN3 (by omega)
   | succ k=>
    obtain⟨q,hq⟩:∃ q,q=List.replicate (k+1) ((8:Int),(0:Int)):=⟨_,rfl⟩
    have hql:q.length=k+1:=by rw[hq,List.length_replicate]
    dsimp only at hk ⊢
    rw[← hq]
    have pgq:=jaA q
    have pbq:=jbs q
    have boq:=jbO q
    rw[hql] at boq
    have hbq:Nat.beq (bcl q).length ((k+1)*2)=true:=by rw[← hql];exact jby q
    have frq:=jaB q 8 0
    (conv=>whnf)
    (try simp only[jiy])
    repeat ((first|refine V.s1 ?_|((try ((with_reducible refine .ext ?_);(conv=>whnf);(try simp only[jiy])));(with_reducible refine jaa (r:=?_) ?_ ?_);rotate_left;(focus (first|fail));(conv=>whnf))|(((rewrite [pgq];(conv=>whnf)));(conv=>whnf)));(try simp only[jiy]))
    refine V.br (fun hqN=>?_) (fun hqN=>?_)
    ·simp only[decide_eq_true_eq] at hqN
     have htq:Nat.ble (k+1+1) 1000000=true:=by rw[ji0];omega
     (conv=>whnf)
     (try simp only[jiy])
     repeat ((first|refine V.s1 ?_|((try ((with_reducible refine .ext ?_);(conv=>whnf);(try simp only[jiy])));(with_reducible refine jaa (r:=?_) ?_ ?_);rotate_left;(focus (first|fail));(conv=>whnf))|(((rewrite [pgq];(conv=>whnf)));(conv=>whnf))|(((simp only[hbq,htq,jju,frq];(conv=>whnf)));(conv=>whnf)));(try simp only[jiy]))
     have e2:bcl (List.replicate (k+1+1) ((8:Int),(0:Int)))=bcl q++[.int .i64 8,.int .i64 0]:=by
      rw[List.replicate_succ',← hq]
      exact jaM q [(8,0)]
     refine⟨k+1+1,by omega,by omega,?_⟩
     dsimp only
     rw[e2]
     refine Wk.renS 75 300 1 (k+1+1) 2 (by decide) (by decide) (frq _) rfl rfl ?_
     exact V.wk
    ·simp only[decide_eq_false_iff_not] at hqN
     obtain rfl:N=k+1:=by omega
     rw[← hq]
     (conv=>whnf)
     (try simp only[jiy])
     repeat ((first|refine V.s1 ?_|((try ((with_reducible refine .ext ?_);(conv=>whnf);(try simp only[jiy])));(with_reducible refine jaa (r:=?_) ?_ ?_);rotate_left;(focus (first|fail));(conv=>whnf))|(((rewrite [pgq];(conv=>whnf)));(conv=>whnf))|(((rewrite [boq];(conv=>whnf)));(conv=>whnf))|(((rewrite [pbq];(conv=>whnf)));(conv=>whnf)));(try simp only[jiy]))
     exact fin_q _ _ _ hql rfl
  refine Cnd.no (by simp only[decide_eq_false_iff_not];exact hW4) ?_
  have e:bendP W A (c,a) []=[]:=by unfold bendP;rw[if_neg hW0,if_neg hW1,if_neg hW2,if_neg hW3,if_neg hW4]
  rw[e]
  refine V.r0 @jiy ?_
  exact jcJ _ _
 ·have hi:A%(((0:Nat):Int)+1)=((0:Nat):Int):=by omega
  refine V.r0 jik ?_
  by_cases hW0:W%6=0
  ·have e:bendP W A (c,a) []=[]:=by unfold bendP;rw[if_pos hW0,if_neg (by simp)]
   rw[e]
   refine Cnd.yes (by simp only[hW0,decide_eq_true_eq]) ?_
   (conv=>whnf)
   (try simp only[jiy,hi])
   repeat ((first|refine V.s1 ?_);(try simp only[jiy,hi]))
   first|exact jcJ _ _|exact fin_q _ _ _ rfl rfl
  refine Cnd.no (by simp only[decide_eq_false_iff_not];exact hW0) ?_
  refine V.r0 @jiy ?_
  by_cases hW1:W%6=1
  ·refine Cnd.yes (by simp only[hW1,decide_eq_true_eq]) ?_
   have e:bendP W A (c,a) []=[(c,a)]:=by unfold bendP;rw[if_neg hW0,if_pos hW1];simp
   rw[e]
   (conv=>whnf)
   (try simp only[jiy,hi])
   repeat ((first|refine V.s1 ?_);(try simp only[jiy,hi]))
   refine .inl ?_
   (conv=>whnf)
   refine⟨0,Or.inl (Or.inr (Or.inl ⟨rfl,78,0,0,35,[],[.int .i64 c,.int .i64 a],rfl,by decide,rfl,rfl,rfl,rfl,rfl,rfl,by decide,by decide,?_⟩))⟩
   (conv=>whnf)
   (conv=>whnf)
   (try simp only[jiy,hi])
   repeat ((first|refine V.s1 ?_);(try simp only[jiy,hi]))
   first|exact Fin.of rfl|exact fin_q _ _ _ rfl rfl
  refine Cnd.no (by simp only[decide_eq_false_iff_not];exact hW1) ?_
  refine V.r0 @jiy ?_
  by_cases hW2:W%6=2
  ·have e:bendP W A (c,a) []=[]:=by unfold bendP;rw[if_neg hW0,if_neg hW1,if_pos hW2,if_neg (by simp)]
   rw[e]
   refine Cnd.yes (by simp only[hW2,decide_eq_true_eq]) ?_
   (conv=>whnf)
   (try simp only[jiy,hi])
   repeat ((first|refine V.s1 ?_);(try simp only[jiy,hi]))
   first|exact jcJ _ _|exact fin_q _ _ _ rfl rfl
  refine Cnd.no (by simp only[decide_eq_false_iff_not];exact hW2) ?_
  refine V.r0 @jiy ?_
  by_cases hW3:W%6=3
  ·refine Cnd.yes (by simp only[hW3,decide_eq_true_eq]) ?_
   have e:bendP W A (c,a) []=List.replicate (9+A%9).toNat (2,0):=by unfold bendP;rw[if_neg hW0,if_neg hW1,if_neg hW2,if_pos hW3,jjk]
   rw[e]
   refine V.r0 @jiy ?_
   obtain⟨N,hN⟩:∃ N:Nat,9+A%9=(N:Int):=⟨(9+A%9).toNat,by omega⟩
   have hN2:N≤17:=by omega
   have hN3:9≤N:=by omega
   rw[hN,jiA]
   refine Lp.of ⟨Nat,fun k=>k≤N,fun k=>[(1,match k with|0 => .bsl 78 0 0 2|k+1=>oL (List.replicate (k+1) ((2:Int),(0:Int)))),(54,.int .i64 N),(55,.int .i64 k)],fun k=>match k with|0=>[(78,.box [])]|_+1=>[],fun k=>N-k,⟨0,jit _,V.wk⟩,?_⟩
   intro k hk
   cases k with
   | zero=>
    dsimp only at hk ⊢
    refine V.r0 @jiy ?_
    refine V.br (fun hkN=>?_) (fun hkN=>?_)
    ·simp only[decide_eq_true_eq] at hkN
     refine V.r0 jik ?_
     refine⟨0+1,by omega,by omega,?_⟩
     refine Wk.pub 58 ?_
     (conv=>whnf)
     simp only[jiy]
     exact V.wk
    ·simp only[decide_eq_false_iff_not] at hkN
     exact absurd hN3 (by omega)
   | succ k=>
    obtain⟨q,hq⟩:∃ q,q=List.replicate (k+1) ((2:Int),(0:Int)):=⟨_,rfl⟩
    have hql:q.length=k+1:=by rw[hq,List.length_replicate]
    dsimp only at hk ⊢
    rw[← hq]
    have hbq:Nat.beq q.length 0=false:=by
     cases e:Nat.beq q.length 0 with
     | false=>rfl
     | true=>have:=jiq e;omega
    have hcq:∀ K,catF 2 (fun j=>List.take 2 (List.drop (j*2) (bcl q))) q.length [] K=K (bcl q):=fun K=>by rw[jhi q K q.length [] (jiB _),jjs,jjk]
    have puq:=jev q
    have frq:=jfl q
    have pgq:=jaA q
    have pbq:=jbs q
    have boq:bslOk (.int .i64 2 :: .int .i64 0::bcl q) 0 (q.length+1) 2=true:=jbO ((2,0)::q)
    have pb1:∀ (i:Nat) (c:Chunk) (K:List D→Prop),pubLK i c (.int .i64 2 :: .int .i64 0::bcl q) K=K (.int .i64 2 :: .int .i64 0::bcl q):=jbs ((2,0)::q)
    have frq2:∀ i,D.freeL i (.int .i64 2 :: .int .i64 0::bcl q)=true:=jfl ((2,0)::q)
    have hzq:Nat.ble (1+q.length) 1000000=true:=by rw[ji0];omega
    refine V.r0 @jiy ?_
    refine V.br (fun hkN=>?_) (fun hkN=>?_)
    ·simp only[decide_eq_true_eq] at hkN
     (conv=>whnf)
     (try simp only[jik,hzq,frq])
     repeat ((first|refine V.s1 ?_|((try ((with_reducible refine .ext ?_);(conv=>whnf);(try simp only[jik,hzq,frq])));(with_reducible refine jaa (r:=?_) ?_ ?_);rotate_left;(focus (first|fail));(conv=>whnf))|(((rewrite [hbq];(conv=>whnf)));(conv=>whnf))|(((rewrite [hcq];(conv=>whnf)));(conv=>whnf))|(((rewrite [puq];(conv=>whnf)));(conv=>whnf))|(((rewrite [pgq];(conv=>whnf)));(conv=>whnf))|(((simp only[jju,ji1,jjg,frq2];(conv=>whnf)));(conv=>whnf)));(try simp only[jik,hzq,frq]))
     refine⟨k+1+1,by omega,by omega,?_⟩
     dsimp only
     have e1:List.replicate (k+1+1) ((2:Int),(0:Int))=(2,0)::q:=by rw[hq];rfl
     have e4:1+q.length=q.length+1:=by omega
     rw[e1]
     simp only[e4]
     refine Wk.pub 60 ?_
     (conv=>whnf)
     repeat (first|(rewrite [boq];(conv=>whnf))|(rewrite [pb1];(conv=>whnf))|(rewrite [pbq];(conv=>whnf)))
     simp only[jiy]
     exact V.wk
    ·simp only[decide_eq_false_iff_not] at hkN
     obtain rfl:N=k+1:=by omega
     rw[← hq]
     refine V.r0 @jiy ?_
     exact Fin.of rfl
  refine Cnd.no (by simp only[decide_eq_false_iff_not];exact hW3) ?_
  refine V.r0 @jiy ?_
  by_cases hW4:W%6=4
  ·refine Cnd.yes (by simp only[hW4,decide_eq_true_eq]) ?_
   obtain⟨N,hN⟩:∃ N:Nat,39+A%3=(N:Int):=⟨(39+A%3).toNat,by omega⟩
   have hN2:N≤41:=by omega
   have hN3:39≤N:=by omega
   have e:bendP W A (c,a) []=List.replicate N (8,0):=by unfold bendP;rw[if_neg hW0,if_neg hW1,if_neg hW2,if_neg hW3,if_pos hW4,hN];simp
   rw[e]
   refine V.r0 @jiy ?_
   refine Lp.of ⟨Nat,fun k=>k≤N,fun k=>match k with|0=>[(1,.bsl 78 0 0 2),(2,.box 2 0)]|k+1=>[(1,.bsl 300 0 (k+1) 2),(2,.box 2 0)],fun k=>match k with|0=>[(78,.box []),(2,.box [.int .u8 W,.int .u8 A,.int .i64 c,.int .i64 a])]|k+1=>[(300,.box (bcl (List.replicate (k+1) ((8:Int),(0:Int))))),(2,.box [.int .u8 W,.int .u8 A,.int .i64 c,.int .i64 a])],fun k=>N-k,⟨0,jit _,V.wk⟩,?_⟩
   intro k hk
   cases k with
   | zero=>
    dsimp only at hk ⊢
    refine V.r0 @jiy ?_
    refine V.br (fun hkN=>?_) (fun hkN=>?_)
    ·refine V.r0 jik ?_
     refine⟨0+1,by omega,by omega,?_⟩
     dsimp only
     refine Wk.renS 75 300 1 1 2 (by decide) (by decide) rfl rfl rfl ?_
     exact V.wk
    ·simp only[decide_eq_false_iff_not] at hkN
     exact absurd hN3 (by omega)
   | succ k=>
    obtain⟨q,hq⟩:∃ q,q=List.replicate (k+1) ((8:Int),(0:Int)):=⟨_,rfl⟩
    have hql:q.length=k+1:=by rw[hq,List.length_replicate]
    dsimp only at hk ⊢
    rw[← hq]
    have pgq:=jaA q
    have pbq:=jbs q
    have boq:=jbO q
    rw[hql] at boq
    have hbq:Nat.beq (bcl q).length ((k+1)*2)=true:=by rw[← hql];exact jby q
    have frq:=jaB q 8 0
    (conv=>whnf)
    (try simp only[jiy])
    repeat ((first|refine V.s1 ?_|((try ((with_reducible refine .ext ?_);(conv=>whnf);(try simp only[jiy])));(with_reducible refine jaa (r:=?_) ?_ ?_);rotate_left;(focus (first|fail));(conv=>whnf))|(((rewrite [pgq];(conv=>whnf)));(conv=>whnf)));(try simp only[jiy]))
    refine V.br (fun hqN=>?_) (fun hqN=>?_)
    ·simp only[decide_eq_true_eq] at hqN
     have htq:Nat.ble (k+1+1) 1000000=true:=by rw[ji0];omega
     (conv=>whnf)
     (try simp only[jiy])
     repeat ((first|refine V.s1 ?_|((try ((with_reducible refine .ext ?_);(conv=>whnf);(try simp only[jiy])));(with_reducible refine jaa (r:=?_) ?_ ?_);rotate_left;(focus (first|fail));(conv=>whnf))|(((rewrite [pgq];(conv=>whnf)));(conv=>whnf))|(((simp only[hbq,htq,jju,frq];(conv=>whnf)));(conv=>whnf)));(try simp only[jiy]))
     have e2:bcl (List.replicate (k+1+1) ((8:Int),(0:Int)))=bcl q++[.int .i64 8,.int .i64 0]:=by
      rw[List.replicate_succ',← hq]
      exact jaM q [(8,0)]
     refine⟨k+1+1,by omega,by omega,?_⟩
     dsimp only
     rw[e2]
     refine Wk.renS 75 300 1 (k+1+1) 2 (by decide) (by decide) (frq _) rfl rfl ?_
     exact V.wk
    ·simp only[decide_eq_false_iff_not] at hqN
     obtain rfl:N=k+1:=by omega
     rw[← hq]
     (conv=>whnf)
     (try simp only[jiy])
     repeat ((first|refine V.s1 ?_|((try ((with_reducible refine .ext ?_);(conv=>whnf);(try simp only[jiy])));(with_reducible refine jaa (r:=?_) ?_ ?_);rotate_left;(focus (first|fail));(conv=>whnf))|(((rewrite [pgq];(conv=>whnf)));(conv=>whnf))|(((rewrite [boq];(conv=>whnf)));(conv=>whnf))|(((rewrite [pbq];(conv=>whnf)));(conv=>whnf)));(try simp only[jiy]))
     exact fin_q _ _ _ hql rfl
  refine Cnd.no (by simp only[decide_eq_false_iff_not];exact hW4) ?_
  have e:bendP W A (c,a) []=[]:=by unfold bendP;rw[if_neg hW0,if_neg hW1,if_neg hW2,if_neg hW3,if_neg hW4]
  rw[e]
  refine V.r0 @jiy ?_
  first|exact jcJ _ _|exact fin_q _ _ _ rfl rfl
theorem bend_c (p:List (Int×Int))(W A c a:Int)(h:p.length≤60)(hW:0≤W∧W≤255)(hA:0≤A∧A≤255)(hc:InR .i64 c)(ha:InR .i64 a):Cl 59 [.agg [.int .u8 W,.int .u8 A,.int .i64 c,.int .i64 a],oL p] (oL (bendP W A (c,a) p)):=by
 cases p with
 | nil=>exact bend_0 W A c a hW hA hc ha
 | cons q p=>exact bend_x (q::p) W A c a (by simp) h hW hA hc ha
theorem bendP_len (p:List (Int×Int))(W A:Int)(q:Int×Int)(hA:0≤A∧A≤255):(bendP W A q p).length≤max (p.length+17) 41:=by
 have h3:(9+A%9).toNat≤17:=by omega
 have h4:(39+A%3).toNat≤41:=by omega
 unfold bendP
 split
 ·split
  ·rw[jjq];omega
  ·omega
 ·split
  ·simp only[ji8,ji9,jjo,jji,List.length_nil];omega
  ·split
   ·split
    ·simp only[ji8,ji9,jjo];omega
    ·omega
   ·split
    ·simp only[ji8,List.length_replicate];omega
    ·split
     ·simp only[ji8,List.length_replicate];omega
     ·omega
end Go.Proofs.YtpkdedncgclblaaGreatDoor
end
