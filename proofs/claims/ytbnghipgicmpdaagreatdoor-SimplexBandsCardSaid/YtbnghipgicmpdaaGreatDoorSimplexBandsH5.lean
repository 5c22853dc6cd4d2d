/- What functions of the program answer at given values, part 5. Conditions: those that each theorem names. -/
import Derived.Test.YtbnghipgicmpdaaGreatDoorSimplexBandsSi
import Derived.WalkKit
import Derived.BigCall
import Derived.Test.YtbnghipgicmpdaaGreatDoorSimplexBandsH4
import Derived.Test.YtbnghipgicmpdaaGreatDoorProg
import Derived.Lib.AppendIntMem
set_option linter.unusedSimpArgs false
set_option linter.unusedVariables false
set_option maxHeartbeats 8000000
set_option maxRecDepth 100000
section
namespace Go.Proofs.YtbnghipgicmpdaaGreatDoor
open Go Go.RowKit Go.Proofs
set_option maxHeartbeats 4000000
set_option maxRecDepth 1000000
theorem bTp:Tryz.prog.underlying 263=some (.pointer 265):=by kernel_rfl
theorem bUp:Tryz.prog.underlying 296=some .unsafePointer:=by kernel_rfl
theorem bSl:Tryz.prog.underlying 22=some (.slice 5):=by kernel_rfl
theorem bStr:Tryz.prog.underlying 9=some .string:=by kernel_rfl
theorem bSize:(Tryz.prog.info? 265).map (·.size)=some 2:=by kernel_rfl
theorem bLies:liesAt Tryz.prog Tryz.prog.depth 265 (2/Tryz.prog.cellsOf 265) 0 265 1=true:=by kernel_rfl
theorem bByte:(Tryz.prog.info? 5).map (fun i=>(i.zero,i.size,i.bytes))=some (some (.int .u8 0),1,1):=by kernel_rfl
theorem jfS (b:Nat)(w:World)(h0:w.cell? ⟨b,0,none⟩=some (.pointer (some ⟨b,0,none⟩))) :
  Calls Tryz.prog 233 #[.pointer (some ⟨b,0,none⟩)] w fun e w'=>e = .returned (.tuple #[])∧w'=w:=by
 obtain⟨j,hj,_⟩:=Option.map_eq_some_iff.1 bSize
 go_enter Tryz.func233,Tryz.ntmps233
 go_wp2
 rw[Lib.run_neq_ptr_same w _ bTp hj]
 go_wp2
 go_end0
 exact⟨rfl,rfl⟩
theorem jfH (b:Nat)(w:World)(h0:w.cell? ⟨b,0,none⟩=some (.pointer none))(hsh:w.shape? b=some (265,2))(hfz:w.frozen? ⟨b,0,none⟩=false) :
  Calls Tryz.prog 233 #[.pointer (some ⟨b,0,none⟩)] w fun e w'=>e = .returned (.tuple #[])∧w'=w.setCell ⟨b,0,none⟩ (.pointer (some ⟨b,0,none⟩)):=by
 obtain⟨j,hj,hjs⟩:=Option.map_eq_some_iff.1 bSize
 go_enter Tryz.func233,Tryz.ntmps233
 go_wp2
 rw[Lib.run_to_unsafe w ⟨b,0,none⟩ bTp bUp hj (by rw[hjs];decide) hsh (Nat.zero_lt_succ 1)]
 simp only[Result.andThen]
 rw[Oper.upon_value]
 go_wp2
 rw[run_callFunc_extern Tryz.func242 (by kernel_rfl) (by kernel_rfl) (by kernel_rfl) (e:=Extern.AbiNoEscape.same) (by kernel_rfl)]
 rw[Lib.run_noEscape]
 simp only[Result.andThen]
 rw[Oper.upon_value]
 go_wp2
 rw[Lib.run_from_unsafe w ⟨b,0,none⟩ bUp bTp hj hsh bLies]
 simp only[Result.andThen]
 rw[Oper.upon_value]
 go_wp2
 go_end0
 exact⟨rfl,rfl⟩
theorem jfG (B b:Nat)(bs:List Value)(w:World)(h:Lib.IsBuilderF 265 5 B b bs w) :
  Calls Tryz.prog 233 #[.pointer (some ⟨b,0,none⟩)] w fun e w'=>e = .returned (.tuple #[])∧(Lib.BuilderAtF 265 5 B b (.pointer (some ⟨b,0,none⟩)) bs w'∧Below B w w'∧Lib.OthersKept 5 (some b) w w'):=by
 rcases h with h|h
 ·refine(jfH b w h.cell0 h.shape h.frozen0).mono ?_
  rintro e w' ⟨rfl,rfl⟩
  exact⟨rfl,h.used _,(Below.refl B w).setCell (p:=⟨b,0,none⟩) h.1 _,(Lib.OthersKept.refl _ _ w).setCell ⟨b,0,none⟩ rfl _⟩
 ·refine(jfS b w h.cell0).mono ?_
  rintro e w' ⟨rfl,rfl⟩
  exact⟨rfl,h,Below.refl B _,Lib.OthersKept.refl _ _ _⟩
theorem jhU (B b:Nat)(bs:List Value)(c:Int)(w:World)(h:Lib.IsBuilderF 265 5 B b bs w)(hlen:bs.length+1≤140737488355328)(hBw:B≤w.heap.size) :
  Calls Tryz.prog 209 #[.pointer (some ⟨b,0,none⟩),.int .u8 c] w fun e w'=>e = .returned .nilIface∧(Lib.BuilderAtF 265 5 B b (.pointer (some ⟨b,0,none⟩)) (bs++[.int .u8 c]) w'∧Below B w w'∧Lib.OthersKept 5 (some b) w w'):=by
 obtain⟨i0,hi,hz0,hz1,hz2⟩:=info_parts bByte
 go_enter Tryz.func209,Tryz.ntmps209
 go_wp2_with (go_at_call 233;refine(jfG B b bs _ h).mono ?_)
 rintro e w1 ⟨rfl,h1,hb1,hk1⟩
 obtain⟨hB,v,hbk,hown,hne⟩:=h1
 have c0:w1.cell? ⟨b,0,none⟩=some (.pointer (some ⟨b,0,none⟩)):=by rw[Lib.cell_of_heap hbk];rfl
 have c1:w1.cell? ⟨b,1,none⟩=some v:=by rw[Lib.cell_of_heap hbk];rfl
 go_wp2_with (at_builtin;refine wpList_append_ownF _ rfl _ _ 22 rfl B 5 i0 (.int .u8 0) 1 1 bSl hi hz0 hz1 hz2 rfl (by decide) _ _ _ rfl (hown.alloc _) ⟨w1.heap.size,0,none⟩ 1 1 [.int .u8 c] rfl rfl ?c1 ?c2 ?c3 ?c4 ?c5 ?_)
 case c1=>
  intro j u hj
  match j,hj with
  | 0,hj=>simp at hj;subst hj;simp[Addr.add]
 case c2=>intro u hu;simp at hu;subst hu;rfl
 case c3=>unfold maxLen;omega
 case c4=>omega
 case c5=>have:=hb1.size;simp;omega
 intro v' w2 hown' hgrow _
 have hlt:b<w1.heap.size:=by
  rcases jjO b w1.heap.size with h'|h'
  ·exact h'
  ·simp[Array.getElem?_eq_none h'] at hbk
 have hb2:w2.heap[b]? = some (.cells #[.pointer (some ⟨b,0,none⟩),v] 265 (0,0)):=by
  rw[hgrow.block b (by simp;omega) (fun e=>hne e.symm),Lib.alloc_old w1 _ b hlt]
  exact hbk
 have d0:w2.cell? ⟨b,0,none⟩=some (.pointer (some ⟨b,0,none⟩)):=by rw[Lib.cell_of_heap hb2];rfl
 have d1:w2.cell? ⟨b,1,none⟩=some v:=by rw[Lib.cell_of_heap hb2];rfl
 have f1:w2.frozen? ⟨b,1,none⟩=false:=Lib.frozen_of_heap hb2 1
 obtain⟨g,cap,rfl⟩:∃ g cap,v' = .slice (some ⟨g,0,none⟩) (bs.length+1) cap:=by
  rcases hown'.2 with⟨_,h0⟩|⟨g,cap,cur,fz,hv,_⟩
  ·omega
  ·exact⟨g,cap,hv⟩
 go_wp2
 go_ret
 refine⟨rfl,?_,?_,((hk1.alloc _).grown hgrow (Lib.ownsRowF_kind (hown.alloc _))).setCell ⟨b,1,none⟩ rfl _⟩
 ·exact Lib.BuilderAtF.put (T:=265) (e:=5) hB hb2 (bs':=bs++[.int .u8 c]) (by simpa using hown') (by decide)
 ·exact((hb1.alloc (by have:=hb1.size;omega) _).grown hgrow (by have:=hb1.size;simp;omega) (fun k hk=>(hown.lt k hk).1)).setCell (p:=⟨b,1,none⟩) hB _
theorem jgt (B b:Nat)(bs:List Value)(s:ByteArray)(w:World)(h:Lib.IsBuilderF 265 5 B b bs w)(hlen:bs.length+s.size≤140737488355328)(hBw:B≤w.heap.size) :
  Calls Tryz.prog 210 #[.pointer (some ⟨b,0,none⟩),.string s] w fun e w'=>e = .returned (.tuple #[.int .i64 s.size,.nilIface])∧(Lib.BuilderAtF 265 5 B b (.pointer (some ⟨b,0,none⟩)) (bs++Lib.strCells s) w'∧Below B w w'∧Lib.OthersKept 5 (some b) w w'):=by
 obtain⟨i0,hi,hz0,hz1,hz2⟩:=info_parts bByte
 go_enter Tryz.func210,Tryz.ntmps210
 go_wp2_with (go_at_call 233;refine(jfG B b bs _ h).mono ?_)
 rintro e w1 ⟨rfl,h1,hb1,hk1⟩
 obtain⟨hB,v,hbk,hown,hne⟩:=h1
 have c0:w1.cell? ⟨b,0,none⟩=some (.pointer (some ⟨b,0,none⟩)):=by rw[Lib.cell_of_heap hbk];rfl
 have c1:w1.cell? ⟨b,1,none⟩=some v:=by rw[Lib.cell_of_heap hbk];rfl
 go_wp2_with (at_builtin;refine Lib.wpList_append_own_stringF _ rfl _ _ 22 9 rfl B 5 i0 bSl bStr hi hz0 hz1 hz2 _ _ _ rfl hown s rfl ?c3 ?c4 ?c5 ?_)
 case c3=>unfold maxLen;omega
 case c4=>omega
 case c5=>have:=hb1.size;omega
 intro v' w2 hown' hgrow _
 have hlt:b<w1.heap.size:=by
  rcases jjO b w1.heap.size with h'|h'
  ·exact h'
  ·simp[Array.getElem?_eq_none h'] at hbk
 have hb2:w2.heap[b]? = some (.cells #[.pointer (some ⟨b,0,none⟩),v] 265 (0,0)):=by
  rw[hgrow.block b hlt (fun e=>hne e.symm)]
  exact hbk
 have d0:w2.cell? ⟨b,0,none⟩=some (.pointer (some ⟨b,0,none⟩)):=by rw[Lib.cell_of_heap hb2];rfl
 have d1:w2.cell? ⟨b,1,none⟩=some v:=by rw[Lib.cell_of_heap hb2];rfl
 have f1:w2.frozen? ⟨b,1,none⟩=false:=Lib.frozen_of_heap hb2 1
 obtain⟨ao,n',cap,rfl⟩:∃ ao n' cap,v' = .slice ao n' cap:=by
  rcases hown'.2 with⟨hv,_⟩|⟨g,cap,cur,fz,hv,_⟩
  ·exact⟨_,_,_,hv⟩
  ·exact⟨_,_,_,hv⟩
 go_wp2
 go_ret2
 refine⟨rfl,?_,?_,(hk1.grown hgrow (Lib.ownsRowF_kind hown)).setCell ⟨b,1,none⟩ rfl _⟩
 ·exact Lib.BuilderAtF.put (T:=265) (e:=5) hB hb2 (bs':=bs++Lib.strCells s) (by simpa [Lib.strCells_length] using hown') (by decide)
 ·exact(hb1.grown hgrow (by have:=hb1.size;omega) (fun k hk=>(hown.lt k hk).1)).setCell (p:=⟨b,1,none⟩) hB _
end Go.Proofs.YtbnghipgicmpdaaGreatDoor
end
section
namespace Go.Proofs.YtbnghipgicmpdaaGreatDoor
open Go Go.V
def tb:V.Tb:=[(2,⟨1,8,.int .i64,[.int .i64 0]⟩),
 (3,⟨1,8,.int .i64,[.int .i64 0]⟩),
 (4,⟨1,1,.bool,[.bool false]⟩),
 (5,⟨1,1,.int .u8,[.int .u8 0]⟩),
 (9,⟨1,16,.str,[.str []]⟩),
 (21,⟨1,4,.int .i32,[.int .i32 0]⟩),
 (22,⟨1,24,.slice 5,[.nil]⟩),
 (23,⟨1,24,.slice 28,[.nil]⟩),
 (25,⟨4,64,.struct [(0,22),(1,5),(2,23),(3,4)],[.nil,.int .u8 0,.nil,.bool false]⟩),
 (26,⟨1,2,.int .i16,[.int .i16 0]⟩),
 (27,⟨4,8,.arr 4 26,[.int .i16 0,.int .i16 0,.int .i16 0,.int .i16 0]⟩),
 (28,⟨1,2,.int .u16,[.int .u16 0]⟩),
 (30,⟨3,40,.struct [(0,4),(1,23),(2,28)],[.bool false,.nil,.int .u16 0]⟩),
 (32,⟨6,80,.struct [(0,30),(3,30)],[.bool false,.nil,.int .u16 0,.bool false,.nil,.int .u16 0]⟩),
 (33,⟨24,320,.arr 4 32,[.bool false,.nil,.int .u16 0,.bool false,.nil,.int .u16 0,.bool false,.nil,.int .u16 0,.bool false,.nil,.int .u16 0,.bool false,.nil,.int .u16 0,.bool false,.nil,.int .u16 0,.bool false,.nil,.int .u16 0,.bool false,.nil,.int .u16 0]⟩),
 (35,⟨28,328,.struct [(0,27),(4,33)],[.int .i16 0,.int .i16 0,.int .i16 0,.int .i16 0,.bool false,.nil,.int .u16 0,.bool false,.nil,.int .u16 0,.bool false,.nil,.int .u16 0,.bool false,.nil,.int .u16 0,.bool false,.nil,.int .u16 0,.bool false,.nil,.int .u16 0,.bool false,.nil,.int .u16 0,.bool false,.nil,.int .u16 0]⟩),
 (36,⟨1,24,.slice 40,[.nil]⟩),
 (38,⟨1,16,.str,[.str []]⟩),
 (40,⟨2,32,.struct [(0,38),(1,38)],[.str [],.str []]⟩),
 (41,⟨1,24,.slice 3,[.nil]⟩),
 (43,⟨3,56,.struct [(0,41),(1,3),(2,41)],[.nil,.int .i64 0,.nil]⟩),
 (46,⟨6,112,.arr 2 43,[.nil,.int .i64 0,.nil,.nil,.int .i64 0,.nil]⟩),
 (47,⟨3,72,.arr 3 36,[.nil,.nil,.nil]⟩),
 (50,⟨5,120,.arr 5 36,[.nil,.nil,.nil,.nil,.nil]⟩),
 (51,⟨1,8,.int .i64,[.int .i64 0]⟩),
 (56,⟨1,8,.func,[.any]⟩),
 (59,⟨2,4,.arr 2 26,[.int .i16 0,.int .i16 0]⟩),
 (61,⟨8,16,.arr 4 59,[.int .i16 0,.int .i16 0,.int .i16 0,.int .i16 0,.int .i16 0,.int .i16 0,.int .i16 0,.int .i16 0]⟩),
 (62,⟨1,24,.slice 66,[.nil]⟩),
 (66,⟨2,16,.struct [(0,3),(1,3)],[.int .i64 0,.int .i64 0]⟩),
 (67,⟨3,72,.arr 3 62,[.nil,.nil,.nil]⟩),
 (72,⟨4,4,.arr 4 5,[.int .u8 0,.int .u8 0,.int .u8 0,.int .u8 0]⟩),
 (73,⟨1,24,.slice 41,[.nil]⟩),
 (78,⟨3,72,.arr 3 41,[.nil,.nil,.nil]⟩),
 (88,⟨6,128,.struct [(0,43),(3,41),(4,41),(5,36)],[.nil,.int .i64 0,.nil,.nil,.nil,.nil]⟩),
 (106,⟨1,8,.func,[.any]⟩),
 (115,⟨1,8,.func,[.any]⟩),
 (118,⟨4,32,.arr 4 3,[.int .i64 0,.int .i64 0,.int .i64 0,.int .i64 0]⟩),
 (125,⟨2,32,.struct [(0,4),(1,41)],[.bool false,.nil]⟩),
 (131,⟨4,64,.struct [(0,125),(2,125)],[.bool false,.nil,.bool false,.nil]⟩),
 (139,⟨1,8,.func,[.any]⟩),
 (141,⟨1,8,.func,[.any]⟩),
 (145,⟨1,8,.func,[.any]⟩),
 (149,⟨3,56,.struct [(0,43)],[.nil,.int .i64 0,.nil]⟩),
 (152,⟨1,8,.func,[.any]⟩),
 (154,⟨1,8,.func,[.any]⟩),
 (157,⟨1,8,.func,[.any]⟩),
 (159,⟨8,128,.arr 4 40,[.str [],.str [],.str [],.str [],.str [],.str [],.str [],.str []]⟩),
 (162,⟨1,8,.func,[.any]⟩),
 (163,⟨1,8,.func,[.any]⟩),
 (165,⟨1,24,.slice 220,[.nil]⟩),
 (167,⟨2,32,.struct [(0,165),(1,4)],[.nil,.bool false]⟩),
 (169,⟨3,56,.struct [(0,167),(2,165)],[.nil,.bool false,.nil]⟩),
 (175,⟨1,8,.int .u64,[.int .u64 0]⟩),
 (190,⟨1,8,.func,[.any]⟩),
 (195,⟨1,8,.func,[.any]⟩),
 (199,⟨1,8,.func,[.any]⟩),
 (205,⟨1,8,.func,[.any]⟩),
 (206,⟨1,8,.func,[.any]⟩),
 (208,⟨1,8,.func,[.any]⟩),
 (210,⟨4,32,.arr 4 3,[.int .i64 0,.int .i64 0,.int .i64 0,.int .i64 0]⟩),
 (220,⟨1,4,.int .u32,[.int .u32 0]⟩),
 (222,⟨1,16,.other,[.any]⟩),
 (238,⟨1,8,.func,[.any]⟩),
 (246,⟨1,8,.func,[.any]⟩),
 (249,⟨2,16,.struct [(0,162),(1,162)],[.any,.any]⟩),
 (250,⟨8,64,.arr 4 249,[.any,.any,.any,.any,.any,.any,.any,.any]⟩),
 (251,⟨1,24,.slice 220,[.nil]⟩),
 (253,⟨2,32,.struct [(0,251),(1,4)],[.nil,.bool false]⟩),
 (263,⟨1,8,.ptr 265,[.any]⟩),
 (265,⟨2,32,.struct [(0,263),(1,22)],[.any,.nil]⟩),
 (282,⟨1,8,.int .u64,[.int .u64 0]⟩),
 (283,⟨1,8,.ptr 294,[.any]⟩),
 (286,⟨1,8,.ptr 5,[.any]⟩),
 (294,⟨3,48,.struct [(0,9),(1,9),(2,222)],[.str [],.str [],.any]⟩),
 (296,⟨1,8,.other,[.any]⟩),
 (298,⟨24,24,.arr 24 5,[.int .u8 0,.int .u8 0,.int .u8 0,.int .u8 0,.int .u8 0,.int .u8 0,.int .u8 0,.int .u8 0,.int .u8 0,.int .u8 0,.int .u8 0,.int .u8 0,.int .u8 0,.int .u8 0,.int .u8 0,.int .u8 0,.int .u8 0,.int .u8 0,.int .u8 0,.int .u8 0,.int .u8 0,.int .u8 0,.int .u8 0,.int .u8 0]⟩),
 (303,⟨1,8,.ptr 305,[.any]⟩),
 (305,⟨1,16,.struct [(0,9)],[.str []]⟩),
 (308,⟨20,160,.arr 20 175,[.int .u64 0,.int .u64 0,.int .u64 0,.int .u64 0,.int .u64 0,.int .u64 0,.int .u64 0,.int .u64 0,.int .u64 0,.int .u64 0,.int .u64 0,.int .u64 0,.int .u64 0,.int .u64 0,.int .u64 0,.int .u64 0,.int .u64 0,.int .u64 0,.int .u64 0,.int .u64 0]⟩),
 (309,⟨65,65,.arr 65 5,[.int .u8 0,.int .u8 0,.int .u8 0,.int .u8 0,.int .u8 0,.int .u8 0,.int .u8 0,.int .u8 0,.int .u8 0,.int .u8 0,.int .u8 0,.int .u8 0,.int .u8 0,.int .u8 0,.int .u8 0,.int .u8 0,.int .u8 0,.int .u8 0,.int .u8 0,.int .u8 0,.int .u8 0,.int .u8 0,.int .u8 0,.int .u8 0,.int .u8 0,.int .u8 0,.int .u8 0,.int .u8 0,.int .u8 0,.int .u8 0,.int .u8 0,.int .u8 0,.int .u8 0,.int .u8 0,.int .u8 0,.int .u8 0,.int .u8 0,.int .u8 0,.int .u8 0,.int .u8 0,.int .u8 0,.int .u8 0,.int .u8 0,.int .u8 0,.int .u8 0,.int .u8 0,.int .u8 0,.int .u8 0,.int .u8 0,.int .u8 0,.int .u8 0,.int .u8 0,.int .u8 0,.int .u8 0,.int .u8 0,.int .u8 0,.int .u8 0,.int .u8 0,.int .u8 0,.int .u8 0,.int .u8 0,.int .u8 0,.int .u8 0,.int .u8 0,.int .u8 0]⟩),
 (312,⟨32,32,.arr 32 5,[.int .u8 0,.int .u8 0,.int .u8 0,.int .u8 0,.int .u8 0,.int .u8 0,.int .u8 0,.int .u8 0,.int .u8 0,.int .u8 0,.int .u8 0,.int .u8 0,.int .u8 0,.int .u8 0,.int .u8 0,.int .u8 0,.int .u8 0,.int .u8 0,.int .u8 0,.int .u8 0,.int .u8 0,.int .u8 0,.int .u8 0,.int .u8 0,.int .u8 0,.int .u8 0,.int .u8 0,.int .u8 0,.int .u8 0,.int .u8 0,.int .u8 0,.int .u8 0]⟩),
 (313,⟨64,64,.arr 64 5,[.int .u8 0,.int .u8 0,.int .u8 0,.int .u8 0,.int .u8 0,.int .u8 0,.int .u8 0,.int .u8 0,.int .u8 0,.int .u8 0,.int .u8 0,.int .u8 0,.int .u8 0,.int .u8 0,.int .u8 0,.int .u8 0,.int .u8 0,.int .u8 0,.int .u8 0,.int .u8 0,.int .u8 0,.int .u8 0,.int .u8 0,.int .u8 0,.int .u8 0,.int .u8 0,.int .u8 0,.int .u8 0,.int .u8 0,.int .u8 0,.int .u8 0,.int .u8 0,.int .u8 0,.int .u8 0,.int .u8 0,.int .u8 0,.int .u8 0,.int .u8 0,.int .u8 0,.int .u8 0,.int .u8 0,.int .u8 0,.int .u8 0,.int .u8 0,.int .u8 0,.int .u8 0,.int .u8 0,.int .u8 0,.int .u8 0,.int .u8 0,.int .u8 0,.int .u8 0,.int .u8 0,.int .u8 0,.int .u8 0,.int .u8 0,.int .u8 0,.int .u8 0,.int .u8 0,.int .u8 0,.int .u8 0,.int .u8 0,.int .u8 0,.int .u8 0]⟩)]
theorem tbOk:V.TbOk Tryz.prog tb:=V.tbB_ok (by kernel_rfl)
end Go.Proofs.YtbnghipgicmpdaaGreatDoor
end
namespace Go.Proofs.YtbnghipgicmpdaaGreatDoor
/-- a call of the program's function number f -/
abbrev Cl := Go.V.Called Tryz.prog
open Go.V
abbrev Ji (x : Int) : D := .int .i64 x
abbrev Jj (x : List Int) : D := .ints .i64 x
abbrev Jt (x : List UInt8 × List UInt8) : D := .agg [.str x.1, .str x.2]
abbrev Pq1z : Plan := (V.tk [0,1,2,3,4,5,6,7,8,10,11,12,13] (V.e1 9 [13,12,11,10,4,3,2,1,0] (V.e1 14 [4,3,2,1,0] (V.e1 15 [] (V.tk [16,17] (V.e1 18 [] (V.tk [19] .done)))))))
abbrev Pq2z : Plan := (V.tk [0,1,2,3,4,5,6,7,8,9,10,11,12,13,14,15,16,17,18,19,20,21,22,23] (V.e1 24 [0] (V.e1 25 [] (V.e1 26 [] .done))))
abbrev Pq6z : Plan := (V.tk [0,1,2,3,4,5,6,7,8,9,10,11,12,13,14,15] (V.e1 16 [] (V.tk [17,18] .done)))
abbrev Pq7z : Plan := (V.tk [0,1,2,3,4,5,6,7,8,9,10,11,12,13,14,15] .done)
abbrev Pq8z : Plan := (V.tk [0,1,2,3,4,5,6,7,8,9,10,11,12,13,14] (V.e1 15 [4,3,2] (V.tk [16] (V.e1 17 [] .done))))
abbrev Pq11z : Plan := (V.tk [0,1,2,3,4,5,6,7,8,9,10,11,12,13] (V.e1 14 [] (V.tk [15,16] .done)))
abbrev Pq15z : Plan := (V.tk [0,1,2,3,4,5,6,7,8,9,10,11] (V.e1 12 [9] (V.e1 13 [] (V.tk [14,15] .done))))
abbrev Pq18z : Plan := (V.tk [0,1,2,3,4,5,6,7,8,9,10] (.ev (.cons 11 [3,2,1,0] (.ev (.cons 12 [] (V.tk [13,14,15] (V.e1 16 [15,14,13] (V.e1 17 [15] (V.tk [18] .done)))) (.cons 16 [3,2,1,0] (V.e1 12 [] (V.tk [13,14,15] (V.e1 17 [15] (V.tk [18] .done)))) .nil))) (.cons 16 [10,9,8,7,6,5,4,3,2,1,0] (V.e1 11 [3,2,1,0] (V.e1 12 [] (V.tk [13,14,15] (V.e1 17 [15] (V.tk [18] .done))))) .nil))))
abbrev Pq19z : Plan := (V.tk [0,1,2,3,4,5,6,7,8,9,10] (V.e1 11 [3,2,1,0] (V.e1 12 [] (V.tk [13,14] (V.e1 15 [] (V.tk [16] .done))))))
abbrev Pq24z : Plan := (V.tk [0,1,2,3,4,5,6,7,8] (.ev (.cons 9 [] (V.tk [10,11,12,13] (V.e1 14 [13,12,11,10] (V.tk [15] (V.e1 16 [13] (V.tk [17] .done))))) (.cons 14 [8,7,6,5,4,3,2,1,0] (V.e1 9 [] (V.tk [10,11,12,13,15] (V.e1 16 [13] (V.tk [17] .done)))) .nil))))
abbrev Pq26z : Plan := (V.tk [0,1,2,3,4,5,6,7,8] (V.e1 9 [7,5,4,3] (V.tk [10] (V.e1 11 [] .done))))
abbrev Pq27z : Plan := (V.tk [0,1,2,3,4,5,6,7,8] .done)
abbrev Pq28z : Plan := (V.tk [0,1,2,3,4,5,6,7] (.ev (.cons 8 [] (V.tk [9,10,11] (V.e1 12 [11,10,9] (V.e1 13 [11] (V.tk [14] .done)))) (.cons 12 [7,6,5,4,3,2,1,0] (V.e1 8 [] (V.tk [9,10,11] (V.e1 13 [11] (V.tk [14] .done)))) .nil))))
abbrev Pq29z : Plan := (V.tk [0,1,2,3,4,5,6,7] (V.e1 8 [] (V.tk [9,10,11,12,13] .done)))
abbrev Pq34z : Plan := (V.tk [0,1,2,3,4,5,6] (V.e1 7 [1,0] (V.tk [8] (V.e1 9 [] .done))))
abbrev Pq35z : Plan := (V.tk [0,1,2,3,4,5,6] (V.e1 7 [] (V.tk [8,9,10,11] .done)))
abbrev Pq40z : Plan := (V.tk [0,1,2,3,4,5] (V.e1 6 [1,0] (V.e1 7 [] (V.e1 8 [] .done))))
abbrev Pq45z : Plan := (V.tk [0,1,2,3,4] (.ev (.cons 5 [] (V.tk [6,7,8] (V.e1 9 [8,7,6] (V.e1 10 [8] (V.tk [11] .done)))) (.cons 9 [4,3,2,1,0] (V.e1 5 [] (V.tk [6,7,8] (V.e1 10 [8] (V.tk [11] .done)))) .nil))))
abbrev Pq47z : Plan := (V.tk [0,1,2,3,5,6,7,8,9,10] (.ev (.cons 4 [10,9,8,7,6,5] (.ev (.cons 11 [] (.ev (.cons 12 [] (V.tk [13,14,15] (V.e1 16 [15,14,13] (V.e1 17 [15] (V.tk [18] .done)))) (.cons 16 [] (V.e1 12 [] (V.tk [13,14,15] (V.e1 17 [15] (V.tk [18] .done)))) .nil))) (.cons 16 [10,9,8,7,6,5] (V.e1 11 [] (V.e1 12 [] (V.tk [13,14,15] (V.e1 17 [15] (V.tk [18] .done))))) .nil))) (.cons 16 [10,9,8,7,6,5,3,2,1,0] (V.e1 4 [10,9,8,7,6,5] (V.e1 11 [] (V.e1 12 [] (V.tk [13,14,15] (V.e1 17 [15] (V.tk [18] .done)))))) .nil))))
abbrev Pq50z : Plan := (V.tk [0,1,2,3,5,6,7,8] (V.e1 4 [8,7,6,5] (V.e1 9 [] (V.e1 10 [] (V.e1 11 [] .done)))))
abbrev Pq52z : Plan := (V.tk [0,1,2,3,5,6,7,8] (V.e1 4 [8,7,6,5] (V.e1 9 [] (V.tk [10,11] (V.e1 12 [] (V.tk [13] .done))))))
abbrev Pq53z : Plan := (V.tk [0,1,2,3,5,6] (V.e1 4 [6,5] (V.e1 7 [] (V.e1 8 [] .done))))
abbrev Pq58z : Plan := (V.tk [0,1,2,4,5] (.ev (.cons 3 [5,4,0] (.ev (.cons 6 [0] (V.tk [7] (V.e1 8 [7,0] (V.e1 9 [] .done))) (.cons 8 [5,4,0] (V.e1 6 [0] (V.tk [7] (V.e1 9 [] .done))) .nil))) (.cons 6 [2,1,0] (.ev (.cons 3 [0] (V.tk [7] (V.e1 8 [7,0] (V.e1 9 [] .done))) (.cons 8 [2,1,0] (V.e1 3 [0] (V.tk [7] (V.e1 9 [] .done))) .nil))) (.cons 8 [5,4,2,1,0] (.ev (.cons 3 [5,4,0] (V.e1 6 [0] (V.tk [7] (V.e1 9 [] .done))) (.cons 6 [2,1,0] (V.e1 3 [0] (V.tk [7] (V.e1 9 [] .done))) .nil))) .nil)))))
abbrev Pq66z : Plan := (V.tk [0,1,3,4] (.ev (.cons 2 [4,3] (.ev (.cons 5 [] (.ev (.cons 6 [] (V.e1 7 [] (V.e1 8 [] (V.e1 9 [] .done))) (.cons 7 [] (V.e1 6 [] (V.e1 8 [] (V.e1 9 [] .done))) .nil))) (.cons 6 [4,3] (.ev (.cons 5 [] (V.e1 7 [] (V.e1 8 [] (V.e1 9 [] .done))) (.cons 7 [4,3] (V.e1 5 [] (V.e1 8 [] (V.e1 9 [] .done))) .nil))) (.cons 7 [4,3] (.ev (.cons 5 [] (V.e1 6 [] (V.e1 8 [] (V.e1 9 [] .done))) (.cons 6 [4,3] (V.e1 5 [] (V.e1 8 [] (V.e1 9 [] .done))) .nil))) .nil)))) (.cons 6 [4,3,1,0] (.ev (.cons 2 [4,3] (.ev (.cons 5 [] (V.e1 7 [] (V.e1 8 [] (V.e1 9 [] .done))) (.cons 7 [4,3] (V.e1 5 [] (V.e1 8 [] (V.e1 9 [] .done))) .nil))) (.cons 7 [4,3,1,0] (V.e1 2 [4,3] (V.e1 5 [] (V.e1 8 [] (V.e1 9 [] .done)))) .nil))) (.cons 7 [4,3,1,0] (.ev (.cons 2 [4,3] (.ev (.cons 5 [] (V.e1 6 [] (V.e1 8 [] (V.e1 9 [] .done))) (.cons 6 [4,3] (V.e1 5 [] (V.e1 8 [] (V.e1 9 [] .done))) .nil))) (.cons 6 [4,3,1,0] (V.e1 2 [4,3] (V.e1 5 [] (V.e1 8 [] (V.e1 9 [] .done)))) .nil))) .nil)))))
abbrev Pq68z : Plan := (V.tk [0,1,3,4] (V.e1 2 [4,3] (V.e1 5 [] (V.tk [6] (V.e1 7 [] .done)))))
abbrev Pq71z : Plan := (V.tk [0,1] (.ev (.cons 2 [0] (.ev (.cons 3 [] (V.tk [4,5,6] (V.e1 7 [6,5,4] (V.e1 8 [6] (V.tk [9] .done)))) (.cons 7 [0] (V.e1 3 [] (V.tk [4,5,6] (V.e1 8 [6] (V.tk [9] .done)))) .nil))) (.cons 7 [1,0] (V.e1 2 [0] (V.e1 3 [] (V.tk [4,5,6] (V.e1 8 [6] (V.tk [9] .done))))) .nil))))
abbrev Pq73z : Plan := (V.tk [0,1] (V.e1 2 [0] (V.e1 3 [] (V.e1 4 [] .done))))
abbrev Pq75z : Plan := (V.tk [0,1] (V.e1 2 [1] (V.e1 3 [] .done)))
abbrev Pq78z : Plan := (V.tk [0,2] (V.e1 1 [2] (V.e1 3 [] (V.e1 4 [] (V.e1 5 [] (V.tk [6,7] (V.e1 8 [] (V.tk [9] .done))))))))
abbrev Pq81z : Plan := (V.tk [0,2] (V.e1 1 [2] (V.e1 3 [] (V.e1 4 [] (V.tk [5] .done)))))
abbrev Pq84z : Plan := (V.tk [0] (.ev (.cons 1 [0] (.ev (.cons 2 [] (V.tk [3,4,5] (V.e1 6 [5,4,3] (V.e1 7 [5] (V.tk [8] .done)))) (.cons 6 [0] (V.e1 2 [] (V.tk [3,4,5] (V.e1 7 [5] (V.tk [8] .done)))) .nil))) (.cons 6 [0] (V.e1 1 [0] (V.e1 2 [] (V.tk [3,4,5] (V.e1 7 [5] (V.tk [8] .done))))) .nil))))
abbrev Pq91z : Plan := (V.tk [0] (V.e1 1 [0] (V.e1 2 [] (V.tk [3,4] (V.e1 5 [] (V.tk [6] .done))))))
end Go.Proofs.YtbnghipgicmpdaaGreatDoor
section
namespace Go.Nb
open Go
def val (B:Nat):List Int→Int
 | []=>0
 | x::r=>x+B*val B r
def Dg (B:Nat)(l:List Int):Prop := ∀ x∈l,0≤x∧x<B
def mgF (B:Nat):Nat→Nat→List Int
 | 0,_=>[]
 | f+1,n=>if n=0 then [] else ((n%B:Nat):Int)::mgF B f (n/B)
def mg (B n:Nat):List Int:=mgF B n n
theorem mgF_le {B : Nat} (hB : 2 ≤ B) : ∀ (f n : Nat), n ≤ f → mgF B f n = mgF B n n := by
  have key : ∀ (f g n : Nat), n ≤ f → n ≤ g → mgF B f n = mgF B g n := by
    intro f
    induction f with
    | zero => intro g n h1 h2; obtain rfl : n = 0 := Jo
              cases g <;> simp [mgF]
    | succ f ih =>
      intro g n h1 h2
      cases g with
      | zero => obtain rfl : n = 0 := Jo
                simp [mgF]
      | succ g =>
        simp only [mgF]
        by_cases h0 : n = 0
        · simp [h0]
        · rw [if_neg h0, if_neg h0]
          have : n / B < n := Nat.div_lt_self Jo Jo
          rw [ih g (n / B) Jo Jo]
  exact fun f n h => key f n n h (jjG _)
theorem jcB (B:Nat):mg B 0=[]:=rfl
theorem jcn {B n:Nat}(hB:2≤B)(hn:0<n):mg B n=((n%B:Nat):Int)::mg B (n/B):=by
 obtain⟨m,rfl⟩:∃ m,n=m+1:=⟨n-1,Jo⟩
 have:(m+1)/B<m+1:=Nat.div_lt_self Jo Jo
 conv=>lhs;unfold mg mgF
 rw[if_neg Jo,mgF_le hB m _ Jo]
 rfl
theorem mg_ind {B:Nat}(hB:2≤B){p:Nat→Prop}(h0:p 0)(h1:∀ n,0<n→p (n/B)→p n)(n:Nat):p n:=by
 induction n using Nat.strongRecOn with
 | _ n ih=>
  by_cases hn:n=0
  ·rw[hn];exact h0
  ·exact h1 n Jo (ih _ (Nat.div_lt_self Jo Jo))
theorem mg_dg {B:Nat}(hB:2≤B)(n:Nat):Dg B (mg B n):=by
 refine mg_ind hB (p:=fun n=>Dg B (mg B n)) (by intro x hx;simp[jcB] at hx) (fun n hn ih x hx=>?_) n
 rw[jcn hB hn] at hx
 rcases jka.1 hx with rfl|hx
 ·have:=jjJ n (by omega:B>0)
  omega
 ·exact ih x hx
theorem jaJ {B:Nat}(hB:2≤B)(n:Nat):val B (mg B n)=n:=by
 refine mg_ind hB (p:=fun n=>val B (mg B n)=n) rfl (fun n hn ih=>?_) n
 rw[jcn hB hn]
 simp only[val,ih]
 have:=Nat.mod_add_div n B
 rw[← jjQ]
 omega
theorem jb9 {B n:Nat}(hB:2≤B):mg B n=[]↔n=0:=by
 constructor
 ·intro h
  have:=jaJ hB n
  rw[h] at this
  simp[val] at this
  omega
 ·intro h;rw[h];rfl
theorem jao {B:Nat}{l:List Int}(h:Dg B l):0≤val B l:=by
 induction l with
 | nil=>simp[val]
 | cons x r ih=>
  have h1:=h x Js
  have h2:=ih fun y hy=>h y (by simp[hy])
  have h3:0≤(B:Int)*val B r:=jjB Jo h2
  simp only[val]
  omega
theorem jbT (B:Nat)(l r:List Int):val B (l++r)=val B l+(B:Int)^l.length*val B r:=by
 induction l with
 | nil=>simp[val]
 | cons x l ih=>
  simp only[List.cons_append,val,jkn,ih,Int.pow_succ]
  rw[jjR,← Int.add_assoc,jjS ((B:Int)^l.length) (B:Int),jjT]
theorem jcj {B:Nat}{l:List Int}(h:Dg B l):val B l<(B:Int)^l.length:=by
 induction l with
 | nil=>simp[val]
 | cons x r ih=>
  have h1:=h x Js
  have h2:=ih fun y hy=>h y (by simp[hy])
  simp only[val,jkn,Int.pow_succ]
  have h3:(B:Int)*(val B r+1)≤(B:Int)*(B:Int)^r.length:=jjU h2 Jo
  rw[jjR,Int.mul_one] at h3
  rw[jjS ((B:Int)^r.length)]
  omega
theorem jai {B:Nat}{l r:List Int}(h1:Dg B l)(h2:Dg B r):Dg B (l++r):=fun x hx=>by
 rcases List.mem_append.1 hx with h|h
 ·exact h1 x h
 ·exact h2 x h
theorem jbB {B:Nat}{l:List Int}(h:Dg B l)(k:Nat):Dg B (l.take k):=fun x hx=>h x (jkj hx)
theorem jbp {B:Nat}{l:List Int}(h:Dg B l)(k:Nat):Dg B (l.drop k):=fun x hx=>h x (jki hx)
theorem jaA {B:Nat}{x:Int}(h:0≤x∧x<B):Dg B [x]:=fun y hy=>by simp at hy;subst hy;exact h
theorem jcc {B:Nat}(hB:1≤B)(k:Nat):Dg B (List.replicate k 0):=fun y hy=>by
 rw[List.eq_of_mem_replicate hy];omega
theorem jeW (B k:Nat):val B (List.replicate k 0)=0:=by
 induction k with
 | zero=>rfl
 | succ k ih=>simp[List.replicate_succ,val,ih]
theorem ja3 (B:Nat)(l:List Int)(x:Int):val B (l++[x])=val B l+(B:Int)^l.length*x:=by
 rw[jbT];simp[val]
theorem jdx {B:Nat}{l:List Int}{k:Nat}{x:Int}(h:l[k]? = some x):val B (l.take (k+1))=val B (l.take k)+(B:Int)^k*x:=by
 have hk:=(jkh.1 h).1
 rw[jky,h]
 have:(l.take k).length=k:=by rw[jke];omega
 rw[show (some x).toList=[x] from rfl,ja3,this]
theorem jbY (B:Nat)(l:List Int)(k:Nat)(hk:k≤l.length):val B l=val B (l.take k)+(B:Int)^k*val B (l.drop k):=by
 conv=>lhs;rw[← List.take_append_drop k l]
 rw[jbT,jke,Nat.min_eq_left hk]
theorem mg_of {B:Nat}(hB:2≤B):∀ {l:List Int},Dg B l→(∀ x,l.getLast? = some x→x≠0)→l=mg B (val B l).toNat
 | [],_,_=>rfl
 | x::r,hd,hl=>by
  have hx:=hd x Js
  have hr:Dg B r:=fun y hy=>hd y (by simp[hy])
  have h0:=jao hr
  have hlr:∀ y,r.getLast? = some y→y≠0:=fun y hy=>hl y (by
   cases r with
   | nil=>simp at hy
   | cons a s=>rw[List.getLast?_cons_cons];exact hy)
  have ih:=mg_of hB hr hlr
  have hpos:0<val B (x::r):=by
   simp only[val]
   cases r with
   | nil=>
    have:=hl x Js
    simp[val]
    omega
   | cons a s=>
    have hne:(val B (a::s)).toNat≠0:=fun e=>by
     rw[e,jcB] at ih
     cases ih
    have h1:1≤val B (a::s):=Jo
    have h2:(B:Int)*1≤(B:Int)*val B (a::s):=jjU h1 Jo
    omega
  rw[jcn hB Jo]
  obtain⟨v,hv⟩:∃ v:Nat,val B r=v:=⟨(val B r).toNat,Jo⟩
  obtain⟨y,rfl⟩:∃ y:Nat,x=y:=⟨x.toNat,Jo⟩
  have e:(val B ((y:Int)::r)).toNat=y+B*v:=by
   simp only[val,hv]
   rw[← jjQ,← Int.natCast_add,jjF]
  have hy:y<B:=Jo
  rw[e,Nat.add_mul_mod_self_left,jjL hy,Nat.add_mul_div_left _ _ (by omega:0<B),Nat.div_eq_of_lt hy,jjC]
  rw[hv,jjF] at ih
  rw[← ih]
theorem jef {B n:Nat}(hB:2≤B):∀ x,(mg B n).getLast? = some x→x≠0:=by
 refine mg_ind hB (p:=fun n => ∀ x,(mg B n).getLast? = some x→x≠0) (fun x h=>by simp[jcB] at h) (fun n hn ih x h=>?_) n
 rw[jcn hB hn] at h
 by_cases hd:n/B=0
 ·rw[hd,jcB] at h
  simp at h
  have:=Nat.mod_add_div n B
  rw[hd] at this
  omega
 ·rw[jcn hB (Nat.pos_of_ne_zero hd),List.getLast?_cons_cons] at h
  rw[jcn hB (Nat.pos_of_ne_zero hd)] at ih
  exact ih x h
theorem jax {B n k : Nat} (hB : 2 ≤ B) (h : n < B ^ k) : (mg B n).length ≤ k := by
  induction k generalizing n with
  | zero => obtain rfl : n = 0 := by simp at h; omega
            simp [jcB]
  | succ k ih =>
    by_cases hn : n = 0
    · rw [hn, jcB]; simp
    · rw [jcn hB Jo, jkn]
      have : n / B < B ^ k := Nat.div_lt_of_lt_mul (by rw [Nat.pow_succ, jjK] at h; exact h)
      have := ih this
      omega
theorem jaN {B n:Nat}(hB:2≤B):n<B^(mg B n).length:=by
 have h1:=jcj (mg_dg hB n)
 rw[jaJ hB] at h1
 have e:((B:Int)^(mg B n).length)=((B^(mg B n).length:Nat):Int):=Js
 rw[e] at h1
 omega
theorem jah {B m n:Nat}(hB:2≤B)(h:m≤n):(mg B m).length≤(mg B n).length:=
 jax hB (Nat.lt_of_le_of_lt h (jaN hB))
theorem jcW {B n:Nat}(hB:2≤B)(hn:0<n):B^((mg B n).length-1)≤n:=by
 rcases jjO n (B^((mg B n).length-1)) with h|h
 ·have h1:=jax hB h
  have h2:(mg B n)≠[]:=fun e=>by rw[jb9 hB] at e;omega
  have:=List.length_pos_iff.2 h2
  omega
 ·exact h
def decF:Nat→Nat→List UInt8
 | 0,_=>[]
 | f+1,n=>if n<10 then [UInt8.ofNat (48+n)] else decF f (n/10)++[UInt8.ofNat (48+n%10)]
def dec (n:Nat):List UInt8:=decF (n+1) n
theorem decF_le:∀ (f g n:Nat),n<f→n<g→decF f n=decF g n:=by
 intro f
 induction f with
 | zero=>intro g n h1;omega
 | succ f ih=>
  intro g n h1 h2
  cases g with
  | zero=>omega
  | succ g=>
   simp only[decF]
   by_cases h0:n<10
   ·simp[h0]
   ·rw[if_neg h0,if_neg h0,ih g (n/10) Jo Jo]
theorem jbN {n:Nat}(h:n<10):dec n=[UInt8.ofNat (48+n)]:=by simp[dec,decF,h]
theorem jcF {n:Nat}(h:10≤n):dec n=dec (n/10)++[UInt8.ofNat (48+n%10)]:=by
 conv=>lhs;unfold dec decF
 rw[if_neg Jo,decF_le n (n/10+1) (n/10) Jo Jo]
 rfl
def decZ (z:Int):List UInt8:=if z<0 then 45::dec z.natAbs else dec z.natAbs
def pad:Nat→Nat→List UInt8
 | 0,_=>[]
 | k+1,n=>pad k (n/10)++[UInt8.ofNat (48+n%10)]
theorem jed (k n:Nat):(pad k n).length=k:=by
 induction k generalizing n with
 | zero=>rfl
 | succ k ih=>simp[pad,ih]
theorem jiE {a:Nat}(ha:0<a):∀ (k b:Nat),b<10^k→dec (a*10^k+b)=dec a++pad k b
 | 0,b,h=>by
  obtain rfl:b=0:=by simp at h;omega
  simp[pad]
 | k+1,b,h=>by
  have hb:b/10<10^k:=Nat.div_lt_of_lt_mul (by rw[Nat.pow_succ,jjK] at h;exact h)
  have e:a*10^(k+1)+b=(a*10^k)*10+b:=by rw[Nat.pow_succ,Nat.mul_assoc]
  have hp:1≤a*10^k:=Nat.mul_pos ha (Nat.pow_pos Jo)
  have e1:(a*10^(k+1)+b)/10=a*10^k+b/10:=Jo
  have e2:(a*10^(k+1)+b)%10=b%10:=Jo
  rw[jcF Jo,e1,e2,jiE ha k _ hb,jkf]
  rfl
theorem jbI:∀ (k b:Nat),0<k→b<10^k→(dec b).length≤k∧pad k b=List.replicate (k-(dec b).length) 48++dec b
 | 0,b,h,_=>Jo
 | k+1,b,_,h=>by
  by_cases hb:b<10
  ·rw[jbN hb]
   simp only[List.length_singleton,pad]
   refine⟨Jo,?_⟩
   have e0:b/10=0:=Jo
   have e1:b%10=b:=Jo
   have hz:∀ j,pad j 0=List.replicate j 48:=by
    intro j
    induction j with
    | zero=>rfl
    | succ j ih=>rw[pad,Nat.zero_div,ih,List.replicate_succ'];rfl
   rw[e0,e1,hz]
   rfl
  ·have h10:b/10<10^k:=Nat.div_lt_of_lt_mul (by rw[Nat.pow_succ,jjK] at h;exact h)
   have hk:0<k:=by
    rcases jjI k with e|e
    ·subst e;simp at h10;omega
    ·exact e
   obtain⟨h1,h2⟩:=jbI k (b/10) hk h10
   rw[jcF Jo,jkd,List.length_singleton]
   refine⟨Jo,?_⟩
   rw[pad,h2,jkf]
   congr 2
   omega
def rdv (s:List UInt8):Nat:=s.foldl (fun v c=>v*10+(c.toNat-48)) 0
def isDig (c:UInt8):Bool:=decide (48≤c.toNat∧c.toNat≤57)
theorem rdv_foldl (s:List UInt8)(v:Nat):s.foldl (fun v c=>v*10+(c.toNat-48)) v=v*10^s.length+rdv s:=by
 induction s generalizing v with
 | nil=>simp[rdv]
 | cons c s ih=>
  simp only[List.foldl_cons,rdv,jkn]
  rw[ih,ih (0*10+(c.toNat-48)),Nat.pow_succ,Nat.add_mul,Nat.zero_mul,jjC,Nat.mul_assoc,jjK 10]
  omega
theorem jbs (s t:List UInt8):rdv (s++t)=rdv s*10^t.length+rdv t:=by
 conv=>lhs;unfold rdv
 rw[List.foldl_append,rdv_foldl]
 rfl
theorem jec (c:UInt8):rdv [c]=c.toNat-48:=by simp[rdv]
theorem jc5 {n:Nat}(h:n<10):(UInt8.ofNat (48+n)).toNat=48+n:=by
 rw[UInt8.toNat_ofNat']
 omega
theorem rdv_dec (n:Nat):rdv (dec n)=n:=by
 induction n using Nat.strongRecOn with
 | _ n ih=>
  by_cases h:n<10
  ·rw[jbN h,jec,jc5 h];omega
  ·rw[jcF Jo,jbs,jec,jc5 Jo,ih _ Jo]
   simp
   omega
theorem jg8 (n:Nat):∀ c∈dec n,isDig c=true:=by
 induction n using Nat.strongRecOn with
 | _ n ih=>
  intro c hc
  by_cases h:n<10
  ·rw[jbN h] at hc
   simp at hc
   subst hc
   simp[isDig,jc5 h]
   omega
  ·rw[jcF Jo] at hc
   rcases List.mem_append.1 hc with hc|hc
   ·exact ih _ Jo c hc
   ·simp at hc
    subst hc
    have:=jc5 (n:=n%10) Jo
    simp[isDig,this]
    omega
theorem jbi (n:Nat):0<(dec n).length:=by
 by_cases h:n<10
 ·rw[jbN h];simp
 ·rw[jcF Jo];simp
theorem je5 {s:List UInt8}(h:∀ c∈s,isDig c=true):rdv s<10^s.length:=by
 induction s with
 | nil=>simp[rdv]
 | cons c s ih=>
  have h1:=h c Js
  have h2:=ih fun x hx=>h x (by simp[hx])
  simp[isDig] at h1
  have e:rdv (c::s)=(c.toNat-48)*10^s.length+rdv s:=by
   have:=jbs [c] s
   rw[jec] at this
   exact this
  rw[e,jkn,Nat.pow_succ]
  have h3:(c.toNat-48)*10^s.length≤9*10^s.length:=Nat.mul_le_mul_right _ Jo
  omega
end Go.Nb
end
section
namespace Go.Proofs.YtbnghipgicmpdaaGreatDoor
open Go Go.V Go.Nb
theorem ja8 {P:Program}{f:Nat}{fn:Func}{c:Code}{ds:List D}{r:D}(hf:P.funcs[f]? = some fn)(hn:(fn.name == "runtime.NumGoroutine")=false)(hb:fn.body=some c)(hr:r.pure=true)
  (h:∀ (w:World) (hp:Pub) (vs:List Value),Agree hp w→DenL Env.dummy hp ds vs→Calls P f vs.toArray w fun e w'=>(∃ v,e = .returned v ∧ ∀ hp,Den Env.dummy hp r v)∧RowKit.Below w.heap.size w w'):Called P f ds r:=
 ⟨jfx hf hn hb,fun hp w vs ha hd=>(h w hp vs ha hd).mono fun e w' ⟨⟨v,e1,e2⟩,e3⟩=>⟨v,hp,e1,e2 hp,ha.of_blocks fun b ⟨o,v,hv⟩=>e3.block b (ha.lt hv),Pub.Le.refl _,e3,fun _ _ _=>rfl⟩⟩
theorem jd5 (n:Nat):Go.Lib.decDigits n=dec n:=by
 induction n using Nat.strongRecOn with
 | _ n ih=>
  rw[Go.Lib.decDigits]
  by_cases h:n<10
  ·rw[dif_pos h,jbN h]
  ·rw[dif_neg h,jcF (by omega),ih (n/10) (by omega)]
theorem itoa_decZ (n:Int):Go.Lib.itoa n=decZ n:=by
 unfold Go.Lib.itoa decZ
 split
 ·rw[jd5]
 ·rw[jd5]
  congr 1
  omega
theorem jfE (n:Nat)(k:Nat)(h:n<10^k)(hk:0<k):(dec n).length≤k:=(jbI k n hk h).1
theorem itoa_c (n:Int):Cl 192 [.int .i64 n] (.str (decZ n)):=by
 refine ja8 Tryz.func192 rfl rfl rfl fun w hp vs ha hd=>?_
 simp only[DenL,Den] at hd
 obtain⟨v,_,rfl,⟨rfl,h1⟩,rfl⟩:=hd
 have ht:Go.Lib.TabIs Tryz.prog w "internal/strconv.uint64pow10" .u64 Go.Lib.pow10Tab:=by
  obtain⟨_,T,f,h2⟩:=ha.blk.1 2 _ (by unfold glb;first|exact List.mem_cons_of_mem _ (List.mem_cons_self ..)|exact List.mem_cons_self ..)
  unfold Go.Lib.TabIs World.var?
  rw[show Tryz.prog.globalNamed "internal/strconv.uint64pow10" = some 2 by kernel_rfl]
  simp only[Option.bind_some,h2]
  rfl
 obtain⟨h3,h4⟩:=h1
 refine(Tryz.strconv_Itoa n h3 h4 w ht).mono fun e w' ⟨he,k,os,hw⟩=>⟨⟨_,he,fun hp=>?_⟩,?_⟩
 ·rw[itoa_decZ]
  simp only[Den]
  refine⟨trivial,?_⟩
  simp only[V.lo,V.hi] at h3 h4
  have hl:=jfE n.natAbs 20 (by omega) (by omega)
  unfold decZ
  split
  ·rw[jkn];omega
  ·omega
 ·rw[hw]
  exact Go.Lib.below_grow _ _ (jjG _) _ _
theorem jfF (s p:List UInt8):Cl 198 [.str s,.str p] (.tup [.str (Go.Lib.trimPrefix s p),.bool (Go.Lib.hasPrefix s p)]):=by
 refine ja8 Tryz.func198 rfl rfl rfl fun w hp vs ha hd=>?_
 simp only[DenL,Den] at hd
 obtain⟨v,_,rfl,⟨rfl,h1⟩,v2,_,rfl,⟨rfl,h2⟩,rfl⟩:=hd
 refine(Tryz.strings_CutPrefix ⟨s.toArray⟩ ⟨p.toArray⟩ w).mono fun e w' ⟨he,hw⟩=>⟨⟨_,he,fun hp=>?_⟩,?_⟩
 ·simp only[Den,DenL]
  refine⟨_,rfl,_,_,rfl,⟨rfl,?_⟩,_,_,rfl,rfl,rfl⟩
  unfold Go.Lib.trimPrefix
  split
  ·rw[jkt];omega
  ·exact h1
 ·rw[hw];exact RowKit.Below.refl _ _
end Go.Proofs.YtbnghipgicmpdaaGreatDoor
end
section
namespace Go.Proofs.YtbnghipgicmpdaaGreatDoor
open Go Go.V Go.Nb Go.RowKit Go.Proofs
set_option maxHeartbeats 4000000
set_option maxRecDepth 1000000
theorem jfK {P:Program}{f:Nat}{ds:List D}{r:D}(c:Called P f ds r)(w:World)(hg:GlW w){vs:List Value}(hd:DenL Env.dummy (pubOf w) ds vs) :
  Calls P f vs.toArray w fun e w' => ∃ v h',e = .returned v∧Den Env.dummy h' r v∧RowKit.Below w.heap.size w w':=by
 refine(c.call (pubOf w) w vs (jfO w hg) hd).mono fun e w' ⟨v,h',he,hv,_,_,hb,_⟩=>⟨v,h',he,hv,hb⟩
theorem jhG {B:Nat}{w w':World}(h:GlW w)(hb:RowKit.Below B w w')(hlt:GlLt B):GlW w':=⟨fun g vs hg=>by
 obtain⟨h1,T,f,h2⟩:=h.1 g vs hg
 exact⟨h1,T,f,by rw[hb.block g (hlt.1 g vs hg)];exact h2⟩,fun g hg=>by
 obtain⟨tp,p,T,f,h2⟩:=h.2 g hg
 exact⟨tp,p,T,f,by rw[hb.block g (hlt.2 g hg)];exact h2⟩⟩
theorem glLt {w:World}(h:GlW w):GlLt w.heap.size:=⟨fun g vs hg=>by
 obtain⟨_,T,f,h2⟩:=h.1 g vs hg
 exact(Array.getElem?_eq_some_iff.1 h2).1,fun g hg=>by
 obtain⟨_,_,T,f,h2⟩:=h.2 g hg
 exact(Array.getElem?_eq_some_iff.1 h2).1⟩
theorem itoa_k (n:Int)(h:InR .i64 n)(w:World)(hg:GlW w):Calls Tryz.prog 192 #[.int .i64 n] w fun e w'=>e = .returned (.string ⟨(decZ n).toArray⟩)∧RowKit.Below w.heap.size w w':=by
 refine(jfK (itoa_c n) w hg (vs:=[.int .i64 n]) ?_).mono ?_
 ·simp only[DenL,Den];exact⟨_,_,rfl,⟨rfl,h⟩,rfl⟩
 ·rintro e w' ⟨v,h',rfl,hv,hb⟩
  simp only[Den] at hv
  rw[hv.1]
  exact⟨rfl,hb⟩
theorem isB_below {T e B b:Nat}{bs:List Value}{w w':World}(h:Lib.IsBuilderF T e B b bs w)(hb:RowKit.Below w.heap.size w w'):Lib.IsBuilderF T e B b bs w':=by
 have key:∀ p,Lib.BuilderAtF T e B b p bs w→Lib.BuilderAtF T e B b p bs w':=by
  rintro p ⟨h1,v,h2,⟨h3,h4⟩,h5⟩
  refine⟨h1,v,by rw[hb.block b (Array.getElem?_eq_some_iff.1 h2).1];exact h2,⟨h3,?_⟩,h5⟩
  rcases h4 with h4|⟨g,cap,cur,fz,g1,g2,g3,g4⟩
  ·exact .inl h4
  ·exact .inr ⟨g,cap,cur,fz,g1,g2,by rw[hb.block g (Array.getElem?_eq_some_iff.1 g3).1];exact g3,g4⟩
 exact h.elim (fun x => .inl (key _ x)) (fun x => .inr (key _ x))
theorem jhc (k:Nat)(bs:List UInt8):Lib.byteCells (bs++List.replicate (k+1) 48)=Lib.byteCells (bs++List.replicate k 48)++[.int .u8 48]:=by
 rw[List.replicate_succ',← jkf,Lib.byteCells_append];rfl
theorem jhi (l:List UInt8):Lib.strCells ⟨l.toArray⟩=Lib.byteCells l:=by
 simp[Lib.strCells,Lib.byteCells]
theorem put_k (B b:Nat)(bs:List UInt8)(g:Nat)(k:Int)(w:World)(hgl:GlW w)(hlt:GlLt B)(hB:B≤w.heap.size)(h:Lib.IsBuilderF 265 5 B b (Lib.byteCells bs) w)(hg:g<1000000000)(hk:0≤k∧k≤9)(hl:bs.length≤1000000000000) :
  Calls Tryz.prog 208 #[.int .u32 g,.int .i64 k,.pointer (some ⟨b,0,none⟩)] w fun e w'=>e = .returned (.tuple #[])∧Lib.IsBuilderF 265 5 B b (Lib.byteCells (bs++List.replicate (k.toNat-(dec g).length) 48++dec g)) w'∧RowKit.Below B w w':=by
 go_enter Tryz.func208,Tryz.ntmps208
 go_wp2_with (go_at_call 192;refine(itoa_k (g:Int) ⟨by simp only[lo];omega,by simp only[hi];omega⟩ _ hgl).mono ?_)
 rintro e w1 ⟨rfl,hb1⟩
 have hdz:decZ (g:Int)=dec g:=by unfold decZ;rw[if_neg (by omega),jjV]
 rw[hdz]
 have hdl:=jfE g 9 (by omega) (by omega)
 have h1:=isB_below h hb1
 have hs1:=hb1.size
 have hb1':=hb1.mono hB
 have hsz:(⟨(dec g).toArray⟩:ByteArray).size=(dec g).length:=by simp[ByteArray.size]
 go_wp2
 clear hdz
 go_loopw [13] (fun i wr => ∃ n:Nat,n≤k.toNat-(dec g).length∧i = .int .i64 n∧Lib.IsBuilderF 265 5 B b (Lib.byteCells (bs++List.replicate n 48)) wr∧RowKit.Below B w1 wr) (fun i _=>k.toNat-(dec g).length-(intOf i).toNat)
 case atStart=>exact⟨0,jjx _,rfl,by simpa using h1,Below.refl _ _⟩
 case round=>
  obtain⟨n,hn,rfl,hI,hbr⟩:=hrel
  have hsr:=hbr.size
  have hlen:(Lib.byteCells (bs++List.replicate n 48)).length≤1000000000100:=by rw[Lib.byteCells_length];simp;omega
  by_cases hlt2:(n:Int)<k-((dec g).length:Int)
  ·go_wp2_with (go_at_call 209;refine(jhU B b _ 48 _ hI (by omega) (by omega)).mono ?_)
   rintro e W1 ⟨rfl,h2,b2,_⟩
   rw[← jhc] at h2
   go_wp2
   go_roundw
   case rel=>exact⟨n+1,by omega,by go_num,Or.inr (by assumption),hbr.trans b2⟩
   case measure=>simp[intOf];omega
  ·have hne:n=k.toNat-(dec g).length:=by omega
   go_wp2_with (go_at_call 210;refine(jgt B b _ _ _ hI (by omega) (by omega)).mono ?_)
   rintro e W1 rfl h2 b2 -
   rw[jhi,← Lib.byteCells_append] at h2
   go_wp2
   go_end0
   exact⟨rfl,Or.inr h2,(hb1'.trans hbr).trans b2⟩
end Go.Proofs.YtbnghipgicmpdaaGreatDoor
end
section
namespace Go.Proofs.YtbnghipgicmpdaaGreatDoor
open Go Go.V Go.Nb
theorem jcs {B:Nat}{xs:List Int}{k:Nat}(h:xs[k]? = some 0):val B (xs.take (k+1))=val B (xs.take k):=by
 rw[jdx h];simp
theorem jhZ {B:Nat}(hB:2≤B){xs:List Int}{k:Nat}(hd:Dg B xs)(hv:val B (xs.take k)=val B xs)(hk:k≤xs.length)(h:k=0 ∨ ∃ x,xs[k-1]? = some x∧x≠0):xs.take k=mg B (val B xs).toNat:=by
 rw[← hv]
 refine mg_of hB (jbB hd k) fun y hy=>?_
 rcases h with rfl|⟨x,h1,h2⟩
 ·simp at hy
 ·have hk0:0<k:=by
   rcases jjI k with e|e
   ·subst e;simp at hy
   ·exact e
  have hlen:(xs.take k).length=k:=by rw[jke];omega
  rw[List.getLast?_eq_getElem?,hlen,jkx Jo,h1] at hy
  cases hy
  exact h2
theorem cut_c (xs:List Int)(hd:Dg 10000 xs)(hl:xs.length≤281474976710656):Cl 172 [Jj xs] (Jj (mg 10000 (val 10000 xs).toNat)):=by
 refine V.en tbOk Tryz.func172 ?_
 (conv=>whnf)
 refine V.st ?_
 refine jad (xs.length) (fun k=>k≤xs.length∧val 10000 (xs.take k)=val 10000 xs) (fun k=>k) (fun k=>[(3,Ji k)]) (fun k=>[]) ?_ ?_ ?_
 ·exact V.wk
 ·exact⟨jjG _,by rw[jkz]⟩
 intro k hk
 (conv=>whnf)
 refine V.st ?_
 refine V.br (fun hq=>?_) (fun hq=>?_)
 ·rw[jjv,decide_eq_true_eq,decide_eq_true_eq] at hq
  have hk0:0<k:=Jo
  obtain⟨j,rfl⟩:∃ j,k=j+1:=⟨k-1,Jo⟩
  obtain⟨x,hx,ex⟩:=getxn (xs:=xs) (k:=j) Jo
  have e1:((((j+1:Nat):Int)-1).toNat)=j:=Jo
  have e2:(((j+1:Nat):Int)-1)=(j:Int):=Jo
  rw[e1,ex] at hq
  rw[hq.2] at hx
  refine V.r0 e2 ?_
  exact⟨j,⟨Jo,by rw[← hk.2,jcs hx]⟩,Jo,V.wk⟩
 ·have h3:k=0 ∨ ∃ x,xs[k-1]? = some x∧x≠0:=by
   rcases jjI k with e|e
   ·exact .inl e
   ·refine .inr ?_
    obtain⟨x,hx,ex⟩:=getxn (xs:=xs) (k:=(k-1)) Jo
    refine⟨x,hx,fun e0=>?_⟩
    have e1:(((k:Nat):Int)-1).toNat=k-1:=Jo
    rw[e1,ex,e0] at hq
    simp at hq
    omega
  refine V.r0 @jjF ?_
  exact Fin.of (by rw[jhZ Jo hd hk.2 hk.1 h3])
theorem jfW (xs:List Int)(hd:Dg 1000000000 xs)(hl:xs.length≤281474976710656):Cl 205 [.ints .u32 xs] (.ints .u32 (mg 1000000000 (val 1000000000 xs).toNat)):=by
 refine V.en tbOk Tryz.func205 ?_
 (conv=>whnf)
 refine V.st ?_
 refine jad (xs.length) (fun k=>k≤xs.length∧val 1000000000 (xs.take k)=val 1000000000 xs) (fun k=>k) (fun k=>[(0,.ints .u32 (xs.take k))]) (fun k=>[]) ?_ ?_ ?_
 ·rw[jkz]
  exact V.wk
 ·exact⟨jjG _,by rw[jkz]⟩
 intro k hk
 have hlt:(xs.take k).length=k:=by rw[jke];omega
 refine V.r0 hlt ?_
 refine V.br (fun hq=>?_) (fun hq=>?_)
 ·rw[jjv,decide_eq_true_eq,decide_eq_true_eq] at hq
  have hk0:0<k:=Jo
  obtain⟨j,rfl⟩:∃ j,k=j+1:=⟨k-1,Jo⟩
  obtain⟨x,hx,ex⟩:=getxn (xs:=xs) (k:=j) Jo
  have e1:((((j+1:Nat):Int)-1).toNat)=j:=Jo
  have e2:(((j+1:Nat):Int)-1)=(j:Int):=Jo
  have e3:(xs.take (j+1)).getD j 0=x:=by
   rw[jj8,jkx Jo,hx];rfl
  have e4:(xs.take (j+1)).take j=xs.take j:=by rw[List.take_take,Nat.min_eq_left Jo]
  rw[e1,e3] at hq
  rw[hq.2] at hx
  refine V.r0 (V.a4 e2 hlt @jjF e4) ?_
  exact⟨j,⟨Jo,by rw[← hk.2,jcs hx]⟩,Jo,V.wk⟩
 ·have h3:k=0 ∨ ∃ x,xs[k-1]? = some x∧x≠0:=by
   rcases jjI k with e|e
   ·exact .inl e
   ·refine .inr ?_
    obtain⟨x,hx,ex⟩:=getxn (xs:=xs) (k:=(k-1)) Jo
    refine⟨x,hx,fun e0=>?_⟩
    have e1:(((k:Nat):Int)-1).toNat=k-1:=Jo
    have e3:(xs.take k).getD (k-1) 0=x:=by
     rw[jj8,jkx Jo,hx];rfl
    rw[e1,e3,e0] at hq
    simp at hq
    omega
  (conv=>whnf)
  refine V.st ?_
  exact Fin.of (by rw[jhZ Jo hd hk.2 hk.1 h3])
def plD (z:Int):D := .agg [.bool (decide (z<0)),Jj (mg 10000 z.natAbs)]
theorem jfm (b:Bool)(xs:List Int)(hd:Dg 10000 xs)(hl:xs.length≤281474976710656):Cl 123 [.bool b,Jj xs] (plD (if b then -(val 10000 xs) else val 10000 xs)):=by
 have hc:=cut_c xs hd hl
 have h0:=jao hd
 obtain⟨n,hn⟩:∃ n:Nat,val 10000 xs=n:=⟨(val 10000 xs).toNat,Jo⟩
 have hlen:((0:Int)<((mg 10000 n).length:Int))↔0<n:=by
  have:=jb9 (B:=10000) (n:=n) Jo
  rcases jjI n with e|e
  ·rw[e];simp[jcB]
  ·have h1:mg 10000 n≠[]:=fun h=>by have:=this.1 h;omega
   have:=List.length_pos_iff.2 h1
   constructor<;>intro<;>omega
 rw[hn] at hc ⊢
 rw[jjF] at hc
 refine V.en tbOk Tryz.func123 ?_
 refine V.u1 hc ?_
 refine Fin.of ?_
 cases b with
 | false=>
  have e1:decide ((n:Int)<0)=false:=Js
  simp[plD,e1]
 | true=>
  have e1:decide (-(n:Int)<0)=decide (((mg 10000 n).length:Int)>0):=by
   apply decide_eq_decide.2
   constructor
   ·intro h;exact hlen.2 Jo
   ·intro h;have:=hlen.1 h;omega
  simp[plD]
  omega
theorem wtrim_c (xs:List Int)(hd:Dg 1000000000 xs)(hl:xs.length≤281474976710656):Cl 236 [.ints .u32 xs] (.ints .u32 (mg 1000000000 (val 1000000000 xs).toNat)):=by
 refine V.en tbOk Tryz.func236 ?_
 (conv=>whnf)
 refine V.st ?_
 refine jad (xs.length) (fun k=>k≤xs.length∧val 1000000000 (xs.take k)=val 1000000000 xs) (fun k=>k) (fun k=>[(0,.ints .u32 (xs.take k))]) (fun k=>[]) ?_ ?_ ?_
 ·rw[jkz]
  exact V.wk
 ·exact⟨jjG _,by rw[jkz]⟩
 intro k hk
 have hlt:(xs.take k).length=k:=by rw[jke];omega
 refine V.r0 hlt ?_
 refine V.br (fun hq=>?_) (fun hq=>?_)
 ·rw[jjv,decide_eq_true_eq,decide_eq_true_eq] at hq
  have hk0:0<k:=Jo
  obtain⟨j,rfl⟩:∃ j,k=j+1:=⟨k-1,Jo⟩
  obtain⟨x,hx,ex⟩:=getxn (xs:=xs) (k:=j) Jo
  have e1:((((j+1:Nat):Int)-1).toNat)=j:=Jo
  have e2:(((j+1:Nat):Int)-1)=(j:Int):=Jo
  have e3:(xs.take (j+1)).getD j 0=x:=by
   rw[jj8,jkx Jo,hx];rfl
  have e4:(xs.take (j+1)).take j=xs.take j:=by rw[List.take_take,Nat.min_eq_left Jo]
  rw[e1,e3] at hq
  rw[hq.2] at hx
  refine V.r0 (V.a4 e2 hlt @jjF e4) ?_
  exact⟨j,⟨Jo,by rw[← hk.2,jcs hx]⟩,Jo,V.wk⟩
 ·have h3:k=0 ∨ ∃ x,xs[k-1]? = some x∧x≠0:=by
   rcases jjI k with e|e
   ·exact .inl e
   ·refine .inr ?_
    obtain⟨x,hx,ex⟩:=getxn (xs:=xs) (k:=(k-1)) Jo
    refine⟨x,hx,fun e0=>?_⟩
    have e1:(((k:Nat):Int)-1).toNat=k-1:=Jo
    have e3:(xs.take k).getD (k-1) 0=x:=by
     rw[jj8,jkx Jo,hx];rfl
    rw[e1,e3,e0] at hq
    simp at hq
    omega
  (conv=>whnf)
  refine V.st ?_
  exact Fin.of (by rw[jhZ Jo hd hk.2 hk.1 h3])
theorem rdv_snoc (s:List UInt8)(c:UInt8):rdv (s++[c])=rdv s*10+(c.toNat-48):=by
 rw[jbs,jec];simp
theorem jdi {s:List UInt8}{a i:Nat}(ha:a≤i)(hi:i<s.length):(s.take (i+1)).drop a=(s.take i).drop a++[s.getD i 0]:=by
 rw[jky,jkb hi,jkm (by rw[jke];omega)]
 simp[jj8,hi]
theorem jfY {s:List UInt8}{a e:Nat}(ha:a≤e)(he:e≤s.length):s.take e=s.take a++(s.take e).drop a:=by
 conv=>lhs;rw[← List.take_append_drop a (s.take e)]
 rw[List.take_take,Nat.min_eq_left ha]
theorem gather_c (s:List UInt8)(hd:∀ c∈s,isDig c=true)(hl:s.length≤100000000):Cl 199 [.str s] (.ints .u32 (mg 1000000000 (rdv s))):=by
 refine V.en tbOk Tryz.func199 ?_
 (conv=>whnf)
 refine V.st ?_
 refine Lp.ghostSlot 32 3 .u32 Jd ?_
 (conv=>whnf)
 refine jad ((s.length,[]):Nat×List Int) (fun t=>t.1≤s.length∧t.2.length*9+t.1=s.length∧Dg 1000000000 t.2∧val 1000000000 t.2+((1000000000:Nat):Int)^t.2.length*(rdv (s.take t.1):Nat)=(rdv s:Nat)) (fun t=>t.1)
  (fun t=>[(4,Ji t.1),(3,.osl 32 0 t.2.length)]) (fun t=>[(32,.arr .u32 t.2)]) ?_ ?_ ?_
 ·exact V.wk
 ·exact⟨jjG _,Js,fun x hx=>by simp at hx,by simp[val]⟩
 rintro⟨e,m⟩ ⟨h1,h2,h3,h4⟩
 dsimp only at h1 h2 h3 h4 ⊢
 have hmax:max ((e:Int)-9) 0=((e-9:Nat):Int):=Jo
 refine V.r0 hmax ?_
 have hdig:∀ i,i<s.length→48≤(s.getD i 0).toNat∧(s.getD i 0).toNat≤57:=fun i hi=>by
  have:=hd (s.getD i 0) (by rw[jj8,jkb hi];exact List.getElem_mem _)
  simpa [isDig] using this
 have hsub:∀ i, ∀ c∈(s.take i).drop (e-9),isDig c=true:=fun i c hc=>hd c (jkj (jki hc))
 have hlt:∀ i k,i≤s.length→i-(e-9)≤k→rdv ((s.take i).drop (e-9))<10^k:=fun i k hi hk=>by
  have h5:=je5 (hsub i)
  rw[jkt,jke,Nat.min_eq_left hi] at h5
  exact jjN h5 (jjW Jo hk)
 refine jad (e-9:Nat) (fun i=>e-9≤i∧i≤e) (fun i=>e-i) (fun i=>[(7,Ji i),(6,.int .u32 (rdv ((s.take i).drop (e-9)):Nat))]) (fun _=>[]) ?_ ?_ ?_
 ·rw[show (s.take (e-9)).drop (e-9)=[] from jkq (by rw[jke];omega),show ((rdv []:Nat):Int)=0 from rfl]
  exact V.wk
 ·exact⟨jjG _,Jo⟩
 intro i hi
 (conv=>whnf)
 refine V.st ?_
 refine V.br (fun hq=>?_) (fun hq=>?_)
 ·rw[decide_eq_true_eq] at hq
  have hdi:=hdig i Jo
  have hv:=rdv_snoc ((s.take i).drop (e-9)) (s.getD i 0)
  rw[← jdi hi.1 Jo] at hv
  have hb:=hlt i 8 Jo Jo
  generalize hc:s.getD i 0=c at *
  have hv2:((rdv ((s.take i).drop (e-9)):Nat):Int)*10+((c.toNat:Int)-48)=((rdv ((s.take (i+1)).drop (e-9)):Nat):Int):=Jo
  have hkc:((i:Int)+1)=((i+1:Nat):Int):=Jo
  refine V.r0 (V.a4 @jjF hc hv2 hkc) ?_
  exact⟨i+1,Jo,Jo,V.wk⟩
 ·rw[decide_eq_false_iff_not] at hq
  obtain rfl:i=e:=Jo
  have hb:=hlt i 9 h1 Jo
  have hsp:=jfY (s:=s) (a:=i-9) (e:=i) Jo h1
  have hra:=jbs (s.take (i-9)) ((s.take i).drop (i-9))
  rw[← hsp,jkt,jke,Nat.min_eq_left h1] at hra
  generalize hv:rdv ((s.take i).drop (i-9))=v at *
  have hl2:(m++[(v:Int)]).length=m.length+1:=Js
  have hl3:m.length+(List.take 1 (List.drop 0 [(v:Int)])).length=(m++[(v:Int)]).length:=Js
  have hdg:Dg 1000000000 (m++[(v:Int)]):=jai h3 (jaA Jo)
  have hvs:=ja3 1000000000 m (v:Int)
  refine V.r0 hl3 ?_
  try refine And.intro (fun _=>⟨trivial,Jo⟩) ?_
  refine V.r0 hl3 ?_
  refine V.br (fun hq2=>?_) (fun hq2=>?_)
  ·rw[decide_eq_true_eq] at hq2
   have e0:i-9=0:=Jo
   rw[e0] at hra
   have hz:rdv (s.take i)=v:=by rw[hra];simp[rdv]
   have hval:val 1000000000 (m++[(v:Int)])=(rdv s:Nat):=by rw[hvs,← hz];exact h4
   have hc:=jfW (m++[(v:Int)]) hdg Jo
   rw[hval,jjF,← jkz (l:=m++[(v:Int)])] at hc
   refine V.u1 hc ?_
   exact Fin.of rfl
  ·rw[decide_eq_false_iff_not] at hq2
   have h9:10≤i:=Jo
   have ek:((i:Int)-9)=((i-9:Nat):Int):=Jo
   refine V.r0 ek ?_
   refine⟨(i-9,m++[(v:Int)]),⟨by dsimp only;omega,by dsimp only;omega,hdg,?_⟩,by dsimp only;omega,V.wk⟩
   dsimp only
   rw[hvs,hl2,Int.pow_succ,← h4,hra,show i-(i-9)=9 by omega,Int.natCast_add,jjQ]
   generalize ((1000000000:Nat):Int)^m.length=P
   generalize (rdv (s.take (i-9)):Nat)=w
   have e1:((10^9:Nat):Int)=1000000000:=Jd
   rw[e1,jjR,jjT]
   rw[jjS (w:Int)]
   generalize (1000000000:Int)*(w:Int)=Q
   omega
theorem wgather_c (s:List UInt8)(hd:∀ c∈s,isDig c=true)(hl:s.length≤100000000):Cl 224 [.str s] (.ints .u32 (mg 1000000000 (rdv s))):=by
 refine V.en tbOk Tryz.func224 ?_
 (conv=>whnf)
 refine V.st ?_
 refine Lp.ghostSlot 32 3 .u32 Jd ?_
 (conv=>whnf)
 refine jad ((s.length,[]):Nat×List Int) (fun t=>t.1≤s.length∧t.2.length*9+t.1=s.length∧Dg 1000000000 t.2∧val 1000000000 t.2+((1000000000:Nat):Int)^t.2.length*(rdv (s.take t.1):Nat)=(rdv s:Nat)) (fun t=>t.1)
  (fun t=>[(4,Ji t.1),(3,.osl 32 0 t.2.length)]) (fun t=>[(32,.arr .u32 t.2)]) ?_ ?_ ?_
 ·exact V.wk
 ·exact⟨jjG _,Js,fun x hx=>by simp at hx,by simp[val]⟩
 rintro⟨e,m⟩ ⟨h1,h2,h3,h4⟩
 dsimp only at h1 h2 h3 h4 ⊢
 have hmax:max ((e:Int)-9) 0=((e-9:Nat):Int):=Jo
 refine V.r0 hmax ?_
 have hdig:∀ i,i<s.length→48≤(s.getD i 0).toNat∧(s.getD i 0).toNat≤57:=fun i hi=>by
  have:=hd (s.getD i 0) (by rw[jj8,jkb hi];exact List.getElem_mem _)
  simpa [isDig] using this
 have hsub:∀ i, ∀ c∈(s.take i).drop (e-9),isDig c=true:=fun i c hc=>hd c (jkj (jki hc))
 have hlt:∀ i k,i≤s.length→i-(e-9)≤k→rdv ((s.take i).drop (e-9))<10^k:=fun i k hi hk=>by
  have h5:=je5 (hsub i)
  rw[jkt,jke,Nat.min_eq_left hi] at h5
  exact jjN h5 (jjW Jo hk)
 refine jad (e-9:Nat) (fun i=>e-9≤i∧i≤e) (fun i=>e-i) (fun i=>[(7,Ji i),(6,.int .u32 (rdv ((s.take i).drop (e-9)):Nat))]) (fun _=>[]) ?_ ?_ ?_
 ·rw[show (s.take (e-9)).drop (e-9)=[] from jkq (by rw[jke];omega),show ((rdv []:Nat):Int)=0 from rfl]
  exact V.wk
 ·exact⟨jjG _,Jo⟩
 intro i hi
 (conv=>whnf)
 refine V.st ?_
 refine V.br (fun hq=>?_) (fun hq=>?_)
 ·rw[decide_eq_true_eq] at hq
  have hdi:=hdig i Jo
  have hv:=rdv_snoc ((s.take i).drop (e-9)) (s.getD i 0)
  rw[← jdi hi.1 Jo] at hv
  have hb:=hlt i 8 Jo Jo
  generalize hc:s.getD i 0=c at *
  have hv2:((rdv ((s.take i).drop (e-9)):Nat):Int)*10+((c.toNat:Int)-48)=((rdv ((s.take (i+1)).drop (e-9)):Nat):Int):=Jo
  have hkc:((i:Int)+1)=((i+1:Nat):Int):=Jo
  refine V.r0 (V.a4 @jjF hc hv2 hkc) ?_
  exact⟨i+1,Jo,Jo,V.wk⟩
 ·rw[decide_eq_false_iff_not] at hq
  obtain rfl:i=e:=Jo
  have hb:=hlt i 9 h1 Jo
  have hsp:=jfY (s:=s) (a:=i-9) (e:=i) Jo h1
  have hra:=jbs (s.take (i-9)) ((s.take i).drop (i-9))
  rw[← hsp,jkt,jke,Nat.min_eq_left h1] at hra
  generalize hv:rdv ((s.take i).drop (i-9))=v at *
  have hl2:(m++[(v:Int)]).length=m.length+1:=Js
  have hl3:m.length+(List.take 1 (List.drop 0 [(v:Int)])).length=(m++[(v:Int)]).length:=Js
  have hdg:Dg 1000000000 (m++[(v:Int)]):=jai h3 (jaA Jo)
  have hvs:=ja3 1000000000 m (v:Int)
  refine V.r0 hl3 ?_
  try refine And.intro (fun _=>⟨trivial,Jo⟩) ?_
  refine V.r0 hl3 ?_
  refine V.br (fun hq2=>?_) (fun hq2=>?_)
  ·rw[decide_eq_true_eq] at hq2
   have e0:i-9=0:=Jo
   rw[e0] at hra
   have hz:rdv (s.take i)=v:=by rw[hra];simp[rdv]
   have hval:val 1000000000 (m++[(v:Int)])=(rdv s:Nat):=by rw[hvs,← hz];exact h4
   have hc:=wtrim_c (m++[(v:Int)]) hdg Jo
   rw[hval,jjF,← jkz (l:=m++[(v:Int)])] at hc
   refine V.u1 hc ?_
   exact Fin.of rfl
  ·rw[decide_eq_false_iff_not] at hq2
   have h9:10≤i:=Jo
   have ek:((i:Int)-9)=((i-9:Nat):Int):=Jo
   refine V.r0 ek ?_
   refine⟨(i-9,m++[(v:Int)]),⟨by dsimp only;omega,by dsimp only;omega,hdg,?_⟩,by dsimp only;omega,V.wk⟩
   dsimp only
   rw[hvs,hl2,Int.pow_succ,← h4,hra,show i-(i-9)=9 by omega,Int.natCast_add,jjQ]
   generalize ((1000000000:Nat):Int)^m.length=P
   generalize (rdv (s.take (i-9)):Nat)=w
   have e1:((10^9:Nat):Int)=1000000000:=Jd
   rw[e1,jjR,jjT]
   rw[jjS (w:Int)]
   generalize (1000000000:Int)*(w:Int)=Q
   omega
theorem turn_c (z:Int)(hz:(mg 10000 z.natAbs).length≤281474976710656):Cl 128 [plD z] (plD (-z)):=by
 have hv:=jaJ (B:=10000) Jo z.natAbs
 have hm:=jfm (!decide (z<0)) (mg 10000 z.natAbs) (mg_dg Jo _) hz
 have e:(if (!decide (z<0))=true then -(val 10000 (mg 10000 z.natAbs)) else val 10000 (mg 10000 z.natAbs)) = -z:=by
  rw[hv]
  by_cases h:z<0
  ·simp[h];omega
  ·simp[h];omega
 rw[e] at hm
 refine V.en tbOk Tryz.func128 ?_
 refine V.u1 hm ?_
 exact Fin.of rfl
theorem jeO {B:Nat}{out:List Int}{q:Nat}{m:Int}(hB:2≤B)(h:val B out+(B:Int)^out.length*q=m):val B (out++[((q%B:Nat):Int)])+(B:Int)^(out++[((q%B:Nat):Int)]).length*((q/B:Nat):Int)=m:=by
 rw[ja3,jkd,List.length_singleton,Int.pow_succ,jjT,Int.add_assoc,← jjR,← jjQ,← Int.natCast_add,Nat.mod_add_div]
 exact h
theorem jfr (n:Nat)(hn:n<10000^5):Cl 69 [Ji n] (plD n):=by
 have hlen:=jax (B:=10000) Jo hn
 refine V.en tbOk Tryz.func69 ?_
 (conv=>whnf)
 refine V.st ?_
 refine Lp.ghostSlot 19 3 .i64 Jd ?_
 (conv=>whnf)
 refine jad ((n,[]):Nat×List Int) (fun s=>val 10000 s.2+((10000:Nat):Int)^s.2.length*s.1=n∧Dg 10000 s.2∧s.1≤n∧s.2.length+(mg 10000 s.1).length=(mg 10000 n).length) (fun s=>s.1) (fun s=>[(0,Ji s.1),(3,.osl 19 0 s.2.length)]) (fun s=>[(19,.arr .i64 s.2)]) ?_ ?_ ?_
 ·exact V.wk
 ·exact⟨by simp[val],fun x hx=>by simp at hx,jjG _,Js⟩
 rintro⟨q,out⟩ ⟨h1,h2,h3,h4⟩
 dsimp only at h1 h2 h3 h4 ⊢
 (conv=>whnf)
 refine V.st ?_
 refine V.br (fun hq=>?_) (fun hq=>?_)
 ·rw[decide_eq_true_eq] at hq
  have hq0:0<q:=Jo
  have hmg:=jcn (B:=10000) Jo hq0
  have hst:=jeO (B:=10000) Jo h1
  have hlt:q/10000<q:=Nat.div_lt_self hq0 Jo
  have hdg:Dg 10000 (out++[((q%10000:Nat):Int)]):=jai h2 (jaA ⟨Jo,by have:=jjJ q (by omega:10000>0);omega⟩)
  have e1:(q:Int)%10000=((q%10000:Nat):Int):=Jo
  have e2:(q:Int)/10000=((q/10000:Nat):Int):=Jo
  have hl2:(out++[((q%10000:Nat):Int)]).length=out.length+1:=Js
  have hl3:out.length+(List.take 1 (List.drop 0 [((q%10000:Nat):Int)])).length=(out++[((q%10000:Nat):Int)]).length:=Js
  rw[hmg,jkn] at h4
  (conv=>whnf)
  (try simp only[e1,e2])
  repeat ((first|refine V.s1 ?_);(try simp only[e1,e2]))
  refine V.br (fun hneg=>?_) (fun hneg=>?_)
  ·exfalso
   rw[decide_eq_true_eq] at hneg
   omega
  (conv=>whnf)
  (try simp only[e1,e2,hl3])
  repeat ((first|refine V.s1 ?_);(try simp only[e1,e2,hl3]))
  try refine And.intro (fun _=>⟨trivial,Jo⟩) ?_
  (conv=>whnf)
  (try simp only[e1,e2,hl3])
  repeat ((first|refine V.s1 ?_);(try simp only[e1,e2,hl3]))
  exact⟨(q/10000,out++[((q%10000:Nat):Int)]),⟨hst,hdg,by dsimp only;omega,by dsimp only;omega⟩,hlt,V.wk⟩
 ·have hq0:q=0:=by simp at hq;exact hq
  subst hq0
  have hv:val 10000 out=(n:Int):=by simpa using h1
  have hm:=jfm false out h2 Jo
  rw[hv] at hm
  have e0:decide ((n:Int)<0)=false:=Js
  refine V.r1 (V.a2 e0 @jkz) hm ?_
  exact Fin.of rfl
theorem jio (n:Nat)(hn0:0<n)(hn:n<10000^5):Cl 69 [Ji (-(n:Int))] (plD (-(n:Int))):=by
 have hlen:=jax (B:=10000) Jo hn
 have e00:decide (-(n:Int)<0)=true:=by simp;omega
 refine V.en tbOk Tryz.func69 ?_
 refine V.r0 e00 ?_
 refine Lp.ghostSlot 19 3 .i64 Jd ?_
 (conv=>whnf)
 refine jad ((n,[]):Nat×List Int) (fun s=>val 10000 s.2+((10000:Nat):Int)^s.2.length*s.1=n∧Dg 10000 s.2∧s.1≤n∧s.2.length+(mg 10000 s.1).length=(mg 10000 n).length) (fun s=>s.1) (fun s=>[(0,Ji (-(s.1:Int))),(3,.osl 19 0 s.2.length)]) (fun s=>[(19,.arr .i64 s.2)]) ?_ ?_ ?_
 ·exact V.wk
 ·exact⟨by simp[val],fun x hx=>by simp at hx,jjG _,Js⟩
 rintro⟨q,out⟩ ⟨h1,h2,h3,h4⟩
 dsimp only at h1 h2 h3 h4 ⊢
 (conv=>whnf)
 refine V.st ?_
 refine V.br (fun hq=>?_) (fun hq=>?_)
 ·rw[decide_eq_true_eq] at hq
  have hq0:0<q:=Jo
  have hmg:=jcn (B:=10000) Jo hq0
  have hst:=jeO (B:=10000) Jo h1
  have hlt:q/10000<q:=Nat.div_lt_self hq0 Jo
  have hdg:Dg 10000 (out++[((q%10000:Nat):Int)]):=jai h2 (jaA ⟨Jo,by have:=jjJ q (by omega:10000>0);omega⟩)
  have e1:(-(q:Int)).tmod 10000 = -((q%10000:Nat):Int):=by rw[Int.neg_tmod,Int.tmod_eq_emod_of_nonneg Jo];simp
  have e2:(-(q:Int)).tdiv 10000 = -((q/10000:Nat):Int):=by rw[Int.neg_tdiv,Int.tdiv_eq_ediv_of_nonneg Jo];simp
  have hl2:(out++[((q%10000:Nat):Int)]).length=out.length+1:=Js
  have hl3:out.length+(List.take 1 (List.drop 0 [((q%10000:Nat):Int)])).length=(out++[((q%10000:Nat):Int)]).length:=Js
  have hme:0≤((q%10000:Nat):Int)∧((q%10000:Nat):Int)<10000:=by have:=jjJ q (by omega:10000>0);omega
  have hqe:0≤((q/10000:Nat):Int)∧((q/10000:Nat):Int)≤q:=by have:=jjX q 10000;omega
  rw[hmg,jkn] at h4
  (conv=>whnf)
  (try simp only[e1])
  repeat ((first|refine V.s1 ?_);(try simp only[e1]))
  refine V.br (fun hneg=>?_) (fun hneg=>?_)
  ·rw[decide_eq_true_eq] at hneg
   have e3:0 - -((q%10000:Nat):Int)=((q%10000:Nat):Int):=Jo
   (conv=>whnf)
   (try simp only[e1,e2,e3,hl3])
   repeat ((first|refine V.s1 ?_);(try simp only[e1,e2,e3,hl3]))
   try refine And.intro (fun _=>⟨trivial,Jo⟩) ?_
   (conv=>whnf)
   (try simp only[e1,e2,e3,hl3])
   repeat ((first|refine V.s1 ?_);(try simp only[e1,e2,e3,hl3]))
   exact⟨(q/10000,out++[((q%10000:Nat):Int)]),⟨hst,hdg,by dsimp only;omega,by dsimp only;omega⟩,hlt,V.wk⟩
  ·rw[decide_eq_false_iff_not] at hneg
   have e3 : -((q%10000:Nat):Int)=((q%10000:Nat):Int):=Jo
   (conv=>whnf)
   (try simp only[e1,e2,e3,hl3])
   repeat ((first|refine V.s1 ?_);(try simp only[e1,e2,e3,hl3]))
   try refine And.intro (fun _=>⟨trivial,Jo⟩) ?_
   (conv=>whnf)
   (try simp only[e1,e2,e3,hl3])
   repeat ((first|refine V.s1 ?_);(try simp only[e1,e2,e3,hl3]))
   exact⟨(q/10000,out++[((q%10000:Nat):Int)]),⟨hst,hdg,by dsimp only;omega,by dsimp only;omega⟩,hlt,V.wk⟩
 ·have hq0:q=0:=by simp at hq;omega
  subst hq0
  have hv:val 10000 out=(n:Int):=by simpa using h1
  have hm:=jfm true out h2 Jo
  rw[hv] at hm
  refine V.r1 @jkz hm ?_
  exact Fin.of rfl
theorem jc0 (z:Int)(h:InR .i64 z):Cl 69 [Ji z] (plD z):=by
 simp only[V.InR,V.lo,V.hi] at h
 rcases Int.le_total 0 z with h0|h0
 ·obtain⟨n,rfl⟩:∃ n:Nat,z=n:=⟨z.toNat,Jo⟩
  exact jfr n Jo
 ·rcases Int.lt_or_le z 0 with h1|h1
  ·obtain⟨n,rfl⟩:∃ n:Nat,z = -(n:Int):=⟨z.natAbs,Jo⟩
   exact jio n Jo Jo
  ·obtain rfl:z=0:=Jo
   exact jfr 0 Jo
end Go.Proofs.YtbnghipgicmpdaaGreatDoor
end
section
namespace Go.Nb
open Go
theorem jdL {B:Nat}(hB:2≤B)(k:Nat):(0:Int)<(B:Int)^k:=Int.pow_pos Jo
theorem jdQ {B:Nat}(hB:2≤B){l:List Int}(hd:Dg B l)(h:(B:Int)^(l.length-1)≤val B l):l=mg B (val B l).toNat:=by
 refine mg_of hB hd fun x hx e=>?_
 subst e
 rcases List.eq_nil_or_concat l with rfl|⟨r,y,rfl⟩
 ·simp at hx
 ·simp only[List.concat_eq_append] at *
  rw[List.getLast?_append] at hx
  simp at hx
  subst hx
  have h1:=jcj (B:=B) (l:=r) fun y hy=>hd y (by simp[hy])
  rw[ja3,jkd,List.length_singleton,Nat.add_sub_cancel] at h
  simp at h
  omega
theorem jaF {B:Nat}{out:List Int}{c u v x y d c':Int}{k:Nat}(hk:out.length=k)(h:val B out+c*(B:Int)^k=u+v)(hs:d+c'*B=c+x+y) :
  val B (out++[d])+c'*(B:Int)^(k+1)=(u+(B:Int)^k*x)+(v+(B:Int)^k*y):=by
 rw[ja3,hk,Int.pow_succ]
 generalize (B:Int)^k=P at *
 have e1:P*d+c'*(P*B)=P*(d+c'*B):=by rw[jjR];congr 1;ac_rfl
 have e2:P*(c+x+y)=c*P+P*x+P*y:=by rw[jjR,jjR,jjS P c]
 rw[hs,e2] at e1
 omega
theorem jb4 {B:Nat}{out:List Int}{b u v x y d b':Int}{k:Nat}(hk:out.length=k)(h:val B out-b*(B:Int)^k=u-v)(hs:d-b'*B=x-y-b) :
  val B (out++[d])-b'*(B:Int)^(k+1)=(u+(B:Int)^k*x)-(v+(B:Int)^k*y):=by
 rw[ja3,hk,Int.pow_succ]
 generalize (B:Int)^k=P at *
 have e1:P*d-b'*(P*B)=P*(d-b'*B):=by rw[Int.mul_sub];congr 1;ac_rfl
 have e2:P*(x-y-b)=P*x-P*y-b*P:=by rw[Int.mul_sub,Int.mul_sub,jjS P b]
 rw[hs,e2] at e1
 omega
end Go.Nb
end
section
namespace Go.Proofs.YtbnghipgicmpdaaGreatDoor
open Go Go.V Go.Nb
theorem jaj (B:Nat)(xs:List Int)(k:Nat):val B (xs.take (k+1))=val B (xs.take k)+(B:Int)^k*xs.getD k 0:=by
 rcases jjO k xs.length with h|h
 ·have h1:xs[k]? = some (xs.getD k 0):=by rw[jj8,jkb h];rfl
  exact jdx h1
 ·rw[jko Jo,jko h,jj8,List.getElem?_eq_none h]
  simp
theorem jan {B:Nat}(hB:1≤B){xs:List Int}(hd:Dg B xs)(k:Nat):0≤xs.getD k 0∧xs.getD k 0<B:=by
 rcases jjO k xs.length with h|h
 ·have h1:xs[k]? = some (xs.getD k 0):=by rw[jj8,jkb h];rfl
  exact hd _ (jkc h1)
 ·rw[jj8,List.getElem?_eq_none h]
  simp;omega
theorem jch {xs:List Int}{k:Nat}(h:xs.length≤k):xs.getD k 0=0:=by
 rw[jj8,List.getElem?_eq_none h];rfl
theorem jgx {k m n:Nat}{out:List Int}{c x y:Int}(h1:out.length=k)(h2:Dg 10000 out)(h3:0≤c∧c≤1){P:Prop}(h5:k≤max m n∨(k=max m n+1∧c=0∧P))(hq:k<m∨k<n∨0<c)(gx:m≤k→x=0)(gy:n≤k→y=0) :
  k+1≤max m n∨(k+1=max m n+1∧(c+x+y)/10000=0∧((10000:Nat):Int)^(max m n)≤val 10000 (out++[(c+x+y)%10000])):=by
 rcases jjO k (max m n) with hm|hm
 ·exact .inl Jo
 ·have hk:k=max m n:=Jo
  have e1:=gx Jo
  have e2:=gy Jo
  have e3:c=1:=Jo
  subst e1 e2 e3
  refine .inr ⟨Jo,Jd,?_⟩
  rw[ja3,h1,← hk]
  have:=jao h2
  have e:(1+0+0:Int)%10000=1:=Jd
  rw[e];omega
theorem sum_c (a b:Nat)(ha:(mg 10000 a).length≤100000000)(hb:(mg 10000 b).length≤100000000):Cl 173 [Jj (mg 10000 a),Jj (mg 10000 b)] (Jj (mg 10000 (a+b))):=by
 have hdx:=mg_dg (B:=10000) Jo a
 have hdy:=mg_dg (B:=10000) Jo b
 have hvx:=jaJ (B:=10000) Jo a
 have hvy:=jaJ (B:=10000) Jo b
 have hpx:=fun h=>jcW (B:=10000) (n:=a) Jo h
 have hpy:=fun h=>jcW (B:=10000) (n:=b) Jo h
 have hex:=jb9 (B:=10000) (n:=a) Jo
 have hey:=jb9 (B:=10000) (n:=b) Jo
 generalize mg 10000 a=xs at *
 generalize mg 10000 b=ys at *
 refine V.en tbOk Tryz.func173 ?_
 (conv=>whnf)
 refine V.st ?_
 refine Lp.ghostSlot 48 5 .i64 Jd ?_
 (conv=>whnf)
 refine jad ((0,[],0):Nat×List Int×Int) (fun s=>s.2.1.length=s.1∧Dg 10000 s.2.1∧(0≤s.2.2∧s.2.2≤1)∧val 10000 s.2.1+s.2.2*((10000:Nat):Int)^s.1=val 10000 (xs.take s.1)+val 10000 (ys.take s.1)∧(s.1≤max xs.length ys.length∨(s.1=max xs.length ys.length+1∧s.2.2=0∧((10000:Nat):Int)^(max xs.length ys.length)≤val 10000 s.2.1))) (fun s=>max xs.length ys.length+2-s.1)
  (fun s=>[(7,Ji s.1),(6,Ji s.2.2),(5,.osl 48 0 s.2.1.length)]) (fun s=>[(48,.arr .i64 s.2.1)]) ?_ ?_ ?_
 ·exact V.wk
 ·exact⟨rfl,fun x hx=>by simp at hx,Js,by simp[val],.inl Js⟩
 rintro⟨k,out,c⟩ ⟨h1,h2,h3,h4,h5⟩
 dsimp only at h1 h2 h3 h4 h5 ⊢
 have vx:=jaj 10000 xs k
 have vy:=jaj 10000 ys k
 have bx:=jan Jo hdx k
 have by':=jan Jo hdy k
 have gx:=jch (xs:=xs) (k:=k)
 have gy:=jch (xs:=ys) (k:=k)
 generalize hx0:xs.getD k 0=x at *
 generalize hy0:ys.getD k 0=y at *
 (conv=>whnf)
 refine V.st ?_
 refine V.br (fun hq=>?_) (fun hq=>?_)
 ·simp only[Bool.or_eq_true,decide_eq_true_eq] at hq
  (conv=>whnf)
  refine V.st ?_
  refine V.br (fun hx=>?_) (fun hx=>?_)
  ·rw[decide_eq_true_eq] at hx
   refine V.r0 (V.a2 @jjF hx0) ?_
   refine V.br (fun hy=>?_) (fun hy=>?_)
   ·rw[decide_eq_true_eq] at hy
    refine V.r0 (V.a2 @jjF hy0) ?_
    have hE:c+x+y=c+x+y:=Jo
    rw[hE]
    have hd0:0≤(c+x+y)%10000∧(c+x+y)%10000<10000:=⟨jjz _ Jo,jjY _ Jo⟩
    have hst:=jaF (B:=10000) (x:=x) (y:=y) (d:=(c+x+y)%10000) (c':=(c+x+y)/10000) h1 h4 (by have:=jjA (c+x+y) 10000;omega)
    rw[← vx,← vy] at hst
    have hdg:Dg 10000 (out++[(c+x+y)%10000]):=jai h2 (jaA hd0)
    have hl2:(out++[(c+x+y)%10000]).length=k+1:=by simp[h1]
    have hl3:out.length+(List.take 1 (List.drop 0 [(c+x+y)%10000])).length=(out++[(c+x+y)%10000]).length:=Js
    have hkc:((k:Int)+1)=((k+1:Nat):Int):=Jo
    refine V.r0 (V.a2 hl3 hkc) ?_
    try refine And.intro (fun _=>⟨trivial,Jo⟩) ?_
    refine V.r0 (V.a2 hl3 hkc) ?_
    exact⟨(k+1,out++[(c+x+y)%10000],(c+x+y)/10000),⟨hl2,hdg,by dsimp only;omega,hst,jgx h1 h2 h3 h5 Jo gx gy⟩,by dsimp only;omega,V.wk⟩
   ·rw[decide_eq_false_iff_not] at hy
    have:=gy Jo
    (conv=>whnf)
    refine V.st ?_
    have hE:c+x=c+x+y:=Jo
    rw[hE]
    have hd0:0≤(c+x+y)%10000∧(c+x+y)%10000<10000:=⟨jjz _ Jo,jjY _ Jo⟩
    have hst:=jaF (B:=10000) (x:=x) (y:=y) (d:=(c+x+y)%10000) (c':=(c+x+y)/10000) h1 h4 (by have:=jjA (c+x+y) 10000;omega)
    rw[← vx,← vy] at hst
    have hdg:Dg 10000 (out++[(c+x+y)%10000]):=jai h2 (jaA hd0)
    have hl2:(out++[(c+x+y)%10000]).length=k+1:=by simp[h1]
    have hl3:out.length+(List.take 1 (List.drop 0 [(c+x+y)%10000])).length=(out++[(c+x+y)%10000]).length:=Js
    have hkc:((k:Int)+1)=((k+1:Nat):Int):=Jo
    refine V.r0 (V.a2 hl3 hkc) ?_
    try refine And.intro (fun _=>⟨trivial,Jo⟩) ?_
    refine V.r0 (V.a2 hl3 hkc) ?_
    exact⟨(k+1,out++[(c+x+y)%10000],(c+x+y)/10000),⟨hl2,hdg,by dsimp only;omega,hst,jgx h1 h2 h3 h5 Jo gx gy⟩,by dsimp only;omega,V.wk⟩
  ·rw[decide_eq_false_iff_not] at hx
   have:=gx Jo
   (conv=>whnf)
   refine V.st ?_
   refine V.br (fun hy=>?_) (fun hy=>?_)
   ·rw[decide_eq_true_eq] at hy
    refine V.r0 (V.a2 @jjF hy0) ?_
    have hE:c+y=c+x+y:=Jo
    rw[hE]
    have hd0:0≤(c+x+y)%10000∧(c+x+y)%10000<10000:=⟨jjz _ Jo,jjY _ Jo⟩
    have hst:=jaF (B:=10000) (x:=x) (y:=y) (d:=(c+x+y)%10000) (c':=(c+x+y)/10000) h1 h4 (by have:=jjA (c+x+y) 10000;omega)
    rw[← vx,← vy] at hst
    have hdg:Dg 10000 (out++[(c+x+y)%10000]):=jai h2 (jaA hd0)
    have hl2:(out++[(c+x+y)%10000]).length=k+1:=by simp[h1]
    have hl3:out.length+(List.take 1 (List.drop 0 [(c+x+y)%10000])).length=(out++[(c+x+y)%10000]).length:=Js
    have hkc:((k:Int)+1)=((k+1:Nat):Int):=Jo
    refine V.r0 (V.a2 hl3 hkc) ?_
    try refine And.intro (fun _=>⟨trivial,Jo⟩) ?_
    refine V.r0 (V.a2 hl3 hkc) ?_
    exact⟨(k+1,out++[(c+x+y)%10000],(c+x+y)/10000),⟨hl2,hdg,by dsimp only;omega,hst,jgx h1 h2 h3 h5 Jo gx gy⟩,by dsimp only;omega,V.wk⟩
   ·rw[decide_eq_false_iff_not] at hy
    have:=gy Jo
    (conv=>whnf)
    refine V.st ?_
    have hE:c=c+x+y:=Jo
    rw[hE]
    have hd0:0≤(c+x+y)%10000∧(c+x+y)%10000<10000:=⟨jjz _ Jo,jjY _ Jo⟩
    have hst:=jaF (B:=10000) (x:=x) (y:=y) (d:=(c+x+y)%10000) (c':=(c+x+y)/10000) h1 h4 (by have:=jjA (c+x+y) 10000;omega)
    rw[← vx,← vy] at hst
    have hdg:Dg 10000 (out++[(c+x+y)%10000]):=jai h2 (jaA hd0)
    have hl2:(out++[(c+x+y)%10000]).length=k+1:=by simp[h1]
    have hl3:out.length+(List.take 1 (List.drop 0 [(c+x+y)%10000])).length=(out++[(c+x+y)%10000]).length:=Js
    have hkc:((k:Int)+1)=((k+1:Nat):Int):=Jo
    refine V.r0 (V.a2 hl3 hkc) ?_
    try refine And.intro (fun _=>⟨trivial,Jo⟩) ?_
    refine V.r0 (V.a2 hl3 hkc) ?_
    exact⟨(k+1,out++[(c+x+y)%10000],(c+x+y)/10000),⟨hl2,hdg,by dsimp only;omega,hst,jgx h1 h2 h3 h5 Jo gx gy⟩,by dsimp only;omega,V.wk⟩
 ·simp only[jjP,decide_eq_false_iff_not] at hq
  have hc:c=0:=Jo
  have hkm:max xs.length ys.length≤k:=Jo
  subst hc
  rw[jko Jo,jko Jo,hvx,hvy,Int.zero_mul,jjZ] at h4
  have hge:((10000:Nat):Int)^(out.length-1)≤val 10000 out∨(out=[]∧a+b=0):=by
   rcases h5 with h5|h5
   ·rcases jjI (a+b) with h0|h0
    ·right
     have e1:=hex.mpr Jo
     have e2:=hey.mpr Jo
     subst e1 e2
     have:k=0:=by simpa using h5
     exact⟨jj9.mp Jo,h0⟩
    ·left
     rw[h4,h1]
     have hk:k=max xs.length ys.length:=Jo
     rcases jjO xs.length ys.length with hl|hl
     ·have hb0:0<b:=Nat.pos_of_ne_zero fun h=>by
       rw[← hey] at h;rw[h] at hl;simp at hl
      have h9:=hpy hb0
      have hk':k=ys.length:=Jo
      rw[← hk'] at h9
      have h8:(((10000^(k-1):Nat)):Int)≤(b:Int):=by exact_mod_cast h9
      rw[jj0] at h8
      omega
     ·have ha0:0<a:=Nat.pos_of_ne_zero fun h=>by
       have h':=h
       rw[← hex] at h'
       rw[h'] at hl
       have:ys=[]:=jj9.mp (by simpa using hl)
       have:=hey.mp this
       omega
      have h9:=hpx ha0
      have hk':k=xs.length:=Jo
      rw[← hk'] at h9
      have h8:(((10000^(k-1):Nat)):Int)≤(a:Int):=by exact_mod_cast h9
      rw[jj0] at h8
      omega
   ·left
    rw[h1,h5.1]
    exact h5.2.2
  have hout:out=mg 10000 (a+b):=by
   rcases hge with hge|hge
   ·have:=jdQ Jo h2 hge
    rw[this,h4];congr 1
   ·rw[hge.1,hge.2];rfl
  (conv=>whnf)
  refine V.st ?_
  exact Fin.of (by rw[jkz,hout])
theorem jc6 (a b:Nat)(hba:b≤a)(ha:(mg 10000 a).length≤100000000):Cl 175 [Jj (mg 10000 a),Jj (mg 10000 b)] (Jj (mg 10000 (a-b))):=by
 have hdx:=mg_dg (B:=10000) Jo a
 have hdy:=mg_dg (B:=10000) Jo b
 have hvx:=jaJ (B:=10000) Jo a
 have hvy:=jaJ (B:=10000) Jo b
 have hlen:=jah (B:=10000) Jo hba
 generalize mg 10000 a=xs at *
 generalize mg 10000 b=ys at *
 refine V.en tbOk Tryz.func175 ?_
 (conv=>whnf)
 refine V.st ?_
 refine Lp.ghostSlot 38 5 .i64 Jd ?_
 (conv=>whnf)
 refine jad ((0,[],0):Nat×List Int×Int) (fun s=>s.2.1.length=s.1∧Dg 10000 s.2.1∧(0≤s.2.2∧s.2.2≤1)∧val 10000 s.2.1-s.2.2*((10000:Nat):Int)^s.1=val 10000 (xs.take s.1)-val 10000 (ys.take s.1)∧s.1≤xs.length) (fun s=>xs.length+2-s.1)
  (fun s=>[(7,Ji s.1),(6,Ji s.2.2),(5,.osl 38 0 s.2.1.length)]) (fun s=>[(38,.arr .i64 s.2.1)]) ?_ ?_ ?_
 ·exact V.wk
 ·exact⟨rfl,fun x hx=>by simp at hx,Js,by simp[val],Js⟩
 rintro⟨k,out,bw⟩ ⟨h1,h2,h3,h4,h5⟩
 dsimp only at h1 h2 h3 h4 h5 ⊢
 have vx:=jaj 10000 xs k
 have vy:=jaj 10000 ys k
 have bx:=jan Jo hdx k
 have by':=jan Jo hdy k
 have gy:=jch (xs:=ys) (k:=k)
 generalize hx0:xs.getD k 0=x at *
 generalize hy0:ys.getD k 0=y at *
 (conv=>whnf)
 refine V.st ?_
 refine V.br (fun hq=>?_) (fun hq=>?_)
 ·rw[decide_eq_true_eq] at hq
  refine V.r0 (V.a2 @jjF hx0) ?_
  refine V.br (fun hy=>?_) (fun hy=>?_)
  ·rw[decide_eq_true_eq] at hy
   refine V.r0 (V.a2 @jjF hy0) ?_
   refine V.br (fun hz=>?_) (fun hz=>?_)
   ·rw[decide_eq_true_eq] at hz
    have hE:x-bw-y=x-y-bw:=Jo
    rw[hE]
    have hst:=jb4 (B:=10000) (x:=x) (y:=y) (d:=(x-y-bw+10000)) (b':=1) h1 h4 Jo
    rw[← vx,← vy] at hst
    have hdg:Dg 10000 (out++[(x-y-bw+10000)]):=jai h2 (jaA Jo)
    have hl2:(out++[(x-y-bw+10000)]).length=k+1:=by simp[h1]
    have hl3:out.length+(List.take 1 (List.drop 0 [(x-y-bw+10000)])).length=(out++[(x-y-bw+10000)]).length:=Js
    have hkc:((k:Int)+1)=((k+1:Nat):Int):=Jo
    refine V.r0 (V.a2 hl3 hkc) ?_
    try refine And.intro (fun _=>⟨trivial,Jo⟩) ?_
    refine V.r0 (V.a2 hl3 hkc) ?_
    exact⟨(k+1,out++[(x-y-bw+10000)],1),⟨hl2,hdg,by dsimp only;omega,hst,by dsimp only;omega⟩,by dsimp only;omega,V.wk⟩
   ·rw[decide_eq_false_iff_not] at hz
    have hE:x-bw-y=x-y-bw:=Jo
    rw[hE]
    have hst:=jb4 (B:=10000) (x:=x) (y:=y) (d:=(x-y-bw)) (b':=0) h1 h4 Jo
    rw[← vx,← vy] at hst
    have hdg:Dg 10000 (out++[(x-y-bw)]):=jai h2 (jaA Jo)
    have hl2:(out++[(x-y-bw)]).length=k+1:=by simp[h1]
    have hl3:out.length+(List.take 1 (List.drop 0 [(x-y-bw)])).length=(out++[(x-y-bw)]).length:=Js
    have hkc:((k:Int)+1)=((k+1:Nat):Int):=Jo
    refine V.r0 (V.a2 hl3 hkc) ?_
    try refine And.intro (fun _=>⟨trivial,Jo⟩) ?_
    refine V.r0 (V.a2 hl3 hkc) ?_
    exact⟨(k+1,out++[(x-y-bw)],0),⟨hl2,hdg,by dsimp only;omega,hst,by dsimp only;omega⟩,by dsimp only;omega,V.wk⟩
  ·rw[decide_eq_false_iff_not] at hy
   have:=gy Jo
   (conv=>whnf)
   refine V.st ?_
   refine V.br (fun hz=>?_) (fun hz=>?_)
   ·rw[decide_eq_true_eq] at hz
    have hE:x-bw=x-y-bw:=Jo
    rw[hE]
    have hst:=jb4 (B:=10000) (x:=x) (y:=y) (d:=(x-y-bw+10000)) (b':=1) h1 h4 Jo
    rw[← vx,← vy] at hst
    have hdg:Dg 10000 (out++[(x-y-bw+10000)]):=jai h2 (jaA Jo)
    have hl2:(out++[(x-y-bw+10000)]).length=k+1:=by simp[h1]
    have hl3:out.length+(List.take 1 (List.drop 0 [(x-y-bw+10000)])).length=(out++[(x-y-bw+10000)]).length:=Js
    have hkc:((k:Int)+1)=((k+1:Nat):Int):=Jo
    refine V.r0 (V.a2 hl3 hkc) ?_
    try refine And.intro (fun _=>⟨trivial,Jo⟩) ?_
    refine V.r0 (V.a2 hl3 hkc) ?_
    exact⟨(k+1,out++[(x-y-bw+10000)],1),⟨hl2,hdg,by dsimp only;omega,hst,by dsimp only;omega⟩,by dsimp only;omega,V.wk⟩
   ·rw[decide_eq_false_iff_not] at hz
    have hE:x-bw=x-y-bw:=Jo
    rw[hE]
    have hst:=jb4 (B:=10000) (x:=x) (y:=y) (d:=(x-y-bw)) (b':=0) h1 h4 Jo
    rw[← vx,← vy] at hst
    have hdg:Dg 10000 (out++[(x-y-bw)]):=jai h2 (jaA Jo)
    have hl2:(out++[(x-y-bw)]).length=k+1:=by simp[h1]
    have hl3:out.length+(List.take 1 (List.drop 0 [(x-y-bw)])).length=(out++[(x-y-bw)]).length:=Js
    have hkc:((k:Int)+1)=((k+1:Nat):Int):=Jo
    refine V.r0 (V.a2 hl3 hkc) ?_
    try refine And.intro (fun _=>⟨trivial,Jo⟩) ?_
    refine V.r0 (V.a2 hl3 hkc) ?_
    exact⟨(k+1,out++[(x-y-bw)],0),⟨hl2,hdg,by dsimp only;omega,hst,by dsimp only;omega⟩,by dsimp only;omega,V.wk⟩
 ·rw[decide_eq_false_iff_not] at hq
  have hk:k=xs.length:=Jo
  rw[jko Jo,jko Jo,hvx,hvy] at h4
  have hlt:=jcj h2
  have hnn:=jao h2
  rw[h1] at hlt
  have hbw:bw=0:=by
   rcases (by omega:bw=0∨bw=1) with e|e
   ·exact e
   ·subst e;omega
  subst hbw
  rw[Int.zero_mul,Int.sub_zero] at h4
  have hc:=cut_c out h2 Jo
  rw[h4] at hc
  have e1:((a:Int)-(b:Int)).toNat=a-b:=Jo
  rw[e1] at hc
  have hc2:Cl 172 [Jj (List.take out.length out)] (Jj (mg 10000 (a-b))):=by rw[jkz];exact hc
  refine V.u1 hc2 ?_
  exact Fin.of rfl
def ordR (xs ys:List Int):Nat→Int
 | 0=>0
 | k+1=>if xs.getD k 0=ys.getD k 0 then ordR xs ys k else xs.getD k 0-ys.getD k 0
def ordV (xs ys:List Int):Int:=if xs.length=ys.length then ordR xs ys xs.length else (xs.length:Int)-ys.length
theorem jct {B:Nat}(hB:2≤B){xs:List Int}(hd:Dg B xs)(k:Nat):val B (xs.take k)<(B:Int)^k:=by
 have h:=jcj (jbB hd k)
 have h2:B^(xs.take k).length≤B^k:=jjW Jo (by rw[jke];omega)
 have h3:(((B^(xs.take k).length:Nat)):Int)≤((B^k:Nat):Int):=by exact_mod_cast h2
 rw[jj0,jj0] at h3
 omega
theorem jhw {B:Nat}(hB:2≤B){xs ys:List Int}(hx:Dg B xs)(hy:Dg B ys):∀ k,(ordR xs ys k<0↔val B (xs.take k)<val B (ys.take k))∧(ordR xs ys k=0↔val B (xs.take k)=val B (ys.take k))
 | 0=>by simp[ordR]
 | k+1=>by
  obtain⟨i1,i2⟩:=jhw hB hx hy k
  rw[jaj,jaj,ordR]
  have l1:=jct hB hx k
  have l2:=jct hB hy k
  have n1:=jao (jbB hx k)
  have n2:=jao (jbB hy k)
  generalize xs.getD k 0=x
  generalize ys.getD k 0=y
  generalize val B (xs.take k)=u at *
  generalize val B (ys.take k)=v at *
  generalize (B:Int)^k=P at *
  by_cases e:x=y
  ·subst e;rw[if_pos rfl];omega
  ·rw[if_neg e]
   rcases Int.lt_or_gt_of_ne e with h|h
   ·have:P*(x+1)≤P*y:=jjU Jo Jo
    rw[jjR,Int.mul_one] at this
    omega
   ·have:P*(y+1)≤P*x:=jjU Jo Jo
    rw[jjR,Int.mul_one] at this
    omega
theorem jf7 {B:Nat}(hB:2≤B)(a b:Nat):(ordV (mg B a) (mg B b)<0↔a<b)∧(ordV (mg B a) (mg B b)=0↔a=b):=by
 unfold ordV
 have m1:=fun h:a≤b=>jah (B:=B) hB h
 have m2:=fun h:b≤a=>jah (B:=B) hB h
 by_cases e:(mg B a).length=(mg B b).length
 ·rw[if_pos e]
  have h:=jhw hB (mg_dg (B:=B) hB a) (mg_dg (B:=B) hB b) (mg B a).length
  rw[jko (jjG _),jko Jo,jaJ hB,jaJ hB] at h
  omega
 ·rw[if_neg e]
  rcases Nat.lt_trichotomy a b with h|h|h
  ·have:=m1 Jo;omega
  ·subst h;exact absurd rfl e
  ·have:=m2 Jo;omega
theorem jhv (a b:Nat):(ordV (mg 10000 a) (mg 10000 b)<0↔a<b)∧(ordV (mg 10000 a) (mg 10000 b)=0↔a=b):=jf7 Jo a b
theorem jhX (B:Nat)(d:Int):∀ (l:List Int) (k:Nat),k<l.length→val B (l.set k d)=val B l+(B:Int)^k*(d-l.getD k 0)
 | [],k,h=>by simp at h
 | x::l,0,_=>by simp[val];omega
 | x::l,k+1,h=>by
  have ih:=jhX B d l k (by simpa using h)
  simp only[List.set_cons_succ,val,List.getD_cons_succ]
  rw[ih,Int.pow_succ,jjR]
  generalize (B:Int)^k=P
  have:(B:Int)*(P*(d-l.getD k 0))=P*B*(d-l.getD k 0):=by ac_rfl
  omega
theorem jd2 {B:Nat}{l:List Int}{k:Nat}{d:Int}(h:Dg B l)(hd:0≤d∧d<B):Dg B (l.set k d):=fun x hx=>by
 rcases List.mem_or_eq_of_mem_set hx with h1|h1
 ·exact h x h1
 ·subst h1;exact hd
theorem jht {B:Nat}{o:List Int}{i j:Nat}{c q x y U Y d c':Int}(hlt:i+j<o.length)(hq:o.getD (i+j) 0=q)(h:val B o+(B:Int)^(i+j)*c=U+(B:Int)^i*x*Y)(hs:d+c'*B=c+q+x*y) :
  val B (o.set (i+j) d)+(B:Int)^(i+(j+1))*c'=U+(B:Int)^i*x*(Y+(B:Int)^j*y):=by
 rw[jhX B d o (i+j) hlt,hq,← Nat.add_assoc,Int.pow_succ]
 have e0:(B:Int)^i*x*(Y+(B:Int)^j*y)=(B:Int)^i*x*Y+(B:Int)^(i+j)*(x*y):=by
  rw[jjR,Int.pow_add];congr 1;ac_rfl
 rw[e0]
 generalize (B:Int)^(i+j)=P at *
 have e1:P*(d+c'*B)=P*d+P*B*c':=by rw[jjR];congr 1;ac_rfl
 rw[hs] at e1
 have e2:P*(c+q+x*y)=P*c+P*q+P*(x*y):=by rw[jjR,jjR]
 rw[Int.mul_sub]
 omega
theorem prod_end {B:Nat}{o xs:List Int}{i n:Nat}{c x YS:Int}(hlt:i+n<o.length)(hq:o.getD (i+n) 0=0)(h:val B o+(B:Int)^(i+n)*c=val B (xs.take i)*YS+(B:Int)^i*x*YS)(hx:xs.getD i 0=x) :
  val B (o.set (i+n) c)=val B (xs.take (i+1))*YS:=by
 rw[jhX B c o (i+n) hlt,hq,jaj,hx,jj1,Int.sub_zero]
 exact h
theorem jcE {l:List Int}{i k:Nat}{d:Int}(h:i≠k):(l.set i d).getD k 0=l.getD k 0:=by
 simp[jj8,List.getElem?_set,h]
theorem jfu {l:List Int}{i:Nat}{d:Int}(h:i<l.length):(l.set i d).getD i 0=d:=by
 simp[jj8,List.getElem?_set,h]
theorem jbP {B:Nat}{l:List Int}{k:Nat}(h:k<l.length):val B (l.drop k)=l.getD k 0+B*val B (l.drop (k+1)):=by
 rw[jks h,val]
 congr 1
 simp[jj8,h]
theorem jfy {l:List Int}{i k:Nat}{d:Int}(h:i<k):(l.set i d).drop k=l.drop k:=by
 rw[List.drop_set_of_lt h]
theorem jfg {B:Nat}{xs out:List Int}{k:Nat}{d r x t:Int}(hk:k<xs.length)(hl:k<out.length)(hx:xs.getD k 0=x)(h:val B (xs.drop (k+1))=val B (out.drop (k+1))*d+r)(ht:t=r*B+x) :
  val B (xs.drop k)=val B ((out.set k (t/d)).drop k)*d+t%d:=by
 have e0:=jbP (B:=B) (l:=out.set k (t/d)) (k:=k) (by rw[jkw];exact hl)
 rw[jfu hl,jfy (l:=out) (i:=k) (k:=k+1) Jo] at e0
 rw[jbP hk,e0,hx,h]
 have:=jjA t d
 have e1:(t/d+(B:Int)*val B (out.drop (k+1)))*d=d*(t/d)+B*(val B (out.drop (k+1))*d):=by rw[jj1];congr 1<;>ac_rfl
 rw[e1,jjR]
 have e2:(B:Int)*r=r*B:=jjS _ _
 omega
theorem jfh {B:Nat}{d r x:Int}(hd:0<d)(hr:0≤r∧r<d)(hx:0≤x∧x<B):0≤(r*B+x)/d∧(r*B+x)/d<B∧0≤(r*B+x)%d∧(r*B+x)%d<d:=by
 have h0:0≤r*(B:Int):=jjB hr.1 Jo
 refine⟨jjy Jo Jo,?_,jjz _ Jo,jjY _ hd⟩
 refine Int.ediv_lt_of_lt_mul hd ?_
 have h1:(r+1)*(B:Int)≤d*B:=jjM Jo Jo
 rw[jj1,jj2] at h1
 rw[jjS d (B:Int)] at h1
 omega
theorem order_c (xs ys:List Int)(ha:xs.length≤100000000)(hb:ys.length≤100000000)(hdx:Dg 10000 xs)(hdy:Dg 10000 ys):Cl 174 [Jj xs,Jj ys] (Ji (ordV xs ys)):=by
 refine V.en tbOk Tryz.func174 ?_
 (conv=>whnf)
 refine V.st ?_
 refine V.br (fun hq=>?_) (fun hq=>?_)
 ·rw[decide_eq_true_eq] at hq
  (conv=>whnf)
  refine V.st ?_
  exact Fin.of (by unfold ordV;rw[if_neg Jo])
 ·rw[decide_eq_false_iff_not] at hq
  have hq':xs.length=ys.length:=Jo
  (conv=>whnf)
  refine V.st ?_
  refine jad (xs.length) (fun k=>k≤xs.length∧ordR xs ys k=ordR xs ys xs.length) (fun k=>k) (fun k=>[(5,Ji ((k:Int)-1))]) (fun k=>[]) ?_ ?_ ?_
  ·exact V.wk
  ·exact⟨jjG _,rfl⟩
  intro k hk
  have bx:=jan Jo hdx (k-1)
  have by':=jan Jo hdy (k-1)
  (conv=>whnf)
  refine V.st ?_
  refine V.br (fun hz=>?_) (fun hz=>?_)
  ·rw[decide_eq_true_eq] at hz
   (conv=>whnf)
   refine V.st ?_
   refine⟨Pq27z,[],V.pok,.go (jac ?_)⟩
   (conv=>whnf)
   refine V.st ?_
   have hk0:0<k:=Jo
   obtain⟨j,rfl⟩:∃ j,k=j+1:=⟨k-1,Jo⟩
   have e1:((((j+1:Nat):Int)-1).toNat)=j:=Jo
   have e2:(((j+1:Nat):Int)-1)=(j:Int):=Jo
   have hr:=hk.2
   rw[ordR] at hr
   refine V.br (fun hn=>?_) (fun hn=>?_)
   ·rw[decide_eq_true_eq,e1] at hn
    (conv=>whnf)
    refine V.st ?_
    refine⟨(V.tk [0,1,2,3,4,5,6,7,8,9] .done),[],V.pok,.go (jac ?_)⟩
    (conv=>whnf)
    refine V.st ?_
    rw[Nat.add_sub_cancel] at bx by'
    rw[e1]
    generalize xs.getD j 0=x at *
    generalize ys.getD j 0=y at *
    refine And.intro (fun _ _ _=>?_) ?_
    ·refine⟨?_,?_⟩<;>simp only[V.lo,V.hi]<;>omega
    (conv=>whnf)
    refine V.st ?_
    exact Fin.of (by unfold ordV;rw[if_pos hq',← hr,if_neg hn])
   ·rw[decide_eq_false_iff_not,e1] at hn
    rw[if_pos Jo] at hr
    refine V.r0 e2 ?_
    exact⟨j,⟨Jo,hr⟩,Jo,V.wk⟩
  ·rw[decide_eq_false_iff_not] at hz
   have hk0:k=0:=Jo
   subst hk0
   (conv=>whnf)
   refine V.st ?_
   exact Fin.of (by unfold ordV;rw[if_pos hq',← hk.2];rfl)
theorem jfa (xs ys:List Int)(ha:xs.length≤100000000)(hb:ys.length≤100000000)(hdx:Dg 10000 xs)(hdy:∀ j,0≤ys.getD j 0∧ys.getD j 0≤10000∧(0<j→ys.getD j 0<10000)):Cl 176 [Jj xs,Jj ys] (Jj (mg 10000 (val 10000 xs*val 10000 ys).toNat)):=by
 have hmn:((xs.length:Int)+(ys.length:Int)).toNat=xs.length+ys.length:=Jo
 refine V.en tbOk Tryz.func176 ?_
 refine V.r0 hmn ?_
 refine jad ((0,List.replicate (xs.length+ys.length) 0):Nat×List Int) (fun s=>s.1≤xs.length∧s.2.length=xs.length+ys.length∧Dg 10000 s.2∧(∀ k,s.1+ys.length≤k→s.2.getD k 0=0)∧val 10000 s.2=val 10000 (xs.take s.1)*val 10000 ys) (fun s=>xs.length-s.1)
  (fun s=>[(6,Ji s.1),(5,.osl 14 0 (xs.length+ys.length))]) (fun s=>[(14,.arr .i64 s.2)]) ?_ ?_ ?_
 ·exact V.wk
 ·exact⟨jjx _,Js,jcc Jo _,fun k _=>by simp[jj8,List.getElem?_replicate];split<;>simp,by simp[val,jeW]⟩
 rintro⟨i,out⟩ ⟨h1,h2,h3,h4,h5⟩
 dsimp only at h1 h2 h3 h4 h5 ⊢
 have vx:=jaj 10000 xs i
 have bx:=jan Jo hdx i
 generalize hx0:xs.getD i 0=x at *
 (conv=>whnf)
 refine V.st ?_
 refine V.br (fun hq=>?_) (fun hq=>?_)
 ·rw[decide_eq_true_eq] at hq
  (conv=>whnf)
  refine V.st ?_
  refine jad ((0,out,0):Nat×List Int×Int) (fun s=>s.1≤ys.length∧s.2.1.length=xs.length+ys.length∧Dg 10000 s.2.1∧(∀ k,i+ys.length≤k→s.2.1.getD k 0=0)∧(0≤s.2.2∧s.2.2<10000∧(s.1=0→s.2.2=0))∧val 10000 s.2.1+((10000:Nat):Int)^(i+s.1)*s.2.2=val 10000 (xs.take i)*val 10000 ys+((10000:Nat):Int)^i*x*val 10000 (ys.take s.1)) (fun s=>ys.length-s.1)
   (fun s=>[(8,Ji s.1),(7,Ji s.2.2),(6,Ji i),(5,.osl 14 0 (xs.length+ys.length))]) (fun s=>[(14,.arr .i64 s.2.1)]) ?_ ?_ ?_
  ·exact V.wk
  ·exact⟨jjx _,h2,h3,h4,Js,by simp[val,h5]⟩
  rintro⟨j,o,c⟩ ⟨g1,g2,g3,g4,g5,g6⟩
  dsimp only at g1 g2 g3 g4 g5 g6 ⊢
  have vy:=jaj 10000 ys j
  have by':=hdy j
  have bo:=jan Jo g3 (i+j)
  generalize hy0:ys.getD j 0=y at *
  generalize ho0:o.getD (i+j) 0=q at *
  have eij:((i:Int)+(j:Int)).toNat=i+j:=Jo
  have hxy:0≤x*y∧x*y≤9999*y:=⟨jjB Jo Jo,jjM Jo Jo⟩
  have hkj:((j:Int)+1)=((j+1:Nat):Int):=Jo
  have hki:((i:Int)+1)=((i+1:Nat):Int):=Jo
  have ein:((i:Int)+(ys.length:Int)).toNat=i+ys.length:=Jo
  (conv=>whnf)
  refine V.st ?_
  refine V.br (fun hw=>?_) (fun hw=>?_)
  ·rw[decide_eq_true_eq] at hw
   have hm:0≤(c+q+x*y)%10000∧(c+q+x*y)%10000<10000:=⟨jjz _ Jo,jjY _ Jo⟩
   have hc9:0≤(c+q+x*y)/10000∧(c+q+x*y)/10000<10000:=by
    rcases jjI j with e|e
    ·have:=g5.2.2 e
     omega
    ·have:=by'.2.2 e
     omega
   have hst:=jht (B:=10000) (x:=x) (y:=y) (q:=q) (c:=c) (d:=(c+q+x*y)%10000) (c':=(c+q+x*y)/10000) Jo ho0 g6 (by have:=jjA (c+q+x*y) 10000;omega)
   rw[← vy] at hst
   refine V.r0 (V.a7 eij @jjC @jjF hx0 hy0 ho0 hkj) ?_
   refine⟨(V.tk [0,1,2,3,4,5,6,7,8,9,10,11,12,13,14,15,16,17] (V.e1 18 [] .done)),[],V.pok,.go (jac ?_)⟩
   refine V.r0 (V.a7 eij @jjC @jjF hx0 hy0 ho0 hkj) ?_
   exact⟨(j+1,o.set (i+j) ((c+q+x*y)%10000),(c+q+x*y)/10000),⟨by dsimp only;omega,by dsimp only;rw[jkw];exact g2,jd2 g3 hm,fun k hk=>by dsimp only;rw[jcE Jo];exact g4 k hk,⟨hc9.1,hc9.2,fun h=>by simp at h⟩,hst⟩,by dsimp only;omega,V.wk⟩
  ·rw[decide_eq_false_iff_not] at hw
   have hj:j=ys.length:=Jo
   subst hj
   rw[jkz] at g6
   have hst:=prod_end (B:=10000) Jo (g4 _ (jjG _)) g6 hx0
   refine V.r0 (V.a3 ein @jjC hki) ?_
   exact⟨(i+1,o.set (i+ys.length) c),⟨by dsimp only;omega,by dsimp only;rw[jkw];exact g2,jd2 g3 ⟨g5.1,g5.2.1⟩,fun k hk=>by dsimp only at hk ⊢; rw[jcE Jo];exact g4 k Jo,hst⟩,by dsimp only;omega,V.wk⟩
 ·rw[decide_eq_false_iff_not] at hq
  rw[jko Jo] at h5
  have hc:=cut_c out h3 Jo
  rw[h5] at hc
  rw[← jkz (l:=out),h2] at hc
  refine V.u1 hc ?_
  exact Fin.of rfl
theorem once_g (xs:List Int)(d:Int)(ha:xs.length≤100000000)(hdx:Dg 10000 xs)(hd0:0<d)(hd1:d≤10000):Cl 212 [Jj xs,Ji d] (.tup [Jj (mg 10000 (val 10000 xs/d).toNat),Ji (val 10000 xs%d)]):=by
 have hmn:((xs.length:Int)).toNat=xs.length:=Jo
 refine V.en tbOk Tryz.func212 ?_
 refine V.r0 hmn ?_
 refine jad ((xs.length,List.replicate xs.length 0,0):Nat×List Int×Int) (fun s=>s.1≤xs.length∧s.2.1.length=xs.length∧Dg 10000 s.2.1∧(0≤s.2.2∧s.2.2<d)∧val 10000 (xs.drop s.1)=val 10000 (s.2.1.drop s.1)*d+s.2.2) (fun s=>s.1)
  (fun s=>[(8,Ji ((s.1:Int)-1)),(7,Ji s.2.2),(6,.osl 11 0 xs.length)]) (fun s=>[(11,.arr .i64 s.2.1)]) ?_ ?_ ?_
 ·exact V.wk
 ·exact⟨jjG _,Js,jcc Jo _,⟨Js,hd0⟩,by simp[val]⟩
 rintro⟨k,out,r⟩ ⟨h1,h2,h3,h4,h5⟩
 dsimp only at h1 h2 h3 h4 h5 ⊢
 (conv=>whnf)
 refine V.st ?_
 refine V.br (fun hq=>?_) (fun hq=>?_)
 ·rw[decide_eq_true_eq] at hq
  obtain⟨j,rfl⟩:∃ j,k=j+1:=⟨k-1,Jo⟩
  have hj:j<xs.length:=Jo
  have bx:=jan Jo hdx j
  generalize hx0:xs.getD j 0=x at *
  have e2:(((j+1:Nat):Int)-1)=(j:Int):=Jo
  have hb:=jfh (B:=10000) hd0 h4 bx
  have hst:=jfg (B:=10000) hj Jo hx0 h5 (t:=r*10000+x) rfl
  have hr0:0≤r*10000+x:=Jo
  refine V.r0 (V.a4 e2 @jjC @jjF hx0) ?_
  exact⟨(j,out.set j ((r*10000+x)/d),(r*10000+x)%d),⟨by dsimp only;omega,by dsimp only;rw[jkw];exact h2,jd2 h3 ⟨hb.1,hb.2.1⟩,⟨hb.2.2.1,hb.2.2.2⟩,hst⟩,by dsimp only;omega,V.wk⟩
 ·rw[decide_eq_false_iff_not] at hq
  obtain rfl:k=0:=Jo
  rw[jku,jku] at h5
  have e1:val 10000 xs/d=val 10000 out:=by
   rw[h5,Int.add_comm,Int.add_mul_ediv_right _ _ Jo,Int.ediv_eq_zero_of_lt h4.1 h4.2,Int.zero_add]
  have e2:val 10000 xs%d=r:=by
   rw[h5,Int.add_comm,Int.add_mul_emod_self_right,Int.emod_eq_of_lt h4.1 h4.2]
  have hc:=cut_c out h3 Jo
  rw[← e1,← jkz (l:=out),h2] at hc
  refine V.u1 hc ?_
  exact Fin.of (by rw[e1,e2])
theorem jbg (B:Nat)(l:List Int)(k:Nat):val B (l.drop k)=l.getD k 0+B*val B (l.drop (k+1)):=by
 rcases jjO k l.length with h|h
 ·exact jbP h
 ·rw[List.drop_eq_nil_of_le h,List.drop_eq_nil_of_le Jo,jch h];simp[val]
theorem jdy {B:Nat}{l:List Int}(hB:2≤B)(hd:Dg B l)(k:Nat):val B (l.drop k)*(B:Int)^k≤val B l∧val B l<(val B (l.drop k)+1)*(B:Int)^k:=by
 rcases Nat.le_total k l.length with h|h
 ·have h1:=jbY B l k h
  have h2:=jao (jbB hd k)
  have h3:=jcj (jbB hd k)
  rw[jke,Nat.min_eq_left h] at h3
  rw[jj1,jj2,h1,jjS (val B (l.drop k))]
  omega
 ·rw[List.drop_eq_nil_of_le h]
  have h2:=jao hd
  have h3:=jcj hd
  have h4:B^l.length≤B^k:=jjW Jo h
  have h5:((B^l.length:Nat):Int)≤((B^k:Nat):Int):=by exact_mod_cast h4
  rw[jj0,jj0] at h5
  simp[val]
  omega
theorem trial_ends {B F top P R b:Int}(hB:2≤B)(hP:0<P)(ht:B≤top)(hF0:0≤F)(hb1:top*P≤b)(hb2:b<(top+1)*P)(hR1:F*P≤R)(hR2:R<(F+1)*P)(hlt:R<B*b) :
  0≤F/(top+1)∧F/(top+1)*b≤R∧R<(F/top+1)*b∧F/top+1≤B+1:=by
 have h0:0≤F/(top+1):=jjy hF0 Jo
 refine⟨h0,?_,?_,?_⟩
 ·have h1:F/(top+1)*b≤F/(top+1)*((top+1)*P):=jjU Jo h0
  have h2:F/(top+1)*(top+1)≤F:=Int.ediv_mul_le _ Jo
  have h3:F/(top+1)*(top+1)*P≤F*P:=jjM h2 Jo
  rw[jjT] at h3
  omega
 ·have h1:F<(F/top+1)*top:=Int.lt_ediv_add_one_mul_self _ Jo
  have h2:(F+1)*P≤(F/top+1)*top*P:=jjM Jo Jo
  have h4:0≤F/top:=jjy hF0 Jo
  have h3:(F/top+1)*(top*P)≤(F/top+1)*b:=jjU hb1 Jo
  rw[jjT] at h2
  omega
 ·have h1:F*P<B*(top+1)*P:=by
   have:B*b<B*((top+1)*P):=Int.mul_lt_mul_of_pos_left hb2 Jo
   rw[jjT];omega
  have h2:=Int.lt_of_mul_lt_mul_right h1 Jo
  rw[jjR,Int.mul_one] at h2
  have h3:F/top<B+1:=Int.ediv_lt_of_lt_mul Jo (by rw[jj1,jj2];omega)
  omega
theorem trial_out {R b low high:Int}(hb:0<b)(h1:low*b≤R)(h2:R<high*b)(h3:high-low≤1):low=R/b∧R-b*low=R%b:=by
 have h4:low<high:=Int.lt_of_mul_lt_mul_right (Int.lt_of_le_of_lt h1 h2) Jo
 obtain rfl:high=low+1:=Jo
 have h5:low=R/b:=by
  refine Int.le_antisymm ((Int.le_ediv_iff_mul_le hb).2 h1) ?_
  have:=(Int.ediv_lt_iff_lt_mul hb).2 h2
  omega
 refine⟨h5,?_⟩
 have:=jjA R b
 rw[h5];omega
theorem cut_mg (n:Nat)(h:(mg 10000 n).length≤281474976710656):Cl 172 [Jj (mg 10000 n)] (Jj (mg 10000 n)):=by
 have:=cut_c _ (mg_dg (B:=10000) Jo n) h
 rw[jaJ Jo,jjF] at this
 exact this
theorem parts_one (a b:Nat)(ha:(mg 10000 a).length≤100000000)(hb:0<b)(hb1:b<10000):Cl 177 [Jj (mg 10000 a),Jj (mg 10000 b)] (.tup [Jj (mg 10000 (a/b)),Jj (mg 10000 (a%b))]):=by
 have hmb:mg 10000 b=[(b:Int)]:=by
  rw[jcn Jo hb,jjL hb1,Nat.div_eq_of_lt hb1];rfl
 have ho:=once_g (mg 10000 a) (b:Int) ha (mg_dg Jo a) Jo Jo
 rw[jaJ Jo] at ho
 have e1:((a:Int)/(b:Int)).toNat=a/b:=by rw[← Int.natCast_ediv,jjF]
 have e2:((a:Int)%(b:Int))=((a%b:Nat):Int):=by rw[Int.natCast_emod]
 rw[e1,e2] at ho
 have hlt:a%b<b:=jjJ _ hb
 have hc:=cut_c [((a%b:Nat):Int)] (jaA ⟨Jo,Jo⟩) Js
 have e3:(val 10000 [((a%b:Nat):Int)]).toNat=a%b:=by rw[val,val,Int.mul_zero,jjZ,jjF]
 rw[e3] at hc
 rw[hmb]
 refine V.en tbOk Tryz.func177 ?_
 (conv=>whnf)
 refine V.st ?_
 refine Cnd.yes Js ?_
 refine V.u2 ho hc ?_
 exact Fin.of rfl
theorem jib (a b:Nat)(ha:(mg 10000 a).length<(mg 10000 b).length)(hb:(mg 10000 b).length≤100000000)(hb1:10000≤b):Cl 177 [Jj (mg 10000 a),Jj (mg 10000 b)] (.tup [Jj (mg 10000 (a/b)),Jj (mg 10000 (a%b))]):=by
 have hlt:a<b:=Nat.lt_of_not_le fun h=>by have:=jah (B:=10000) Jo h;omega
 have hl2:2≤(mg 10000 b).length:=by
  have:=jah (B:=10000) Jo hb1
  have e:mg 10000 10000=[0,1]:=by rfl
  rw[e] at this;exact this
 rw[Nat.div_eq_of_lt hlt,jjL hlt,jcB]
 generalize mg 10000 a=xs at *
 generalize mg 10000 b=ys at *
 refine V.en tbOk Tryz.func177 ?_
 (conv=>whnf)
 refine V.st ?_
 refine Cnd.no (by simp;omega) ?_
 (conv=>whnf)
 refine V.st ?_
 refine Cnd.yes (by simp;omega) ?_
 (conv=>whnf)
 refine V.st ?_
 exact Fin.tup ⟨Fin.nil _,Fin.of (by rw[jkk,jjC,jkz]),trivial⟩
theorem zJ10_0:type_of% @jjF∧type_of% @jjC:=⟨@jjF,@jjC⟩
theorem parts_long (a b:Nat)(ha:(mg 10000 b).length≤(mg 10000 a).length)(hb:(mg 10000 a).length≤90000000)(hb1:10000≤b):Cl 177 [Jj (mg 10000 a),Jj (mg 10000 b)] (.tup [Jj (mg 10000 (a/b)),Jj (mg 10000 (a%b))]):=by
 obtain⟨n,hn⟩:∃ n,(mg 10000 b).length=n+2:=by
  have:=jah (B:=10000) Jo hb1
  have e:mg 10000 10000=[0,1]:=by rfl
  rw[e] at this
  exact⟨(mg 10000 b).length-2,by simp at this;omega⟩
 have hdx:=mg_dg (B:=10000) Jo a
 have hdy:=mg_dg (B:=10000) Jo b
 have hvx:=jaJ (B:=10000) Jo a
 have hvy:=jaJ (B:=10000) Jo b
 have hlx:=jef (B:=10000) (n:=a) Jo
 have hly:=jef (B:=10000) (n:=b) Jo
 generalize hxs:mg 10000 a=xs at *
 generalize hys:mg 10000 b=ys at *
 have e1:((ys.length:Int)-1)=((n+1:Nat):Int):=Jo
 have e2:(((n+1:Nat):Int)-1)=(n:Int):=Jo
 have e3:((xs.length:Int)-((n+1:Nat):Int))=((xs.length-(n+1):Nat):Int):=Jo
 refine V.en tbOk Tryz.func177 ?_
 (conv=>whnf)
 refine V.st ?_
 refine Cnd.no (by simp;omega) ?_
 (conv=>whnf)
 (try simp only[e1,e2,e3,jjF])
 repeat ((first|refine V.s1 ?_);(try simp only[e1,e2,e3,jjF]))
 refine Cnd.no (by simp;omega) ?_
 (conv=>whnf)
 (try simp only[e1,e2,e3,jjF])
 repeat ((first|refine V.s1 ?_);(try simp only[e1,e2,e3,jjF]))
 refine⟨(V.tk [0,1,2,3,4,5,6,7,8,9,10,11] .done),[],V.pok,.go (jac ?_)⟩
 have b1:=jan Jo hdy (n+1)
 have b0:=jan Jo hdy n
 have htop:val 10000 (ys.drop n)=ys.getD (n+1) 0*10000+ys.getD n 0:=by
  rw[jbg,jbg,List.drop_eq_nil_of_le Jo];simp[val];omega
 have hy1:ys.getD (n+1) 0≠0:=by
  refine hly _ ?_
  rw[List.getLast?_eq_getElem?,hn,jj8]
  rw[show n+2-1=n+1 by omega,jkb Jo];rfl
 have hvye:=jdy (B:=10000) Jo hdy n
 rw[htop,hvy] at hvye
 have htop1:10000≤ys.getD (n+1) 0*10000+ys.getD n 0:=Jo
 have hbpos:0<b:=Jo
 have hPpos:(0:Int)<((10000:Nat):Int)^n:=jdL Jo n
 have hbB:b<10000^(n+2):=by rw[← hn,← hys];exact jaN Jo
 generalize hy1':ys.getD (n+1) 0=y1 at *
 generalize hy0':ys.getD n 0=y0 at *
 obtain⟨R0,hR0⟩:∃ R0:Nat,xs.drop (xs.length-(n+1))=mg 10000 R0:=⟨_,mg_of Jo (jbp hdx _) fun x hx=>hlx x (by
  rw[List.getLast?_drop] at hx
  split at hx
  ·cases hx
  ·exact hx)⟩
 have hR0v:=congrArg (val 10000) hR0
 rw[jaJ Jo] at hR0v
 have hR0b:R0<b:=by
  have h1:R0<10000^(n+1):=by
   have:=jaN (B:=10000) (n:=R0) Jo
   rw[← hR0,jkt] at this
   exact jjN this (jjW Jo Jo)
  have h2:=jcW (B:=10000) (n:=b) Jo hbpos
  rw[hys,hn] at h2
  exact jjN h1 h2
 have hR0l:(mg 10000 R0).length=n+1:=by rw[← hR0,jkt];omega
 generalize hL:xs.length-(n+1)=L at *
 (conv=>whnf)
 (try simp only[e1,e2,e3,jjF,hy1',hy0',hR0,hR0l,jjC,jkk])
 repeat ((first|refine V.s1 ?_);(try simp only[e1,e2,e3,jjF,hy1',hy0',hR0,hR0l,jjC,jkk]))
 refine Lp.pub 66 ?_
 (conv=>whnf)
 have hR0t:List.take (n+1) (mg 10000 R0)=mg 10000 R0:=by rw[← hR0l,jkz]
 try simp only[hR0t,jkz]
 refine jad ((L,List.replicate L 0,R0):Nat×List Int×Nat) (fun s=>s.1≤L∧s.2.1.length=L∧Dg 10000 s.2.1∧s.2.2<b∧val 10000 (xs.drop s.1)=val 10000 (s.2.1.drop s.1)*b+s.2.2) (fun s=>s.1)
  (fun s=>[(12,Ji ((s.1:Int)-1)),(11,Jj (mg 10000 s.2.2)),(10,.osl 58 0 L)]) (fun s=>[(58,.arr .i64 s.2.1)]) ?_ ?_ ?_
 ·exact V.wk
 ·exact⟨jjG _,Js,jcc Jo _,hR0b,by rw[hR0v];simp[val]⟩
 rintro⟨k,q,R⟩ ⟨h1,h2,h3,h4,h5⟩
 dsimp only at h1 h2 h3 h4 h5 ⊢
 (conv=>whnf)
 refine V.st ?_
 refine V.br (fun hq=>?_) (fun hq=>?_)
 ·rw[decide_eq_true_eq] at hq
  obtain⟨j,rfl⟩:∃ j,k=j+1:=⟨k-1,Jo⟩
  have hj:j<xs.length:=Jo
  have bx:=jan Jo hdx j
  generalize hx0:xs.getD j 0=x at *
  have f1:(((j+1:Nat):Int)-1)=(j:Int):=Jo
  have hRl:=jax (B:=10000) (n:=R) (k:=n+2) Jo Jo
  obtain⟨t,ht⟩:∃ t:Nat,x+10000*(R:Int)=t:=⟨(x+10000*(R:Int)).toNat,Jo⟩
  have hc1:=cut_c ([x]++mg 10000 R) (jai (jaA bx) (mg_dg Jo R)) (by simp;omega)
  have hv1:val 10000 ([x]++mg 10000 R)=t:=by rw[List.singleton_append,val,jaJ Jo];exact ht
  rw[hv1,jjF] at hc1
  have hl1:([x]++mg 10000 R).length=1+(mg 10000 R).length:=by simp;omega
  rw[← jkz (l:=[x]++mg 10000 R),hl1] at hc1
  have htB:t<10000*b:=Jo
  have htl:=jax (B:=10000) (n:=t) (k:=n+3) Jo (by rw[Nat.pow_succ];omega)
  have hdt:=mg_dg (B:=10000) Jo t
  have hvt:=jaJ (B:=10000) Jo t
  have hst:=jfg (B:=10000) (d:=(b:Int)) hj Jo hx0 h5 (t:=(t:Int)) Jo
  generalize hts:mg 10000 t=ts at *
  refine V.r1 (V.a3 zJ10_0 f1 hx0) hc1 ?_
  have g1:((n+1:Nat):Int)+1=(n:Int)+((3:Nat):Int)-1:=Jo
  try simp only[g1]
  refine jad (3:Nat) (fun m=>m≤3) (fun m=>m) (fun m=>[(14,Ji ((n:Int)+(m:Int)-1)),(13,Ji (val 10000 (ts.drop (n+m))))]) (fun _=>[]) ?_ ?_ ?_
  ·rw[show val 10000 (ts.drop (n+3))=0 by rw[List.drop_eq_nil_of_le htl];rfl]
   exact V.wk
  ·exact jjG _
  intro m hm
  have hF:∀ k,n≤k→0≤val 10000 (ts.drop k)∧val 10000 (ts.drop k)<1000000000000:=fun k hk=>⟨jao (jbp hdt k),by
   have h8:=jcj (jbp hdt k)
   have h9:(10000:Nat)^(ts.drop k).length≤10000^3:=jjW Jo (by rw[jkt];omega)
   have h7:((10000^(ts.drop k).length:Nat):Int)≤((10000^3:Nat):Int):=by exact_mod_cast h9
   rw[jj0] at h7
   omega⟩
  (conv=>whnf)
  refine V.st ?_
  refine V.br (fun hq1=>?_) (fun hq1=>?_)
  ·rw[decide_eq_true_eq] at hq1
   obtain⟨m,rfl⟩:∃ m',m=m'+1:=⟨m-1,Jo⟩
   have g2:(n:Int)+((m+1:Nat):Int)-1=((n+m:Nat):Int):=Jo
   have g3:((n+m:Nat):Int)-1=(n:Int)+(m:Int)-1:=Jo
   have hF1:=hF (n+(m+1)) Jo
   have hF0:=hF (n+m) Jo
   have hd1:val 10000 (ts.drop (n+(m+1)))*10000+ts.getD (n+m) 0=val 10000 (ts.drop (n+m)):=by
    rw[jbg 10000 ts (n+m),jjS,Int.add_comm];rfl
   refine V.r0 g2 ?_
   refine V.br (fun hq2=>?_) (fun hq2=>?_)
   ·rw[decide_eq_true_eq] at hq2
    have bt:=jan Jo hdt (n+m)
    refine V.r0 (V.a4 g2 g3 @jjF hd1) ?_
    exact⟨m,Jo,Jo,V.wk⟩
   ·rw[decide_eq_false_iff_not] at hq2
    rw[jch Jo,jjZ] at hd1
    refine V.r0 (V.a4 g2 g3 @jjF hd1) ?_
    exact⟨m,Jo,Jo,V.wk⟩
  ·rw[decide_eq_false_iff_not] at hq1
   obtain rfl:m=0:=Jo
   have hte:=jdy (B:=10000) Jo hdt n
   rw[hvt] at hte
   have hFn:=hF n Jo
   refine V.r0 @jjD ?_
   refine⟨(V.tk [0,1,2,3,4,5,6,7,8,9] .done),[],V.pok,.go (jac ?_)⟩
   have hends:=trial_ends (B:=10000) (F:=val 10000 (ts.drop n)) (top:=y1*10000+y0) (P:=((10000:Nat):Int)^n) (R:=(t:Int)) (b:=(b:Int)) Jo hPpos htop1 hFn.1 hvye.1 hvye.2 hte.1 hte.2 Jo
   generalize hFv:val 10000 (ts.drop n)=F at *
   refine V.r0 (V.a2 @jjD hFv) ?_
   have hFlo:0≤F/(y1*10000+y0):=jjy Jo Jo
   refine jad ((F/(y1*10000+y0+1),F/(y1*10000+y0)+1):Int×Int) (fun s=>0≤s.1∧s.1*b≤t∧t<s.2*b∧s.2≤10001) (fun s=>(s.2-s.1).toNat) (fun s=>[(16,Ji s.2),(15,Ji s.1)]) (fun _=>[]) ?_ ?_ ?_
   ·exact V.wk
   ·exact⟨hends.1,hends.2.1,hends.2.2.1,by dsimp only;omega⟩
   rintro⟨low,high⟩ ⟨i1,i2,i3,i4⟩
   dsimp only at i1 i2 i3 i4 ⊢
   have hlh:low<high:=Int.lt_of_mul_lt_mul_right (Int.lt_of_le_of_lt i2 i3) Jo
   (conv=>whnf)
   refine V.st ?_
   refine V.br (fun hq3=>?_) (fun hq3=>?_)
   ·rw[decide_eq_true_eq] at hq3
    obtain⟨m,hm2⟩:∃ m:Nat,(low+high)/2=m:=⟨((low+high)/2).toNat,Jo⟩
    have hp:=jfa ys [(m:Int)] Jo Js hdy (fun j=>by
     cases j with
     | zero=>simp;omega
     | succ j=>simp)
    have hpv:(val 10000 ys*val 10000 [(m:Int)]).toNat=b*m:=by
     rw[hvy,val,val,Int.mul_zero,jjZ,← jjQ,jjF]
    rw[hpv] at hp
    have hpl:=jax (B:=10000) (n:=b*m) (k:=n+4) Jo (by
     have h8:b*m≤b*10000:=Nat.mul_le_mul_left _ Jo
     rw[Nat.pow_succ,Nat.pow_succ];omega)
    have hcm:=cut_mg (b*m) Jo
    have ho:=order_c (mg 10000 (b*m)) ts Jo Jo (mg_dg Jo _) hdt
    have hsg:=jhv (b*m) t
    rw[hts] at hsg
    generalize ordV (mg 10000 (b*m)) ts=od at *
    have hbm:(m:Int)*(b:Int)=((b*m:Nat):Int):=by rw[jjK,jjQ]
    refine V.r3 hm2 hp hcm ho ?_
    refine V.br (fun hq4=>?_) (fun hq4=>?_)
    ·rw[decide_eq_true_eq] at hq4
     (conv=>whnf)
     refine V.st ?_
     exact⟨((m:Int),high),⟨by dsimp only;omega,by dsimp only;omega,i3,i4⟩,by dsimp only;omega,V.wk⟩
    ·rw[decide_eq_false_iff_not] at hq4
     (conv=>whnf)
     refine V.st ?_
     exact⟨(low,(m:Int)),⟨i1,i2,by dsimp only;omega,by dsimp only;omega⟩,by dsimp only;omega,V.wk⟩
   ·rw[decide_eq_false_iff_not] at hq3
    have hout:=trial_out (R:=(t:Int)) (b:=(b:Int)) Jo i2 i3 Jo
    obtain⟨lw,rfl⟩:∃ lw:Nat,low=lw:=⟨low.toNat,Jo⟩
    have hlwB:lw<10000:=by
     have h8:(lw:Int)*b<10000*b:=Jo
     have:=Int.lt_of_mul_lt_mul_right h8 Jo
     omega
    have hp:=jfa ys [(lw:Int)] Jo Js hdy (fun j=>by
     cases j with
     | zero=>simp;omega
     | succ j=>simp)
    have hpv:(val 10000 ys*val 10000 [(lw:Int)]).toNat=b*lw:=by
     rw[hvy,val,val,Int.mul_zero,jjZ,← jjQ,jjF]
    rw[hpv] at hp
    have hble:b*lw≤t:=by
     rw[← jjQ] at i2
     have:=Int.ofNat_le.1 i2
     rw[jjK];exact this
    have hdf:=jc6 t (b*lw) hble (by rw[hts];omega)
    rw[hts] at hdf
    have hmod:((t%b:Nat):Int)=(t:Int)%(b:Int):=Int.natCast_emod _ _
    have hmod2:t-b*lw=t%b:=by
     have h8:=hout.2
     rw[← jjQ] at h8
     omega
    rw[hmod2] at hdf
    refine V.r2 (V.a2 zJ10_0 f1) hp hdf ?_
    rw[← hout.1,← hmod] at hst
    exact⟨(j,q.set j (lw:Int),t%b),⟨by dsimp only;omega,by dsimp only;rw[jkw];exact h2,jd2 h3 Jo,jjJ _ hbpos,hst⟩,by dsimp only;omega,V.wk⟩
 ·rw[decide_eq_false_iff_not] at hq
  obtain rfl:k=0:=Jo
  rw[jku,jku,hvx] at h5
  have hvq:=jao h3
  obtain⟨w,hw⟩:∃ w:Nat,val 10000 q=w:=⟨(val 10000 q).toNat,Jo⟩
  rw[hw,← jjQ] at h5
  have h6:a=w*b+R:=Jo
  have e8:a/b=w:=by rw[h6,Nat.add_comm,Nat.add_mul_div_right _ _ hbpos,Nat.div_eq_of_lt h4,jjC]
  have e9:a%b=R:=by rw[h6,Nat.add_comm,Nat.add_mul_mod_self_right,jjL h4]
  have hc:=cut_c q h3 Jo
  rw[hw,jjF,← jkz (l:=q),h2] at hc
  refine V.u1 hc ?_
  exact Fin.of (by rw[e8,e9])
theorem parts_c (a b:Nat)(ha:(mg 10000 a).length≤90000000)(hb:(mg 10000 b).length≤90000000)(hb0:0<b):Cl 177 [Jj (mg 10000 a),Jj (mg 10000 b)] (.tup [Jj (mg 10000 (a/b)),Jj (mg 10000 (a%b))]):=by
 rcases jjO b 10000 with h|h
 ·exact parts_one a b Jo hb0 h
 ·rcases jjO (mg 10000 a).length (mg 10000 b).length with h2|h2
  ·exact jib a b h2 Jo h
  ·exact parts_long a b h2 ha h
def Sm (k:Nat)(z:Int):Prop:=(mg 10000 z.natAbs).length≤k
theorem jde {B:Nat}(hB:2≤B)(a b:Nat):(mg B (a+b)).length≤max (mg B a).length (mg B b).length+1:=by
 have h1:=jaN (B:=B) (n:=a) hB
 have h2:=jaN (B:=B) (n:=b) hB
 have h3:B^(mg B a).length≤B^max (mg B a).length (mg B b).length:=jjW Jo Jo
 have h4:B^(mg B b).length≤B^max (mg B a).length (mg B b).length:=jjW Jo Jo
 refine jax hB ?_
 rw[Nat.pow_succ]
 have h5:=Nat.mul_le_mul_left (B^max (mg B a).length (mg B b).length) hB
 omega
theorem jbV {B:Nat}(hB:2≤B)(a b:Nat):(mg B (a*b)).length≤(mg B a).length+(mg B b).length:=by
 have h1:=jaN (B:=B) (n:=a) hB
 have h2:=jaN (B:=B) (n:=b) hB
 refine jax hB ?_
 rw[Nat.pow_add]
 exact Nat.mul_lt_mul'' h1 h2
theorem Sm.mono {k l:Nat}{z:Int}(h:Sm k z)(hl:k≤l):Sm l z:=jjH h hl
theorem Sm.neg {k:Nat}{z:Int}(h:Sm k z):Sm k (-z):=by unfold Sm at *; rw[Int.natAbs_neg];exact h
theorem Sm.le {k:Nat}{y z:Int}(h:Sm k z)(hy:y.natAbs≤z.natAbs):Sm k y:=jjH (jah Jo hy) h
theorem Sm.mul {k l:Nat}{y z:Int}(h:Sm k y)(h2:Sm l z):Sm (k+l) (y*z):=by
 unfold Sm at *
 rw[Int.natAbs_mul]
 have:=jbV (B:=10000) Jo y.natAbs z.natAbs
 omega
theorem Sm.add {k:Nat}{y z:Int}(h:Sm k y)(h2:Sm k z):Sm (k+1) (y+z):=by
 unfold Sm at *
 have h3:=jde (B:=10000) Jo y.natAbs z.natAbs
 have h4:=jah (B:=10000) Jo (Int.natAbs_add_le y z)
 omega
theorem Sm.lit {k:Nat}{z:Int}(h:z.natAbs<10000^k):Sm k z:=jax Jo h
theorem jeg (b:Bool)(n:Nat)(h:(mg 10000 n).length≤200000000):Cl 123 [.bool b,Jj (mg 10000 n)] (plD (if b then -(n:Int) else n)):=by
 have:=jfm b (mg 10000 n) (mg_dg Jo n) Jo
 rw[jaJ Jo] at this
 exact this
theorem plus_c (x y:Int)(hx:Sm 90000000 x)(hy:Sm 90000000 y):Cl 124 [plD x,plD y] (plD (x+y)):=by
 unfold Sm at hx hy
 have hl:=jde (B:=10000) Jo x.natAbs y.natAbs
 have hs:=sum_c x.natAbs y.natAbs Jo Jo
 have ho:=order_c (mg 10000 x.natAbs) (mg 10000 y.natAbs) Jo Jo (mg_dg Jo _) (mg_dg Jo _)
 have hsg:=jhv x.natAbs y.natAbs
 generalize ordV (mg 10000 x.natAbs) (mg 10000 y.natAbs)=od at *
 rw[show plD x = .agg [.bool (decide (x<0)),Jj (mg 10000 x.natAbs)] from rfl,show plD y = .agg [.bool (decide (y<0)),Jj (mg 10000 y.natAbs)] from rfl]
 refine V.en tbOk Tryz.func124 ?_
 (conv=>whnf)
 refine V.st ?_
 refine V.br (fun hq=>?_) (fun hq=>?_)
 ·rw[beq_iff_eq,decide_eq_decide] at hq
  have hm:=jeg (decide (x<0)) (x.natAbs+y.natAbs) Jo
  have e:(if decide (x<0)=true then -((x.natAbs+y.natAbs:Nat):Int) else ((x.natAbs+y.natAbs:Nat):Int))=x+y:=by
   by_cases h:x<0
   ·simp[h];omega
   ·simp[h];omega
  rw[e] at hm
  (conv=>whnf)
  refine V.st ?_
  refine⟨Pq40z,[],V.pok,.go (jac ?_)⟩
  refine V.u2 hs hm ?_
  exact Fin.of rfl
 ·have hq':¬ (x<0↔y<0):=fun h=>by rw[beq_eq_false_iff_ne] at hq;exact hq (decide_eq_decide.2 h)
  refine V.u1 ho ?_
  refine V.br (fun hq2=>?_) (fun hq2=>?_)
  ·rw[decide_eq_true_eq] at hq2
   have hd:=jc6 x.natAbs y.natAbs Jo Jo
   have hl2:=jah (B:=10000) Jo (Nat.sub_le x.natAbs y.natAbs)
   have hm:=jeg (decide (x<0)) (x.natAbs-y.natAbs) Jo
   have e:(if decide (x<0)=true then -((x.natAbs-y.natAbs:Nat):Int) else ((x.natAbs-y.natAbs:Nat):Int))=x+y:=by
    by_cases h:x<0
    ·simp[h];omega
    ·simp[h];omega
   rw[e] at hm
   (conv=>whnf)
   refine V.st ?_
   refine⟨Pq40z,[],V.pok,.go (jac ?_)⟩
   refine V.u2 hd hm ?_
   exact Fin.of rfl
  ·rw[decide_eq_false_iff_not] at hq2
   have hd:=jc6 y.natAbs x.natAbs Jo Jo
   have hl2:=jah (B:=10000) Jo (Nat.sub_le y.natAbs x.natAbs)
   have hm:=jeg (decide (y<0)) (y.natAbs-x.natAbs) Jo
   have e:(if decide (y<0)=true then -((y.natAbs-x.natAbs:Nat):Int) else ((y.natAbs-x.natAbs:Nat):Int))=x+y:=by
    by_cases h:y<0
    ·simp[h];omega
    ·simp[h];omega
   rw[e] at hm
   (conv=>whnf)
   refine V.st ?_
   refine⟨Pq40z,[],V.pok,.go (jac ?_)⟩
   refine V.u2 hd hm ?_
   exact Fin.of rfl
theorem minus_c (x y:Int)(hx:Sm 90000000 x)(hy:Sm 90000000 y):Cl 178 [plD x,plD y] (plD (x-y)):=by
 have ht:=turn_c y (by unfold Sm at hy;omega)
 have hp:=plus_c x (-y) hx hy.neg
 rw[show x + -y=x-y by omega] at hp
 rw[show plD x = .agg [.bool (decide (x<0)),Jj (mg 10000 x.natAbs)] from rfl,show plD y = .agg [.bool (decide (y<0)),Jj (mg 10000 y.natAbs)] from rfl] at *
 refine V.en tbOk Tryz.func178 ?_
 (conv=>whnf)
 refine V.st ?_
 refine⟨Pq73z,[],V.pok,.go (jac ?_)⟩
 refine V.u2 ht hp ?_
 exact Fin.of rfl
theorem jbb {a b X Y:Int}(hb:b≠0)(h:a=Y+b*X)(h0:0≤Y)(h1:Y<b.natAbs):a/b=X∧a%b=Y:=by
 have hm:a%b=Y:=by
  rw[h,Int.add_mul_emod_self_left]
  rcases Int.lt_or_lt_of_ne hb with h2|h2
  ·rw[← Int.emod_neg,Int.emod_eq_of_lt h0 Jo]
  ·exact Int.emod_eq_of_lt h0 Jo
 refine⟨?_,hm⟩
 have h3:=jjA a b
 rw[hm] at h3
 exact Int.eq_of_mul_eq_mul_left hb Jo
theorem jic (a b:Int)(hb:b≠0)(x0 y0:Int)(hx:x0=if (decide (a<0) != decide (b<0))=true then -((a.natAbs/b.natAbs:Nat):Int) else ((a.natAbs/b.natAbs:Nat):Int))
  (hy:y0=if decide (a<0)=true then -((a.natAbs%b.natAbs:Nat):Int) else ((a.natAbs%b.natAbs:Nat):Int)) :
  (y0<0→a%b=y0+b.natAbs∧(b<0→a/b=x0+1)∧(¬ b<0→a/b=x0-1))∧(¬ y0<0→a%b=y0∧a/b=x0):=by
 have h1:=Nat.mod_add_div a.natAbs b.natAbs
 have h2:a.natAbs%b.natAbs<b.natAbs:=jjJ _ Jo
 generalize a.natAbs%b.natAbs=r at *
 generalize a.natAbs/b.natAbs=q at *
 have h3:(a.natAbs:Int)=r+(b.natAbs:Int)*q:=by rw[← jjQ,← Int.natCast_add,h1]
 have hmul1:b*((q:Int)+1)=b*q+b:=by rw[jjR,Int.mul_one]
 have hmul2:b*(-(q:Int)+1) = -(b*q)+b:=by rw[jjR,Int.mul_one,Int.mul_neg]
 have hmul3:b*((q:Int)-1)=b*q-b:=by rw[Int.mul_sub,Int.mul_one]
 have hmul4:b*(-(q:Int)-1) = -(b*q)-b:=by rw[Int.mul_sub,Int.mul_one,Int.mul_neg]
 have hmul5:b*(-(q:Int)) = -(b*q):=by rw[Int.mul_neg]
 by_cases ha:a<0<;>by_cases hbn:b<0
 ·have e1:(b.natAbs:Int) = -b:=Jo
  rw[e1,Int.neg_mul] at h3
  simp only[ha,hbn,decide_true,bne_self_eq_false,Bool.false_eq_true,if_false,if_true] at hx hy
  subst hx hy
  refine⟨fun h=>?_,fun h=>?_⟩
  ·have:=jbb (a:=a) (b:=b) (X:=(q:Int)+1) (Y := -(r:Int)+b.natAbs) hb Jo Jo Jo
   exact⟨this.2,fun _=>this.1,fun h=>absurd hbn h⟩
  ·have:=jbb (a:=a) (b:=b) (X:=(q:Int)) (Y := -(r:Int)) hb Jo Jo Jo
   exact⟨this.2,this.1⟩
 ·have e1:(b.natAbs:Int)=b:=Jo
  rw[e1] at h3
  simp only[ha,hbn,decide_true,decide_false,bne,beq_eq_false_iff_ne,ne_eq,Bool.true_eq_false,not_false_eq_true,if_true,Bool.not_false,beq_false] at hx hy
  have hx':x0 = -(q:Int):=by simpa using hx
  subst hx' hy
  refine⟨fun h=>?_,fun h=>?_⟩
  ·have:=jbb (a:=a) (b:=b) (X := -(q:Int)-1) (Y := -(r:Int)+b.natAbs) hb Jo Jo Jo
   exact⟨this.2,fun h=>absurd h hbn,fun _=>this.1⟩
  ·have:=jbb (a:=a) (b:=b) (X := -(q:Int)) (Y := -(r:Int)) hb Jo Jo Jo
   exact⟨this.2,this.1⟩
 ·have e1:(b.natAbs:Int) = -b:=Jo
  rw[e1,Int.neg_mul] at h3
  have hx':x0 = -(q:Int):=by simpa [ha,hbn] using hx
  have hy':y0=(r:Int):=by simpa [ha] using hy
  subst hx' hy'
  refine⟨fun h=>Jo,fun h=>?_⟩
  have:=jbb (a:=a) (b:=b) (X := -(q:Int)) (Y:=(r:Int)) hb Jo Jo Jo
  exact⟨this.2,this.1⟩
 ·have e1:(b.natAbs:Int)=b:=Jo
  rw[e1] at h3
  have hx':x0=(q:Int):=by simpa [ha,hbn] using hx
  have hy':y0=(r:Int):=by simpa [ha] using hy
  subst hx' hy'
  refine⟨fun h=>Jo,fun h=>?_⟩
  have:=jbb (a:=a) (b:=b) (X:=(q:Int)) (Y:=(r:Int)) hb Jo Jo Jo
  exact⟨this.2,this.1⟩
theorem jdM (x y:Int)(hx:Sm 80000000 x)(hy:Sm 80000000 y)(hy0:y≠0):Cl 130 [plD x,plD y] (.tup [plD (x/y),plD (x%y)]):=by
 unfold Sm at hx hy
 have hp:=parts_c x.natAbs y.natAbs Jo Jo Jo
 have hq:=jah (B:=10000) Jo (jjX x.natAbs y.natAbs)
 have hr:=jah (B:=10000) Jo (Nat.mod_le x.natAbs y.natAbs)
 have hm1:=jeg (decide (x<0) != decide (y<0)) (x.natAbs/y.natAbs) Jo
 have hm2:=jeg (decide (x<0)) (x.natAbs%y.natAbs) Jo
 have hpl:=jic x y hy0 _ _ rfl rfl
 have hsx:Sm 80000000 (if (decide (x<0) != decide (y<0))=true then -((x.natAbs/y.natAbs:Nat):Int) else ((x.natAbs/y.natAbs:Nat):Int)):=by
  unfold Sm;split<;>simp only[Int.natAbs_neg,jjV]<;>omega
 have hsy:Sm 80000000 (if decide (x<0)=true then -((x.natAbs%y.natAbs:Nat):Int) else ((x.natAbs%y.natAbs:Nat):Int)):=by
  unfold Sm;split<;>simp only[Int.natAbs_neg,jjV]<;>omega
 generalize (if (decide (x<0) != decide (y<0))=true then -((x.natAbs/y.natAbs:Nat):Int) else ((x.natAbs/y.natAbs:Nat):Int))=x0 at *
 generalize (if decide (x<0)=true then -((x.natAbs%y.natAbs:Nat):Int) else ((x.natAbs%y.natAbs:Nat):Int))=y0 at *
 rw[show plD x = .agg [.bool (decide (x<0)),Jj (mg 10000 x.natAbs)] from rfl,show plD y = .agg [.bool (decide (y<0)),Jj (mg 10000 y.natAbs)] from rfl] at *
 refine V.en tbOk Tryz.func130 ?_
 refine V.u1 hp ?_
 rw[show plD x0 = .agg [.bool (decide (x0<0)),Jj (mg 10000 x0.natAbs)] from rfl] at hm1
 rw[show plD y0 = .agg [.bool (decide (y0<0)),Jj (mg 10000 y0.natAbs)] from rfl] at hm2
 refine⟨(V.tk [0,1,2,3,4,5,7,8,9] (.ev (.cons 6 [9,8,7] (.ev (.cons 10 [] (.ev (.cons 11 [] (V.e1 12 [] (V.e1 13 [] (V.e1 14 [] .done))) (.cons 12 [] (V.e1 11 [] (V.e1 13 [] (V.e1 14 [] .done))) .nil))) (.cons 11 [9,8,7] (.ev (.cons 10 [] (V.e1 12 [] (V.e1 13 [] (V.e1 14 [] .done))) (.cons 12 [9,8,7] (V.e1 10 [] (V.e1 13 [] (V.e1 14 [] .done))) .nil))) (.cons 12 [9,8,7] (.ev (.cons 10 [] (V.e1 11 [] (V.e1 13 [] (V.e1 14 [] .done))) (.cons 11 [9,8,7] (V.e1 10 [] (V.e1 13 [] (V.e1 14 [] .done))) .nil))) .nil)))) (.cons 11 [9,8,7,5,4,3,2,1,0] (.ev (.cons 6 [9,8,7] (.ev (.cons 10 [] (V.e1 12 [] (V.e1 13 [] (V.e1 14 [] .done))) (.cons 12 [9,8,7] (V.e1 10 [] (V.e1 13 [] (V.e1 14 [] .done))) .nil))) (.cons 12 [9,8,7,5,4,3,2,1,0] (V.e1 6 [9,8,7] (V.e1 10 [] (V.e1 13 [] (V.e1 14 [] .done)))) .nil))) (.cons 12 [9,8,7,5,4,3,2,1,0] (.ev (.cons 6 [9,8,7] (.ev (.cons 10 [] (V.e1 11 [] (V.e1 13 [] (V.e1 14 [] .done))) (.cons 11 [9,8,7] (V.e1 10 [] (V.e1 13 [] (V.e1 14 [] .done))) .nil))) (.cons 11 [9,8,7,5,4,3,2,1,0] (V.e1 6 [9,8,7] (V.e1 10 [] (V.e1 13 [] (V.e1 14 [] .done)))) .nil))) .nil))))),[],V.pok,?_⟩
 refine jab [(8,.box 8 0),(9,.box 9 0)] [(8,.box [.bool (decide (x0<0)),Jj (mg 10000 x0.natAbs)]),(9,.box [.bool (decide (y0<0)),Jj (mg 10000 y0.natAbs)])] ?_ ?_
 ·exact V.d2 @jjC hm1 hm2
 (conv=>whnf)
 refine V.st ?_
 refine V.br (fun hq=>?_) (fun hq=>?_)
 ·rw[decide_eq_true_eq] at hq
  have hpl:=hpl.1 hq
  have hy1:y0+(y.natAbs:Int)=x%y:=Jo
  have hc1:=plus_c y0 (y.natAbs:Int) (hsy.mono Jo) (by unfold Sm;rw[jjV];omega)
  rw[hy1] at hc1
  rw[show plD y0 = .agg [.bool (decide (y0<0)),Jj (mg 10000 y0.natAbs)] from rfl,show plD (y.natAbs:Int) = .agg [.bool false,Jj (mg 10000 y.natAbs)] by unfold plD;rw[jjV,decide_eq_false Jo],show plD (x%y) = .agg [.bool (decide (x%y<0)),Jj (mg 10000 (x%y).natAbs)] from rfl] at hc1
  have hi:=jc0 1 ⟨Jd,Jd⟩
  refine V.u1 hc1 ?_
  refine V.br (fun hq2=>?_) (fun hq2=>?_)
  ·rw[decide_eq_true_eq] at hq2
   have hc2:=plus_c x0 1 (hsx.mono Jo) ((Sm.lit (k:=1) Jd).mono Jo)
   rw[← hpl.2.1 hq2,show plD x0 = .agg [.bool (decide (x0<0)),Jj (mg 10000 x0.natAbs)] from rfl,show plD (x/y) = .agg [.bool (decide (x/y<0)),Jj (mg 10000 (x/y).natAbs)] from rfl] at hc2
   (conv=>whnf)
   refine V.st ?_
   refine⟨(V.tk [0] (V.e1 1 [0] (V.e1 2 [] (V.e1 3 [] .done)))),[],V.pok,.go (jac ?_)⟩
   refine V.u2 hi hc2 ?_
   refine⟨Pq75z,[],V.pok,.go (jac ?_)⟩
   (conv=>whnf)
   refine V.st ?_
   exact Fin.of rfl
  ·rw[decide_eq_false_iff_not] at hq2
   have hc2:=minus_c x0 1 (hsx.mono Jo) ((Sm.lit (k:=1) Jd).mono Jo)
   rw[← hpl.2.2 hq2,show plD x0 = .agg [.bool (decide (x0<0)),Jj (mg 10000 x0.natAbs)] from rfl,show plD (x/y) = .agg [.bool (decide (x/y<0)),Jj (mg 10000 (x/y).natAbs)] from rfl] at hc2
   (conv=>whnf)
   refine V.st ?_
   refine⟨(V.tk [0] (V.e1 1 [0] (V.e1 2 [] (V.e1 3 [] .done)))),[],V.pok,.go (jac ?_)⟩
   refine V.u2 hi hc2 ?_
   refine⟨Pq75z,[],V.pok,.go (jac ?_)⟩
   (conv=>whnf)
   refine V.st ?_
   exact Fin.of rfl
 ·rw[decide_eq_false_iff_not] at hq
  have hpl:=hpl.2 hq
  rw[← hpl.1,← hpl.2]
  (conv=>whnf)
  refine V.st ?_
  refine⟨Pq75z,[],V.pok,.go (jac ?_)⟩
  (conv=>whnf)
  refine V.st ?_
  exact Fin.of rfl
theorem jd0 (x y:Int)(hx:Sm 80000000 x)(hy:Sm 80000000 y):Cl 129 [plD x,plD y] (plD (Int.gcd x y)):=by
 unfold Sm at hx hy
 rw[show plD x = .agg [.bool (decide (x<0)),Jj (mg 10000 x.natAbs)] from rfl,show plD y = .agg [.bool (decide (y<0)),Jj (mg 10000 y.natAbs)] from rfl]
 refine V.en tbOk Tryz.func129 ?_
 (conv=>whnf)
 refine V.st ?_
 refine⟨(V.tk [0,1,2,3,4,5] .done),[],V.pok,.go (jac ?_)⟩
 refine V.st ?_
 refine jad ((x.natAbs,y.natAbs):Nat×Nat) (fun s=>Nat.gcd s.1 s.2=Int.gcd x y∧(mg 10000 s.1).length≤80000000∧(mg 10000 s.2).length≤80000000) (fun s=>s.2)
  (fun s=>[(6,Jj (mg 10000 s.2)),(5,Jj (mg 10000 s.1))]) (fun _=>[]) ?_ ?_ ?_
 ·exact V.wk
 ·exact⟨rfl,hx,hy⟩
 rintro⟨a,b⟩ ⟨h1,h2,h3⟩
 dsimp only at h1 h2 h3 ⊢
 have hnil:=jb9 (B:=10000) (n:=b) Jo
 rw[← jj9] at hnil
 (conv=>whnf)
 refine V.st ?_
 refine V.br (fun hq=>?_) (fun hq=>?_)
 ·rw[decide_eq_true_eq] at hq
  have hb:0<b:=Jo
  have hp:=parts_c a b Jo Jo hb
  have hr:=jah (B:=10000) Jo (Nat.le_of_lt (jjJ a hb))
  refine V.u1 hp ?_
  exact⟨(b,a%b),⟨by dsimp only;rw[Nat.gcd_comm,← Nat.gcd_rec,Nat.gcd_comm];exact h1,h3,by dsimp only;omega⟩,jjJ _ hb,V.wk⟩
 ·rw[decide_eq_false_iff_not] at hq
  obtain rfl:b=0:=hnil.1 Jo
  rw[Nat.gcd_zero_right] at h1
  (conv=>whnf)
  refine V.st ?_
  exact Fin.of (by unfold plD;rw[jjV,h1,decide_eq_false Jo])
theorem jf6 (k:Nat):∀ (l a b:Nat),b<10^l→pad k a++pad l b=pad (k+l) (a*10^l+b)
 | 0,a,b,h=>by
  obtain rfl:b=0:=by simp at h;omega
  simp[pad]
 | l+1,a,b,h=>by
  have hb:b/10<10^l:=Nat.div_lt_of_lt_mul (by rw[Nat.pow_succ,jjK] at h;exact h)
  have e:a*10^(l+1)+b=(a*10^l)*10+b:=by rw[Nat.pow_succ,Nat.mul_assoc]
  have e1:(a*10^(l+1)+b)/10=a*10^l+b/10:=Jo
  have e2:(a*10^(l+1)+b)%10=b%10:=Jo
  rw[show k+(l+1)=(k+l)+1 by omega,pad,pad,e1,e2,← jf6 k l a _ hb,jkf]
theorem dec_head (n:Nat)(h:0<n):(dec n).getD 0 0≠48:=by
 induction n using Nat.strongRecOn with
 | _ n ih=>
  by_cases h1:n<10
  ·rw[jbN h1]
   intro e
   have:=congrArg UInt8.toNat e
   simp only[List.getD_cons_zero] at this
   rw[jc5 h1] at this
   simp at this
   omega
  ·rw[jcF Jo,jj8,jkg (jbi _),← jj8]
   exact ih _ Jo Jo
theorem four_c (n:Nat)(h:n<10000):Cl 185 [Ji n] (.str (pad 4 n)):=by
 refine V.en tbOk Tryz.func185 ?_
 (conv=>whnf)
 refine V.st ?_
 exact Fin.of (by
  have e:∀ m:Nat,(48+(m:Int)).toNat=48+m:=fun m=>Jo
  simp only[pad,jkk,jkf,List.cons_append,List.map_cons,List.map_nil]
  have e1:(48+(n:Int)/1000).toNat=48+n/10/10/10%10:=Jo
  have e2:(48+(n:Int)/100%10).toNat=48+n/10/10%10:=Jo
  have e3:(48+(n:Int)/10%10).toNat=48+n/10%10:=Jo
  have e4:(48+(n:Int)%10).toNat=48+n%10:=Jo
  rw[e1,e2,e3,e4])
theorem text_c (z:Int)(hz:Sm 90000000 z):Cl 137 [plD z] (.str (decZ z)):=by
 unfold Sm at hz
 have hdx:=mg_dg (B:=10000) Jo z.natAbs
 have hvx:=jaJ (B:=10000) Jo z.natAbs
 have hnil:=jb9 (B:=10000) (n:=z.natAbs) Jo
 have hltp:=jaN (B:=10000) (n:=z.natAbs) Jo
 rw[show plD z = .agg [.bool (decide (z<0)),Jj (mg 10000 z.natAbs)] from rfl]
 generalize mg 10000 z.natAbs=xs at *
 refine V.en tbOk Tryz.func137 ?_
 (conv=>whnf)
 refine V.st ?_
 refine jad ((xs.length,0):Nat×Nat) (fun s=>s.1≤xs.length∧val 10000 (xs.drop s.1)=s.2) (fun s=>s.1)
  (fun s=>[(4,Ji ((s.1:Int)-1)),(3,.str (pad (4*(xs.length-s.1)) s.2))]) (fun _=>[]) ?_ ?_ ?_
 ·rw[Nat.sub_self]
  exact V.wk
 ·exact⟨jjG _,by simp[val]⟩
 rintro⟨k,v⟩ ⟨h1,h2⟩
 dsimp only at h1 h2 ⊢
 have hpl:=jed (4*(xs.length-k)) v
 (conv=>whnf)
 refine V.st ?_
 refine V.br (fun hq=>?_) (fun hq=>?_)
 ·rw[decide_eq_true_eq] at hq
  obtain⟨j,rfl⟩:∃ j,k=j+1:=⟨k-1,Jo⟩
  have hj:j<xs.length:=Jo
  have bx:=jan Jo hdx j
  have hd:=jbP (B:=10000) hj
  generalize hx0:xs.getD j 0=x at *
  obtain⟨d,rfl⟩:∃ d:Nat,x=d:=⟨x.toNat,Jo⟩
  have e2:(((j+1:Nat):Int)-1)=(j:Int):=Jo
  have hf:=four_c d Jo
  have hp4:=jed 4 d
  have hpa:=jf6 (4*(xs.length-(j+1))) 4 v d Jo
  have e4:4*(xs.length-(j+1))+4=4*(xs.length-j):=Jo
  rw[e4] at hpa
  refine V.r1 (V.a4 e2 @jjF hx0 hpa) hf ?_
  exact⟨(j,v*10^4+d),⟨by dsimp only;omega,by dsimp only;rw[hd,h2];omega⟩,by dsimp only;omega,V.wk⟩
 ·rw[decide_eq_false_iff_not] at hq
  obtain rfl:k=0:=Jo
  rw[jku,hvx] at h2
  have hv:v=z.natAbs:=Jo
  subst hv
  have hK:z.natAbs<10^(4*xs.length):=by rw[Nat.pow_mul];exact hltp
  rw[Nat.sub_zero] at *
  generalize hs:pad (4*xs.length) z.natAbs=t at *
  obtain⟨Z,hZ,hZ1,hZ2⟩:∃ Z,Z≤t.length∧t.drop Z=(if z.natAbs=0 then [] else dec z.natAbs) ∧ ∀ k,k≤Z→(k<t.length∧t.getD k 0=48↔k<Z):=by
   by_cases h0:z.natAbs=0
   ·have:=hnil.2 h0
    subst this
    rw[if_pos h0]
    have ht:t=[]:=jj9.1 (by simpa using hpl)
    subst ht
    exact⟨0,Js,rfl,fun k hk=>Js⟩
   ·rw[if_neg h0]
    have hne:0<xs.length:=by
     rcases jjI xs.length with e|e
     ·exact absurd (hnil.1 (jj9.1 e)) h0
     ·exact e
    obtain⟨p1,p2⟩:=jbI (4*xs.length) z.natAbs Jo hK
    rw[hs] at p2
    have hdl:=jbi z.natAbs
    refine⟨4*xs.length-(dec z.natAbs).length,Jo,?_,fun k hk=>?_⟩
    ·rw[p2,jkm Js,jkq Js];rfl
    ·rw[p2]
     rcases jjO k (4*xs.length-(dec z.natAbs).length) with hlt|hge
     ·rw[jj8,jkg (by simpa using hlt),List.getElem?_replicate,if_pos hlt]
      simp[hlt];omega
     ·have hke:k=4*xs.length-(dec z.natAbs).length:=Jo
      rw[jj8,jkp (by simp;omega),List.length_replicate,hke,Nat.sub_self,← jj8]
      have:=dec_head z.natAbs Jo
      simp only[Nat.lt_irrefl,iff_false,not_and]
      exact fun _=>this
  refine V.r0 @jjF ?_
  refine jad (0) (fun k=>k≤Z) (fun k=>Z-k) (fun k=>[(5,Ji k)]) (fun k=>[]) ?_ ?_ ?_
  ·exact V.wk
  ·exact jjx _
  intro k hk
  have hz2:=hZ2 k hk
  have hkc:((k:Int)+1)=((k+1:Nat):Int):=Jo
  have hu:(((t.getD k 0).toNat:Int)=48)↔t.getD k 0=48:=⟨fun h=>UInt8.toNat_inj.1 (by have e:(48:UInt8).toNat=48:=rfl;rw[e];omega),fun h=>by rw[h];rfl⟩
  refine V.r0 @jjF ?_
  refine V.br (fun hq2=>?_) (fun hq2=>?_)
  ·rw[jjv,decide_eq_true_eq,decide_eq_true_eq,hu] at hq2
   have hkZ:=hz2.1 ⟨Jo,hq2.2⟩
   refine V.r0 hkc ?_
   exact⟨k+1,Jo,Jo,V.wk⟩
  ·have hkZ:k=Z:=by
    rcases jjO k Z with h|h
    ·have h3:=hz2.2 h
     rw[Bool.and_eq_false_iff,decide_eq_false_iff_not,decide_eq_false_iff_not,hu] at hq2
     rcases hq2 with h4|h4
     ·omega
     ·exact absurd h3.2 h4
    ·omega
   subst hkZ
   refine V.r0 (V.a2 @jjF hZ1) ?_
   by_cases h0:z.natAbs=0
   ·rw[if_pos h0] at hZ1 ⊢
    have hz0:z=0:=Jo
    (conv=>whnf)
    refine V.st ?_
    exact Fin.of (by rw[hz0];rfl)
   ·rw[if_neg h0] at hZ1 ⊢
    have hne:=jbi z.natAbs
    have hne2:dec z.natAbs≠[]:=fun e=>by rw[e] at hne;simp at hne
    have hdl:(dec z.natAbs).length≤t.length:=by rw[← hZ1,jkt];omega
    (conv=>whnf)
    refine V.st ?_
    refine Cnd.no (decide_eq_false hne2) ?_
    (conv=>whnf)
    refine V.st ?_
    refine V.br (fun hneg=>?_) (fun hneg=>?_)
    ·rw[decide_eq_true_eq] at hneg
     (conv=>whnf)
     refine V.st ?_
     exact Fin.of (by unfold decZ;rw[if_pos hneg];rfl)
    ·rw[decide_eq_false_iff_not] at hneg
     (conv=>whnf)
     refine V.st ?_
     exact Fin.of (by unfold decZ;rw[if_neg hneg])
theorem out_c (z:Int)(hz:Sm 90000000 z):Cl 127 [plD z] (.tup [.str (if 600<(dec z.natAbs).length then [] else decZ z),Ji (if 600<(dec z.natAbs).length then 6 else 0)]):=by
 have ht:=text_c z hz
 rw[show plD z = .agg [.bool (decide (z<0)),Jj (mg 10000 z.natAbs)] from rfl] at *
 have hl:(decZ z).length=(dec z.natAbs).length+(if z<0 then 1 else 0):=by unfold decZ;split<;>simp
 generalize hzs:decZ z=s at *
 refine V.en tbOk Tryz.func127 ?_
 refine V.u1 ht ?_
 refine V.br (fun hq=>?_) (fun hq=>?_)
 ·rw[decide_eq_true_eq] at hq
  rw[if_pos hq] at hl
  (conv=>whnf)
  refine V.st ?_
  refine V.br (fun hq2=>?_) (fun hq2=>?_)
  ·rw[decide_eq_true_eq] at hq2
   rw[if_pos Jo,if_pos Jo]
   (conv=>whnf)
   refine V.st ?_
   exact Fin.of rfl
  ·rw[decide_eq_false_iff_not] at hq2
   rw[if_neg Jo,if_neg Jo]
   (conv=>whnf)
   refine V.st ?_
   exact Fin.of rfl
 ·rw[decide_eq_false_iff_not] at hq
  rw[if_neg hq] at hl
  (conv=>whnf)
  refine V.st ?_
  refine V.br (fun hq2=>?_) (fun hq2=>?_)
  ·rw[decide_eq_true_eq] at hq2
   rw[if_pos Jo,if_pos Jo]
   (conv=>whnf)
   refine V.st ?_
   exact Fin.of rfl
  ·rw[decide_eq_false_iff_not] at hq2
   rw[if_neg Jo,if_neg Jo]
   (conv=>whnf)
   refine V.st ?_
   exact Fin.of rfl
def okD (d:List UInt8)(neg:Bool):Bool := !(decide (d.length=0) || decide (600<d.length)) && d.all isDig && !(decide (d.getD 0 0=48) && (neg || decide (1<d.length)))
def okW (s:List UInt8):Bool:=okD (Go.Lib.trimPrefix s [45]) (Go.Lib.hasPrefix s [45])
theorem dig_lo (c:UInt8):(isDig c=true) ↔ ¬ (c.toNat:Int)<48 ∧ ¬ (57<(c.toNat:Int)):=by
 simp only[isDig,decide_eq_true_eq];omega
theorem Fin.any' (r:D):Fin .any r:=⟨fun _ _ _=>by simp[Den]⟩
theorem wread_g (s:List UInt8)(hs:s.length≤281474976710656):Cl 197 [.str s] (.tup [.agg [.any,.any],.bool (okW s)]):=by
 have hcp:=jfF s [45]
 unfold okW
 have hdl:(Go.Lib.trimPrefix s [45]).length≤s.length:=by unfold Go.Lib.trimPrefix;split<;>simp
 generalize Go.Lib.trimPrefix s [45]=d at *
 generalize Go.Lib.hasPrefix s [45]=neg at *
 refine V.en tbOk Tryz.func197 ?_
 refine V.u1 hcp ?_
 refine V.br (fun hq=>?_) (fun hq=>?_)
 ·simp only[Bool.or_eq_true,decide_eq_true_eq] at hq
  have hf:okD d neg=false:=by
   unfold okD
   rcases hq with h|h
   ·rw[decide_eq_true (show d.length=0 by omega)];rfl
   ·rw[decide_eq_true (show 600<d.length by omega),Bool.or_true];rfl
  rw[hf]
  (conv=>whnf)
  refine V.st ?_
  exact Fin.tup ⟨Fin.agg ⟨Fin.any' _,Fin.any' _,trivial⟩,Fin.of rfl,trivial⟩
 ·simp only[jjP,decide_eq_false_iff_not] at hq
  (conv=>whnf)
  refine V.st ?_
  refine jad (0:Nat) (fun k=>k≤d.length ∧ ∀ i,i<k→isDig (d.getD i 0)=true) (fun k=>d.length-k) (fun k=>[(23,Ji k)]) (fun _=>[]) ?_ ?_ ?_
  ·exact V.wk
  ·exact⟨jjx _,fun i hi=>Jo⟩
  intro k hk
  have hkc:((k:Int)+1)=((k+1:Nat):Int):=Jo
  (conv=>whnf)
  refine V.st ?_
  refine V.br (fun hq2=>?_) (fun hq2=>?_)
  ·rw[decide_eq_true_eq] at hq2
   have hdl:=dig_lo (d.getD k 0)
   generalize hc:d.getD k 0=c at *
   refine V.r0 (V.a3 @jjF hc hkc) ?_
   refine V.br (fun hq3=>?_) (fun hq3=>?_)
   ·rw[Bool.or_eq_true,decide_eq_true_eq,decide_eq_true_eq] at hq3
    have hf:okD d neg=false:=by
     have h1:d.all isDig=false:=by
      rw[List.all_eq_false]
      refine⟨c,?_,fun h=>by have:=hdl.1 h;omega⟩
      rw[← hc,jj8,jkb Jo]
      exact List.getElem_mem _
     unfold okD
     rw[h1,Bool.and_false,jj3]
    rw[hf]
    (conv=>whnf)
    refine V.st ?_
    exact Fin.tup ⟨Fin.agg ⟨Fin.any' _,Fin.any' _,trivial⟩,Fin.of rfl,trivial⟩
   ·rw[jjP,decide_eq_false_iff_not,decide_eq_false_iff_not] at hq3
    refine V.r0 hkc ?_
    refine⟨k+1,⟨Jo,fun i hi=>?_⟩,Jo,V.wk⟩
    rcases jjO i k with h|h
    ·exact hk.2 i h
    ·obtain rfl:i=k:=Jo
     rw[hc];exact hdl.2 Jo
  ·rw[decide_eq_false_iff_not] at hq2
   obtain rfl:k=d.length:=Jo
   have hall:∀ c∈d,isDig c=true:=fun c hc=>by
    obtain⟨i,hi,e⟩:=List.getElem_of_mem hc
    have:=hk.2 i hi
    rw[jj8,jkb hi] at this
    rw[← e];exact this
   have hok:okD d neg = !(decide (d.getD 0 0=48) && (neg || decide (1<d.length))):=by
    unfold okD
    rw[jj7.2 hall,decide_eq_false (show ¬ d.length=0 by omega),decide_eq_false (show ¬ 600<d.length by omega)]
    rfl
   have hu:decide ((((d.getD 0 0).toNat:Nat):Int)=48)=decide (d.getD 0 0=48):=decide_eq_decide.2 ⟨fun h=>UInt8.toNat_inj.1 (by have e:(48:UInt8).toNat=48:=rfl;rw[e];omega),fun h=>by rw[h];rfl⟩
   have hl:decide ((d.length:Int)>1)=decide (1<d.length):=decide_eq_decide.2 Jo
   have hg:=wgather_c d hall Jo
   rw[hok]
   have e0:(0:Int).toNat=0:=rfl
   refine V.r0 (V.a3 e0 hu hl) ?_
   refine And.intro (fun h1 h2=>by rw[h1,h2];rfl) ?_
   refine V.r0 (V.a3 e0 hu hl) ?_
   refine V.br (fun hq4=>?_) (fun hq4=>?_)
   ·rw[hq4]
    (conv=>whnf)
    refine V.st ?_
    exact Fin.tup ⟨Fin.agg ⟨Fin.any' _,Fin.any' _,trivial⟩,Fin.of rfl,trivial⟩
   ·rw[hq4]
    refine V.u1 hg ?_
    exact Fin.tup ⟨Fin.agg ⟨Fin.any' _,Fin.any' _,trivial⟩,Fin.of rfl,trivial⟩
theorem jcr (s:List UInt8)(hs:s.length≤281474976710656):Cl 158 [.str s] (Ji (if okW s then 0 else 10)):=by
 have h1:=wread_g s hs
 generalize okW s=b at *
 refine V.en tbOk Tryz.func158 ?_
 refine V.u1 h1 ?_
 refine V.br (fun hq=>?_) (fun hq=>?_)
 ·obtain rfl:b=false:=by simpa using hq
  (conv=>whnf)
  refine V.st ?_
  exact Fin.of rfl
 ·obtain rfl:b=true:=by simpa using hq
  (conv=>whnf)
  refine V.st ?_
  exact Fin.of rfl
def itD (z:Int):D := .agg [.ints .u32 (mg 1000000000 z.natAbs),.bool (decide (z<0))]
def wval (s:List UInt8):Int:=if Go.Lib.hasPrefix s [45] then -(rdv (Go.Lib.trimPrefix s [45]):Nat) else (rdv (Go.Lib.trimPrefix s [45]):Nat)
theorem okD_nz {d:List UInt8}(h:okD d true=true):0<rdv d:=by
 unfold okD at h
 simp only[jjv,Bool.not_eq_true',jjP,decide_eq_false_iff_not,Bool.true_or,Bool.and_true,jj7] at h
 obtain⟨⟨⟨h1,_⟩,h2⟩,h3⟩:=h
 cases d with
 | nil=>simp at h1
 | cons c r=>
  have h4:=h2 c Js
  simp only[isDig,decide_eq_true_eq] at h4
  rw[List.getD_cons_zero] at h3
  have h5:c.toNat≠48:=fun e=>h3 (UInt8.toNat_inj.1 e)
  have h6:=jbs [c] r
  rw[jec] at h6
  rw[show c::r=[c]++r from rfl,h6]
  have:0<(c.toNat-48)*10^r.length:=Nat.mul_pos Jo (Nat.pow_pos Jo)
  omega
theorem jdc (s:List UInt8)(h:okW s=true):Cl 159 [.str s] (itD (wval s)):=by
 have hcp:=jfF s [45]
 unfold wval itD
 unfold okW at h
 have hl:(Go.Lib.trimPrefix s [45]).length≤600 ∧ ∀ c∈Go.Lib.trimPrefix s [45],isDig c=true:=by
  unfold okD at h
  simp only[jjv,Bool.not_eq_true',jjP,decide_eq_false_iff_not,jj7] at h
  exact⟨Jo,h.1.2⟩
 have hg:=gather_c _ hl.2 Jo
 generalize Go.Lib.trimPrefix s [45]=d at *
 have e:(if Go.Lib.hasPrefix s [45]=true then -((rdv d:Nat):Int) else ((rdv d:Nat):Int)).natAbs=rdv d∧decide ((if Go.Lib.hasPrefix s [45]=true then -((rdv d:Nat):Int) else ((rdv d:Nat):Int))<0)=Go.Lib.hasPrefix s [45]:=by
  cases hn:Go.Lib.hasPrefix s [45] with
  | true=>
   rw[hn] at h
   have:=okD_nz h
   exact⟨Js,by simp;omega⟩
  | false=>exact⟨Js,Js⟩
 rw[e.1,e.2]
 generalize Go.Lib.hasPrefix s [45]=neg at *
 refine V.en tbOk Tryz.func159 ?_
 refine V.u2 hcp hg ?_
 exact Fin.of rfl
theorem jd4 (z:Int):Go.Lib.hasPrefix (decZ z) [45]=decide (z<0)∧Go.Lib.trimPrefix (decZ z) [45]=dec z.natAbs:=by
 unfold decZ Go.Lib.trimPrefix Go.Lib.hasPrefix
 by_cases h:z<0
 ·simp[h,List.isPrefixOf]
 ·simp only[if_neg h,decide_eq_false h]
  have h1:=jg8 z.natAbs
  have h2:=jbi z.natAbs
  cases hd:dec z.natAbs with
  | nil=>rw[hd] at h2;simp at h2
  | cons c r=>
   have h3:=h1 c (by rw[hd];simp)
   have h4:((45:UInt8) == c)=false:=by
    rw[beq_eq_false_iff_ne];intro e;subst e;exact absurd h3 Jd
   simp[List.isPrefixOf,h4]
theorem jcA (z:Int)(h:(dec z.natAbs).length≤600):okW (decZ z)=true:=by
 unfold okW okD
 rw[(jd4 z).1,(jd4 z).2]
 have h2:=jbi z.natAbs
 have h3:(dec z.natAbs).all isDig=true:=jj7.2 (jg8 _)
 rw[h3,decide_eq_false (show ¬ (dec z.natAbs).length=0 by omega),decide_eq_false (show ¬ 600<(dec z.natAbs).length by omega)]
 by_cases h0:z.natAbs=0
 ·have:z=0:=Jo
  subst this
  rfl
 ·have:=dec_head z.natAbs Jo
  rw[decide_eq_false this];rfl
theorem jbf (z:Int):wval (decZ z)=z:=by
 unfold wval
 rw[(jd4 z).1,(jd4 z).2,rdv_dec]
 by_cases h:z<0
 ·simp[h];omega
 ·simp[h];omega
theorem jdv (n:Nat):Cl 145 [.ints .u32 (mg 1000000000 n)] (.bool (decide (n=0))):=by
 have hnil:=jb9 (B:=1000000000) (n:=n) Jo
 rw[← jj9] at hnil
 have e:decide (((mg 1000000000 n).length:Int)=0)=decide (n=0):=decide_eq_decide.2 (by rw[← hnil];omega)
 refine V.en tbOk Tryz.func145 ?_
 (conv=>whnf)
 refine V.st ?_
 exact Fin.of (by rw[e])
theorem ja9 (n:Nat)(neg:Bool):Cl 167 [.ints .u32 (mg 1000000000 n),.bool neg] (itD (if neg then -(n:Int) else n)):=by
 have h1:=jdv n
 have e:(if neg=true then -(n:Int) else (n:Int)).natAbs=n:=by cases neg<;>simp
 have e2:decide ((if neg=true then -(n:Int) else (n:Int))<0)=(neg && !decide (n=0)):=by
  cases neg with
  | false=>simp
  | true=>
   by_cases h:n=0
   ·simp[h]
   ·rw[decide_eq_false h,if_pos rfl,decide_eq_true Jo];rfl
 unfold itD
 rw[e,e2]
 generalize decide (n=0)=z at *
 refine V.en tbOk Tryz.func167 ?_
 refine V.u1 h1 ?_
 exact Fin.of rfl
theorem small_c (n:Nat)(h:n<1000000000000000000):Cl 200 [.ints .u32 (mg 1000000000 n)] (.int .u64 n):=by
 have hlen:=jax (B:=1000000000) (n:=n) (k:=2) Jo Jo
 have hdx:=mg_dg (B:=1000000000) Jo n
 have hvx:=jaJ (B:=1000000000) Jo n
 generalize mg 1000000000 n=xs at *
 refine V.en tbOk Tryz.func200 ?_
 (conv=>whnf)
 refine V.st ?_
 refine jad (xs.length:Nat) (fun k=>k≤xs.length) (fun k=>k) (fun k=>[(4,Ji ((k:Int)-1)),(3,.int .u64 (val 1000000000 (xs.drop k)))]) (fun _=>[]) ?_ ?_ ?_
 ·rw[List.drop_length]
  exact V.wk
 ·exact jjG _
 intro k hk
 (conv=>whnf)
 refine V.st ?_
 refine V.br (fun hq=>?_) (fun hq=>?_)
 ·rw[decide_eq_true_eq] at hq
  obtain⟨j,rfl⟩:∃ j,k=j+1:=⟨k-1,Jo⟩
  have hd:=jbP (B:=1000000000) (l:=xs) (k:=j) Jo
  have bx:=jan Jo hdx j
  have h0:=jao (jbp hdx (j+1))
  have h1:=jcj (jbp hdx (j+1))
  rw[jkt] at h1
  have h2:(1000000000:Nat)^(xs.length-(j+1))≤1000000000^1:=jjW Jo Jo
  have h3:((1000000000^(xs.length-(j+1)):Nat):Int)≤((1000000000^1:Nat):Int):=by exact_mod_cast h2
  rw[jj0] at h3
  have e2:(((j+1:Nat):Int)-1)=(j:Int):=Jo
  generalize hx0:xs.getD j 0=x at *
  have e3:val 1000000000 (xs.drop (j+1))*1000000000+x=val 1000000000 (xs.drop j):=Jo
  refine V.r0 (V.a4 e2 @jjF hx0 e3) ?_
  exact⟨j,Jo,Jo,V.wk⟩
 ·rw[decide_eq_false_iff_not] at hq
  obtain rfl:k=0:=Jo
  rw[jku,hvx]
  (conv=>whnf)
  refine V.st ?_
  exact Fin.of rfl
theorem jdt (n:Nat)(hn:n<18446744073709551616):Cl 118 [.int .u64 n] (.ints .u32 (mg 1000000000 n)):=by
 have hlen:=jax (B:=1000000000) (n:=n) (k:=3) Jo Jo
 refine V.en tbOk Tryz.func118 ?_
 (conv=>whnf)
 refine V.st ?_
 refine Lp.ghostSlot 13 3 .u32 Jd ?_
 (conv=>whnf)
 refine jad ((n,[]):Nat×List Int) (fun s=>val 1000000000 s.2+((1000000000:Nat):Int)^s.2.length*s.1=n∧Dg 1000000000 s.2∧s.1≤n∧s.2.length+(mg 1000000000 s.1).length=(mg 1000000000 n).length∧(s.1=0→s.2=mg 1000000000 n)) (fun s=>s.1) (fun s=>[(0,.int .u64 s.1),(3,.osl 13 0 s.2.length)]) (fun s=>[(13,.arr .u32 s.2)]) ?_ ?_ ?_
 ·exact V.wk
 ·exact⟨by simp[val],fun x hx=>by simp at hx,jjG _,Js,fun h=>by dsimp only at h;rw[h];rfl⟩
 rintro⟨q,out⟩ ⟨h1,h2,h3,h4,h5⟩
 dsimp only at h1 h2 h3 h4 h5 ⊢
 (conv=>whnf)
 refine V.st ?_
 refine V.br (fun hq=>?_) (fun hq=>?_)
 ·rw[decide_eq_true_eq] at hq
  have hq0:0<q:=Jo
  have hmg:=jcn (B:=1000000000) Jo hq0
  have hst:=jeO (B:=1000000000) Jo h1
  have hlt:q/1000000000<q:=Nat.div_lt_self hq0 Jo
  have hdg:Dg 1000000000 (out++[((q%1000000000:Nat):Int)]):=jai h2 (jaA ⟨Jo,by have:=jjJ q (by omega:1000000000>0);omega⟩)
  have e1:(q:Int)%1000000000=((q%1000000000:Nat):Int):=Jo
  have e2:(q:Int)/1000000000=((q/1000000000:Nat):Int):=Jo
  have hl2:(out++[((q%1000000000:Nat):Int)]).length=out.length+1:=Js
  have hl3:out.length+(List.take 1 (List.drop 0 [((q%1000000000:Nat):Int)])).length=(out++[((q%1000000000:Nat):Int)]).length:=Js
  rw[hmg,jkn] at h4
  have hmr:=jjJ q (by omega:1000000000>0)
  (conv=>whnf)
  (try simp only[e1,e2,hl3])
  repeat ((first|refine V.s1 ?_);(try simp only[e1,e2,hl3]))
  try refine And.intro (fun _=>⟨trivial,Jo⟩) ?_
  (conv=>whnf)
  (try simp only[e1,e2,hl3])
  repeat ((first|refine V.s1 ?_);(try simp only[e1,e2,hl3]))
  refine⟨(q/1000000000,out++[((q%1000000000:Nat):Int)]),⟨hst,hdg,by dsimp only;omega,by dsimp only;omega,fun h0=>?_⟩,hlt,V.wk⟩
  dsimp only at h0 ⊢
  rw[h0,Int.natCast_zero,Int.mul_zero,jjZ] at hst
  have:=mg_of (B:=1000000000) Jo hdg (fun x hx=>by
   rw[List.getLast?_append] at hx
   simp at hx
   omega)
  rw[hst,jjF] at this
  exact this
 ·rw[decide_eq_false_iff_not] at hq
  obtain rfl:q=0:=Jo
  (conv=>whnf)
  refine V.st ?_
  exact Fin.of (by rw[jkz,h5 rfl])
theorem isNaNi_c (n:Int):Cl 226 [Ji n] (.bool false):=by
 refine V.en tbOk Tryz.func226 ?_
 (conv=>whnf)
 refine V.st ?_
 exact Fin.of Js
theorem isNaNu_c (n:Int):Cl 227 [.int .u32 n] (.bool false):=by
 refine V.en tbOk Tryz.func227 ?_
 (conv=>whnf)
 refine V.st ?_
 exact Fin.of Js
theorem cmpi_c (m n:Int):Cl 201 [Ji m,Ji n] (Ji (m-n).sign):=by
 have h1:=isNaNi_c m
 have h2:=isNaNi_c n
 refine V.en tbOk Tryz.func201 ?_
 refine V.u2 h1 h2 ?_
 refine V.br (fun hq=>?_) (fun hq=>?_)
 ·rw[decide_eq_true_eq] at hq
  (conv=>whnf)
  refine V.st ?_
  exact Fin.of (by rw[jj4 Jo])
 ·rw[decide_eq_false_iff_not] at hq
  (conv=>whnf)
  refine V.st ?_
  refine V.br (fun hq2=>?_) (fun hq2=>?_)
  ·rw[decide_eq_true_eq] at hq2
   (conv=>whnf)
   refine V.st ?_
   exact Fin.of (by rw[jj5 Jo])
  ·rw[decide_eq_false_iff_not] at hq2
   (conv=>whnf)
   refine V.st ?_
   exact Fin.of (by rw[show m-n=0 by omega];rfl)
theorem cmpu_c (m n:Int):Cl 202 [.int .u32 m,.int .u32 n] (Ji (m-n).sign):=by
 have h1:=isNaNu_c m
 have h2:=isNaNu_c n
 refine V.en tbOk Tryz.func202 ?_
 refine V.u2 h1 h2 ?_
 refine V.br (fun hq=>?_) (fun hq=>?_)
 ·rw[decide_eq_true_eq] at hq
  (conv=>whnf)
  refine V.st ?_
  exact Fin.of (by rw[jj4 Jo])
 ·rw[decide_eq_false_iff_not] at hq
  (conv=>whnf)
  refine V.st ?_
  refine V.br (fun hq2=>?_) (fun hq2=>?_)
  ·rw[decide_eq_true_eq] at hq2
   (conv=>whnf)
   refine V.st ?_
   exact Fin.of (by rw[jj5 Jo])
  ·rw[decide_eq_false_iff_not] at hq2
   (conv=>whnf)
   refine V.st ?_
   exact Fin.of (by rw[show m-n=0 by omega];rfl)
theorem jcq (a b:Nat)(ha:(mg 1000000000 a).length≤100000000)(hb:(mg 1000000000 b).length≤100000000):Cl 162 [.ints .u32 (mg 1000000000 a),.ints .u32 (mg 1000000000 b)] (Ji ((a:Int)-b).sign):=by
 have hdx:=mg_dg (B:=1000000000) Jo a
 have hdy:=mg_dg (B:=1000000000) Jo b
 have hsg:=jf7 (B:=1000000000) Jo a b
 generalize mg 1000000000 a=xs at *
 generalize mg 1000000000 b=ys at *
 have hsn:((a:Int)-b).sign=(ordV xs ys).sign:=by
  rcases Nat.lt_trichotomy a b with h|h|h
  ·rw[jj4 Jo,jj4 Jo]
  ·rw[show (a:Int)-b=0 by omega,show ordV xs ys=0 by omega]
  ·rw[jj5 Jo,jj5 Jo]
 rw[hsn]
 have hc1:=cmpi_c (xs.length:Int) (ys.length:Int)
 refine V.en tbOk Tryz.func162 ?_
 (conv=>whnf)
 refine V.st ?_
 refine V.br (fun hq=>?_) (fun hq=>?_)
 ·rw[decide_eq_true_eq] at hq
  refine V.u1 hc1 ?_
  exact Fin.of (by unfold ordV;rw[if_neg Jo])
 ·rw[decide_eq_false_iff_not] at hq
  have hq':xs.length=ys.length:=Jo
  have hov:ordV xs ys=ordR xs ys xs.length:=by unfold ordV;rw[if_pos hq']
  rw[hov]
  (conv=>whnf)
  refine V.st ?_
  refine jad (xs.length) (fun k=>k≤xs.length∧ordR xs ys k=ordR xs ys xs.length) (fun k=>k) (fun k=>[(5,Ji ((k:Int)-1))]) (fun k=>[]) ?_ ?_ ?_
  ·exact V.wk
  ·exact⟨jjG _,rfl⟩
  intro k hk
  have bx:=jan Jo hdx (k-1)
  have by':=jan Jo hdy (k-1)
  (conv=>whnf)
  refine V.st ?_
  refine V.br (fun hz=>?_) (fun hz=>?_)
  ·rw[decide_eq_true_eq] at hz
   obtain⟨j,rfl⟩:∃ j,k=j+1:=⟨k-1,Jo⟩
   have e2:(((j+1:Nat):Int)-1)=(j:Int):=Jo
   have hr:=hk.2
   rw[ordR] at hr
   rw[Nat.add_sub_cancel] at bx by'
   refine V.r0 (V.a2 e2 @jjF) ?_
   refine⟨Pq27z,[],V.pok,.go (jac ?_)⟩
   have hc2:=cmpu_c (xs.getD j 0) (ys.getD j 0)
   refine V.r0 (V.a2 e2 @jjF) ?_
   refine V.br (fun hn=>?_) (fun hn=>?_)
   ·rw[decide_eq_true_eq] at hn
    refine V.r0 (V.a2 e2 @jjF) ?_
    refine⟨(V.tk [0,1,2,3,4,5,6,7] (V.e1 8 [] (V.tk [9] .done))),[],V.pok,.go (jac ?_)⟩
    refine V.r1 (V.a2 e2 @jjF) hc2 ?_
    exact Fin.of (by rw[← hr,if_neg hn])
   ·rw[decide_eq_false_iff_not] at hn
    rw[if_pos Jo] at hr
    refine V.r0 e2 ?_
    exact⟨j,⟨Jo,hr⟩,Jo,V.wk⟩
  ·rw[decide_eq_false_iff_not] at hz
   obtain rfl:k=0:=Jo
   (conv=>whnf)
   refine V.st ?_
   exact Fin.of (by rw[← hk.2];rfl)
theorem jcL (a b:Nat)(ha:(mg 1000000000 a).length≤100000000)(hb:(mg 1000000000 b).length≤100000000):Cl 165 [.ints .u32 (mg 1000000000 a),.ints .u32 (mg 1000000000 b)] (.ints .u32 (mg 1000000000 (a*b))):=by
 have hdx:=mg_dg (B:=1000000000) Jo a
 have hdy:=mg_dg (B:=1000000000) Jo b
 have hvx:=jaJ (B:=1000000000) Jo a
 have hvy:=jaJ (B:=1000000000) Jo b
 generalize mg 1000000000 a=xs at *
 generalize mg 1000000000 b=ys at *
 have hmn:((xs.length:Int)+(ys.length:Int)).toNat=xs.length+ys.length:=Jo
 refine V.en tbOk Tryz.func165 ?_
 refine V.r0 hmn ?_
 refine jad ((0,List.replicate (xs.length+ys.length) 0):Nat×List Int) (fun s=>s.1≤xs.length∧s.2.length=xs.length+ys.length∧Dg 1000000000 s.2∧(∀ k,s.1+ys.length≤k→s.2.getD k 0=0)∧val 1000000000 s.2=val 1000000000 (xs.take s.1)*val 1000000000 ys) (fun s=>xs.length-s.1)
  (fun s=>[(19,Ji s.1),(5,.osl 16 0 (xs.length+ys.length))]) (fun s=>[(16,.arr .u32 s.2)]) ?_ ?_ ?_
 ·exact V.wk
 ·exact⟨jjx _,Js,jcc Jo _,fun k _=>by simp[jj8,List.getElem?_replicate];split<;>simp,by simp[val,jeW]⟩
 rintro⟨i,out⟩ ⟨h1,h2,h3,h4,h5⟩
 dsimp only at h1 h2 h3 h4 h5 ⊢
 have vx:=jaj 1000000000 xs i
 have bx:=jan Jo hdx i
 generalize hx0:xs.getD i 0=x at *
 (conv=>whnf)
 refine V.st ?_
 refine V.br (fun hq=>?_) (fun hq=>?_)
 ·rw[decide_eq_true_eq] at hq
  refine V.r0 (V.a2 @jjF hx0) ?_
  refine jad ((0,out,0):Nat×List Int×Int) (fun s=>s.1≤ys.length∧s.2.1.length=xs.length+ys.length∧Dg 1000000000 s.2.1∧(∀ k,i+ys.length≤k→s.2.1.getD k 0=0)∧(0≤s.2.2∧s.2.2<1000000000)∧val 1000000000 s.2.1+((1000000000:Nat):Int)^(i+s.1)*s.2.2=val 1000000000 (xs.take i)*val 1000000000 ys+((1000000000:Nat):Int)^i*x*val 1000000000 (ys.take s.1)) (fun s=>ys.length-s.1)
   (fun s=>[(26,Ji s.1),(8,.int .u64 s.2.2),(5,.osl 16 0 (xs.length+ys.length))]) (fun s=>[(16,.arr .u32 s.2.1)]) ?_ ?_ ?_
  ·exact V.wk
  ·exact⟨jjx _,h2,h3,h4,Js,by simp[val,h5]⟩
  rintro⟨j,o,c⟩ ⟨g1,g2,g3,g4,g5,g6⟩
  dsimp only at g1 g2 g3 g4 g5 g6 ⊢
  have vy:=jaj 1000000000 ys j
  have by':=jan Jo hdy j
  have bo:=jan Jo g3 (i+j)
  generalize hy0:ys.getD j 0=y at *
  generalize ho0:o.getD (i+j) 0=q at *
  have eij:((i:Int)+(j:Int)).toNat=i+j:=Jo
  have hxy:0≤x*y∧x*y≤999999999*999999999:=⟨jjB Jo Jo,Int.mul_le_mul Jo Jo Jo Jo⟩
  have hkj:((j:Int)+1)=((j+1:Nat):Int):=Jo
  have hki:((i:Int)+1)=((i+1:Nat):Int):=Jo
  have ein:((i:Int)+(ys.length:Int)).toNat=i+ys.length:=Jo
  (conv=>whnf)
  refine V.st ?_
  refine V.br (fun hw=>?_) (fun hw=>?_)
  ·rw[decide_eq_true_eq] at hw
   have hm:0≤(c+(q+x*y))%1000000000∧(c+(q+x*y))%1000000000<1000000000:=⟨jjz _ Jo,jjY _ Jo⟩
   have hc9:0≤(c+(q+x*y))/1000000000∧(c+(q+x*y))/1000000000<1000000000:=Jo
   have hst:=jht (B:=1000000000) (x:=x) (y:=y) (q:=q) (c:=c) (d:=(c+(q+x*y))%1000000000) (c':=(c+(q+x*y))/1000000000) Jo ho0 g6 (by have:=jjA (c+(q+x*y)) 1000000000;omega)
   rw[← vy] at hst
   refine V.r0 (V.a7 eij @jjC @jjF hx0 hy0 ho0 hkj) ?_
   exact⟨(j+1,o.set (i+j) ((c+(q+x*y))%1000000000),(c+(q+x*y))/1000000000),⟨by dsimp only;omega,by dsimp only;rw[jkw];exact g2,jd2 g3 hm,fun k hk=>by dsimp only;rw[jcE Jo];exact g4 k hk,⟨hc9.1,hc9.2⟩,hst⟩,by dsimp only;omega,V.wk⟩
  ·rw[decide_eq_false_iff_not] at hw
   have hj:j=ys.length:=Jo
   subst hj
   rw[jkz] at g6
   have hst:=prod_end (B:=1000000000) Jo (g4 _ (jjG _)) g6 hx0
   refine V.r0 (V.a3 ein @jjC hki) ?_
   exact⟨(i+1,o.set (i+ys.length) c),⟨by dsimp only;omega,by dsimp only;rw[jkw];exact g2,jd2 g3 ⟨g5.1,g5.2⟩,fun k hk=>by dsimp only at hk ⊢; rw[jcE Jo];exact g4 k Jo,hst⟩,by dsimp only;omega,V.wk⟩
 ·rw[decide_eq_false_iff_not] at hq
  rw[jko Jo,hvx,hvy,← jjQ] at h5
  have hc:=jfW out h3 Jo
  rw[h5,jjF,← jkz (l:=out),h2] at hc
  refine V.u1 hc ?_
  exact Fin.of rfl
theorem short_c (a d:Nat)(ha:(mg 1000000000 a).length≤100000000)(hd0:0<d)(hd1:d≤1000000000):Cl 219 [.ints .u32 (mg 1000000000 a),.int .u32 d] (.tup [.ints .u32 (mg 1000000000 (a/d)),.int .u32 (a%d:Nat)]):=by
 have hdx:=mg_dg (B:=1000000000) Jo a
 have hvx:=jaJ (B:=1000000000) Jo a
 generalize mg 1000000000 a=xs at *
 have hmn:((xs.length:Int)).toNat=xs.length:=Jo
 refine V.en tbOk Tryz.func219 ?_
 refine V.r0 hmn ?_
 refine jad ((xs.length,List.replicate xs.length 0,0):Nat×List Int×Int) (fun s=>s.1≤xs.length∧s.2.1.length=xs.length∧Dg 1000000000 s.2.1∧(0≤s.2.2∧s.2.2<d)∧val 1000000000 (xs.drop s.1)=val 1000000000 (s.2.1.drop s.1)*d+s.2.2) (fun s=>s.1)
  (fun s=>[(8,Ji ((s.1:Int)-1)),(7,.int .u64 s.2.2),(6,.osl 11 0 xs.length)]) (fun s=>[(11,.arr .u32 s.2.1)]) ?_ ?_ ?_
 ·exact V.wk
 ·exact⟨jjG _,Js,jcc Jo _,⟨Js,by dsimp only;omega⟩,by simp[val]⟩
 rintro⟨k,out,r⟩ ⟨h1,h2,h3,h4,h5⟩
 dsimp only at h1 h2 h3 h4 h5 ⊢
 (conv=>whnf)
 refine V.st ?_
 refine V.br (fun hq=>?_) (fun hq=>?_)
 ·rw[decide_eq_true_eq] at hq
  obtain⟨j,rfl⟩:∃ j,k=j+1:=⟨k-1,Jo⟩
  have hj:j<xs.length:=Jo
  have bx:=jan Jo hdx j
  generalize hx0:xs.getD j 0=x at *
  have e2:(((j+1:Nat):Int)-1)=(j:Int):=Jo
  have hb:0≤(r*1000000000+x)/(d:Int)∧(r*1000000000+x)/(d:Int)<1000000000∧0≤(r*1000000000+x)%(d:Int)∧(r*1000000000+x)%(d:Int)<d:=jfh (B:=1000000000) (by omega:(0:Int)<d) h4 bx
  have hst:=jfg (B:=1000000000) hj Jo hx0 h5 (t:=r*1000000000+x) rfl
  have hr0:0≤r*1000000000+x:=Jo
  refine V.r0 (V.a4 e2 @jjC @jjF hx0) ?_
  exact⟨(j,out.set j ((r*1000000000+x)/d),(r*1000000000+x)%d),⟨by dsimp only;omega,by dsimp only;rw[jkw];exact h2,jd2 h3 ⟨hb.1,hb.2.1⟩,⟨hb.2.2.1,hb.2.2.2⟩,hst⟩,by dsimp only;omega,V.wk⟩
 ·rw[decide_eq_false_iff_not] at hq
  obtain rfl:k=0:=Jo
  rw[jku,jku,hvx] at h5
  have hvq:=jao h3
  obtain⟨w,hw⟩:∃ w:Nat,val 1000000000 out=w:=⟨(val 1000000000 out).toNat,Jo⟩
  obtain⟨r',rfl⟩:∃ r':Nat,r=r':=⟨r.toNat,Jo⟩
  rw[hw,← jjQ] at h5
  have h6:a=w*d+r':=Jo
  have e8:a/d=w:=by rw[h6,Nat.add_comm,Nat.add_mul_div_right _ _ hd0,Nat.div_eq_of_lt Jo,jjC]
  have e9:a%d=r':=by rw[h6,Nat.add_comm,Nat.add_mul_mod_self_right,jjL Jo]
  have hc:=jfW out h3 Jo
  rw[hw,jjF,← jkz (l:=out),h2] at hc
  refine V.u1 hc ?_
  exact Fin.of (by rw[e8,e9])
theorem length_c (n:Nat)(hn:(mg 1000000000 n).length≤100000000):Cl 188 [.ints .u32 (mg 1000000000 n)] (Ji (dec n).length):=by
 have hz:=jdv n
 have hdx:=mg_dg (B:=1000000000) Jo n
 have hvx:=jaJ (B:=1000000000) Jo n
 have hlx:=jef (B:=1000000000) (n:=n) Jo
 have hnil:=jb9 (B:=1000000000) (n:=n) Jo
 generalize mg 1000000000 n=xs at *
 refine V.en tbOk Tryz.func188 ?_
 refine V.u1 hz ?_
 refine V.br (fun hq=>?_) (fun hq=>?_)
 ·rw[decide_eq_true_eq] at hq
  subst hq
  (conv=>whnf)
  refine V.st ?_
  exact Fin.of rfl
 ·rw[decide_eq_false_iff_not] at hq
  obtain⟨j,hj⟩:∃ j,xs.length=j+1:=⟨xs.length-1,by
   have:xs≠[]:=fun e=>hq (hnil.1 e)
   have:=List.length_pos_iff.2 this
   omega⟩
  have bx:=jan Jo hdx j
  have hd:=jbP (B:=1000000000) (l:=xs) (k:=j) Jo
  have hnil2:xs.drop (j+1)=[]:=List.drop_eq_nil_of_le Jo
  rw[hnil2] at hd
  have hsp:=jbY 1000000000 xs j Jo
  have hlo:=jcj (jbB hdx j)
  have hlo0:=jao (jbB hdx j)
  rw[jke,Nat.min_eq_left Jo] at hlo
  have hx1:xs.getD j 0≠0:=by
   refine hlx _ ?_
   rw[List.getLast?_eq_getElem?,hj,jj8,show j+1-1=j by omega,jkb Jo];rfl
  generalize hx0:xs.getD j 0=x at *
  obtain⟨d,rfl⟩:∃ d:Nat,x=d:=⟨x.toNat,Jo⟩
  rw[hd,hvx] at hsp
  obtain⟨w,hw⟩:∃ w:Nat,val 1000000000 (xs.take j)=w:=⟨(val 1000000000 (xs.take j)).toNat,Jo⟩
  have hnw:n=d*10^(9*j)+w:=by
   have e:((10^(9*j):Nat):Int)=((1000000000:Nat):Int)^j:=by rw[Nat.pow_mul,jj0]
   simp only[val,Int.mul_zero,jjZ] at hsp
   rw[hw,← e,← jjQ,jjK] at hsp
   omega
  have hwl:w<10^(9*j):=by
   rw[Nat.pow_mul]
   rw[hw,← jj0] at hlo
   exact_mod_cast hlo
  have hdp:=jiE (a:=d) Jo (9*j) w hwl
  rw[← hnw] at hdp
  have hlen:(dec n).length=(dec d).length+9*j:=by rw[hdp,jkd,jed]
  have hi:=itoa_c (d:Int)
  have hdz:decZ (d:Int)=dec d:=by unfold decZ;rw[if_neg Jo,jjV]
  rw[hdz] at hi
  have e1:((xs.length:Int)-1)=(j:Int):=Jo
  have hdl:=jfE d 9 Jo Jo
  (conv=>whnf)
  (try simp only[e1,jjF,hx0])
  repeat ((first|refine V.s1 ?_|((try ((with_reducible refine .ext ?_);(conv=>whnf);(try simp only[e1,jjF,hx0])));(with_reducible refine jaa (r:=?_) ?_ ?_);rotate_left;(focus (first|exact(hi)));(conv=>whnf)));(try simp only[e1,jjF,hx0]))
  exact Fin.of (by rw[hlen];congr 1;omega)
end Go.Proofs.YtbnghipgicmpdaaGreatDoor
end
