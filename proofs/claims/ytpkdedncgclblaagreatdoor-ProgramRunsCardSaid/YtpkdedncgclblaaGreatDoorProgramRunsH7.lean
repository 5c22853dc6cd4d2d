/- What functions of the program answer at given values, part 7. Conditions: those that each theorem names. -/
import Derived.Test.YtpkdedncgclblaaGreatDoorProgramRunsSi
import Derived.WalkKit
import Derived.BigCall
import Derived.Test.YtpkdedncgclblaaGreatDoorProgramRunsH6
import Derived.Test.YtpkdedncgclblaaGreatDoorProg
import Derived.Lib.AppendIntMem
set_option linter.unusedSimpArgs false
set_option linter.unusedVariables false
set_option maxHeartbeats 8000000
set_option maxRecDepth 100000
section
namespace Go.Proofs.YtpkdedncgclblaaGreatDoor
open Go Go.RowKit Go.Proofs
set_option maxHeartbeats 4000000
set_option maxRecDepth 1000000
theorem bTp:Tryz.prog.underlying 277=some (.pointer 279):=by kernel_rfl
theorem bUp:Tryz.prog.underlying 299=some .unsafePointer:=by kernel_rfl
theorem bSl:Tryz.prog.underlying 236=some (.slice 5):=by kernel_rfl
theorem bStr:Tryz.prog.underlying 9=some .string:=by kernel_rfl
theorem bSize:(Tryz.prog.info? 279).map (·.size)=some 2:=by kernel_rfl
theorem bLies:liesAt Tryz.prog Tryz.prog.depth 279 (2/Tryz.prog.cellsOf 279) 0 279 1=true:=by kernel_rfl
theorem bByte:(Tryz.prog.info? 5).map (fun i=>(i.zero,i.size,i.bytes))=some (some (.int .u8 0),1,1):=by kernel_rfl
theorem jfq (b:Nat)(w:World)(h0:w.cell? ⟨b,0,none⟩=some (.pointer (some ⟨b,0,none⟩))) :
  Calls Tryz.prog 258 #[.pointer (some ⟨b,0,none⟩)] w fun e w'=>e = .returned (.tuple #[])∧w'=w:=by
 obtain⟨j,hj,_⟩:=Option.map_eq_some_iff.1 bSize
 go_enter Tryz.func258,Tryz.ntmps258
 go_wp2
 rw[Lib.run_neq_ptr_same w _ bTp hj]
 go_wp2
 go_end0
 exact⟨rfl,rfl⟩
theorem jfg (b:Nat)(w:World)(h0:w.cell? ⟨b,0,none⟩=some (.pointer none))(hsh:w.shape? b=some (279,2))(hfz:w.frozen? ⟨b,0,none⟩=false) :
  Calls Tryz.prog 258 #[.pointer (some ⟨b,0,none⟩)] w fun e w'=>e = .returned (.tuple #[])∧w'=w.setCell ⟨b,0,none⟩ (.pointer (some ⟨b,0,none⟩)):=by
 obtain⟨j,hj,hjs⟩:=Option.map_eq_some_iff.1 bSize
 go_enter Tryz.func258,Tryz.ntmps258
 go_wp2
 rw[Lib.run_to_unsafe w ⟨b,0,none⟩ bTp bUp hj (by rw[hjs];decide) hsh (Nat.zero_lt_succ 1)]
 simp only[Result.andThen]
 rw[Oper.upon_value]
 go_wp2
 rw[run_callFunc_extern Tryz.func266 (by kernel_rfl) (by kernel_rfl) (by kernel_rfl) (e:=Extern.AbiNoEscape.same) (by kernel_rfl)]
 rw[Lib.run_noEscape]
 simp only[Result.andThen]
 rw[Oper.upon_value]
 go_wp2
 rw[Lib.run_from_unsafe w ⟨b,0,none⟩ bUp bTp hj hsh bLies]
 simp only[Result.andThen]
 rw[Oper.upon_value]
 go_wp2
 go_end0
 exact⟨rfl,rfl⟩
theorem jff (B b:Nat)(bs:List Value)(w:World)(h:Lib.IsBuilderF 279 5 B b bs w) :
  Calls Tryz.prog 258 #[.pointer (some ⟨b,0,none⟩)] w fun e w'=>e = .returned (.tuple #[])∧(Lib.BuilderAtF 279 5 B b (.pointer (some ⟨b,0,none⟩)) bs w'∧Below B w w'∧Lib.OthersKept 5 (some b) w w'):=by
 rcases h with h|h
 ·refine(jfg b w h.cell0 h.shape h.frozen0).mono ?_
  rintro e w' ⟨rfl,rfl⟩
  exact⟨rfl,h.used _,(Below.refl B w).setCell (p:=⟨b,0,none⟩) h.1 _,(Lib.OthersKept.refl _ _ w).setCell ⟨b,0,none⟩ rfl _⟩
 ·refine(jfq b w h.cell0).mono ?_
  rintro e w' ⟨rfl,rfl⟩
  exact⟨rfl,h,Below.refl B _,Lib.OthersKept.refl _ _ _⟩
theorem jhk (B b:Nat)(bs:List Value)(c:Int)(w:World)(h:Lib.IsBuilderF 279 5 B b bs w)(hlen:bs.length+1≤140737488355328)(hBw:B≤w.heap.size) :
  Calls Tryz.prog 247 #[.pointer (some ⟨b,0,none⟩),.int .u8 c] w fun e w'=>e = .returned .nilIface∧(Lib.BuilderAtF 279 5 B b (.pointer (some ⟨b,0,none⟩)) (bs++[.int .u8 c]) w'∧Below B w w'∧Lib.OthersKept 5 (some b) w w'):=by
 obtain⟨i0,hi,hz0,hz1,hz2⟩:=info_parts bByte
 go_enter Tryz.func247,Tryz.ntmps247
 go_wp2_with (go_at_call 258;refine(jff B b bs _ h).mono ?_)
 rintro e w1 ⟨rfl,h1,hb1,hk1⟩
 obtain⟨hB,v,hbk,hown,hne⟩:=h1
 have c0:w1.cell? ⟨b,0,none⟩=some (.pointer (some ⟨b,0,none⟩)):=by rw[Lib.cell_of_heap hbk];rfl
 have c1:w1.cell? ⟨b,1,none⟩=some v:=by rw[Lib.cell_of_heap hbk];rfl
 go_wp2_with (at_builtin;refine wpList_append_ownF _ rfl _ _ 236 rfl B 5 i0 (.int .u8 0) 1 1 bSl hi hz0 hz1 hz2 rfl (by decide) _ _ _ rfl (hown.alloc _) ⟨w1.heap.size,0,none⟩ 1 1 [.int .u8 c] rfl rfl ?c1 ?c2 ?c3 ?c4 ?c5 ?_)
 case c1=>
  intro j u hj
  match j,hj with
  | 0,hj=>simp at hj;subst hj;simp[Addr.add]
 case c2=>intro u hu;simp at hu;subst hu;rfl
 case c3=>unfold maxLen;omega
 case c4=>omega
 case c5=>have:=hb1.size;simp;omega
 intro v' w2 hown' hgrow _
 have hlt:b<w1.heap.size:=by
  rcases jiI b w1.heap.size with h'|h'
  ·exact h'
  ·simp[Array.getElem?_eq_none h'] at hbk
 have hb2:w2.heap[b]? = some (.cells #[.pointer (some ⟨b,0,none⟩),v] 279 (0,0)):=by
  rw[hgrow.block b (by simp;omega) (fun e=>hne e.symm),Lib.alloc_old w1 _ b hlt]
  exact hbk
 have d0:w2.cell? ⟨b,0,none⟩=some (.pointer (some ⟨b,0,none⟩)):=by rw[Lib.cell_of_heap hb2];rfl
 have d1:w2.cell? ⟨b,1,none⟩=some v:=by rw[Lib.cell_of_heap hb2];rfl
 have f1:w2.frozen? ⟨b,1,none⟩=false:=Lib.frozen_of_heap hb2 1
 obtain⟨g,cap,rfl⟩:∃ g cap,v' = .slice (some ⟨g,0,none⟩) (bs.length+1) cap:=by
  rcases hown'.2 with⟨_,h0⟩|⟨g,cap,cur,fz,hv,_⟩
  ·omega
  ·exact⟨g,cap,hv⟩
 go_wp2
 go_ret
 refine⟨rfl,?_,?_,((hk1.alloc _).grown hgrow (Lib.ownsRowF_kind (hown.alloc _))).setCell ⟨b,1,none⟩ rfl _⟩
 ·exact Lib.BuilderAtF.put (T:=279) (e:=5) hB hb2 (bs':=bs++[.int .u8 c]) (by simpa using hown') (by decide)
 ·exact((hb1.alloc (by have:=hb1.size;omega) _).grown hgrow (by have:=hb1.size;simp;omega) (fun k hk=>(hown.lt k hk).1)).setCell (p:=⟨b,1,none⟩) hB _
theorem jfV (B b:Nat)(bs:List Value)(s:ByteArray)(w:World)(h:Lib.IsBuilderF 279 5 B b bs w)(hlen:bs.length+s.size≤140737488355328)(hBw:B≤w.heap.size) :
  Calls Tryz.prog 248 #[.pointer (some ⟨b,0,none⟩),.string s] w fun e w'=>e = .returned (.tuple #[.int .i64 s.size,.nilIface])∧(Lib.BuilderAtF 279 5 B b (.pointer (some ⟨b,0,none⟩)) (bs++Lib.strCells s) w'∧Below B w w'∧Lib.OthersKept 5 (some b) w w'):=by
 obtain⟨i0,hi,hz0,hz1,hz2⟩:=info_parts bByte
 go_enter Tryz.func248,Tryz.ntmps248
 go_wp2_with (go_at_call 258;refine(jff B b bs _ h).mono ?_)
 rintro e w1 ⟨rfl,h1,hb1,hk1⟩
 obtain⟨hB,v,hbk,hown,hne⟩:=h1
 have c0:w1.cell? ⟨b,0,none⟩=some (.pointer (some ⟨b,0,none⟩)):=by rw[Lib.cell_of_heap hbk];rfl
 have c1:w1.cell? ⟨b,1,none⟩=some v:=by rw[Lib.cell_of_heap hbk];rfl
 go_wp2_with (at_builtin;refine Lib.wpList_append_own_stringF _ rfl _ _ 236 9 rfl B 5 i0 bSl bStr hi hz0 hz1 hz2 _ _ _ rfl hown s rfl ?c3 ?c4 ?c5 ?_)
 case c3=>unfold maxLen;omega
 case c4=>omega
 case c5=>have:=hb1.size;omega
 intro v' w2 hown' hgrow _
 have hlt:b<w1.heap.size:=by
  rcases jiI b w1.heap.size with h'|h'
  ·exact h'
  ·simp[Array.getElem?_eq_none h'] at hbk
 have hb2:w2.heap[b]? = some (.cells #[.pointer (some ⟨b,0,none⟩),v] 279 (0,0)):=by
  rw[hgrow.block b hlt (fun e=>hne e.symm)]
  exact hbk
 have d0:w2.cell? ⟨b,0,none⟩=some (.pointer (some ⟨b,0,none⟩)):=by rw[Lib.cell_of_heap hb2];rfl
 have d1:w2.cell? ⟨b,1,none⟩=some v:=by rw[Lib.cell_of_heap hb2];rfl
 have f1:w2.frozen? ⟨b,1,none⟩=false:=Lib.frozen_of_heap hb2 1
 obtain⟨ao,n',cap,rfl⟩:∃ ao n' cap,v' = .slice ao n' cap:=by
  rcases hown'.2 with⟨hv,_⟩|⟨g,cap,cur,fz,hv,_⟩
  ·exact⟨_,_,_,hv⟩
  ·exact⟨_,_,_,hv⟩
 go_wp2
 go_ret2
 refine⟨rfl,?_,?_,(hk1.grown hgrow (Lib.ownsRowF_kind hown)).setCell ⟨b,1,none⟩ rfl _⟩
 ·exact Lib.BuilderAtF.put (T:=279) (e:=5) hB hb2 (bs':=bs++Lib.strCells s) (by simpa [Lib.strCells_length] using hown') (by decide)
 ·exact(hb1.grown hgrow (by have:=hb1.size;omega) (fun k hk=>(hown.lt k hk).1)).setCell (p:=⟨b,1,none⟩) hB _
end Go.Proofs.YtpkdedncgclblaaGreatDoor
end
section
namespace Go.Proofs.YtpkdedncgclblaaGreatDoor
open Go Go.V
def tb:V.Tb:=[(2,⟨1,8,.int .i64,[.int .i64 0]⟩),
 (3,⟨1,8,.int .i64,[.int .i64 0]⟩),
 (4,⟨1,1,.bool,[.bool false]⟩),
 (5,⟨1,1,.int .u8,[.int .u8 0]⟩),
 (9,⟨1,16,.str,[.str []]⟩),
 (21,⟨1,4,.int .i32,[.int .i32 0]⟩),
 (22,⟨1,2,.int .i16,[.int .i16 0]⟩),
 (23,⟨2,4,.arr 2 22,[.int .i16 0,.int .i16 0]⟩),
 (25,⟨1,16,.str,[.str []]⟩),
 (27,⟨2,32,.struct [(0,25),(1,25)],[.str [],.str []]⟩),
 (29,⟨1,8,.int .i64,[.int .i64 0]⟩),
 (31,⟨1,8,.func,[.any]⟩),
 (33,⟨2,16,.struct [(0,3),(1,3)],[.int .i64 0,.int .i64 0]⟩),
 (36,⟨1,24,.slice 33,[.nil]⟩),
 (38,⟨1,24,.slice 104,[.nil]⟩),
 (40,⟨3,32,.struct [(0,5),(1,5),(2,38)],[.int .u8 0,.int .u8 0,.nil]⟩),
 (41,⟨8,16,.arr 4 23,[.int .i16 0,.int .i16 0,.int .i16 0,.int .i16 0,.int .i16 0,.int .i16 0,.int .i16 0,.int .i16 0]⟩),
 (42,⟨1,2,.int .u16,[.int .u16 0]⟩),
 (43,⟨2,4,.arr 2 42,[.int .u16 0,.int .u16 0]⟩),
 (44,⟨8,16,.arr 4 43,[.int .u16 0,.int .u16 0,.int .u16 0,.int .u16 0,.int .u16 0,.int .u16 0,.int .u16 0,.int .u16 0]⟩),
 (46,⟨1,24,.slice 50,[.nil]⟩),
 (50,⟨2,16,.struct [(0,3),(1,3)],[.int .i64 0,.int .i64 0]⟩),
 (51,⟨1,24,.slice 27,[.nil]⟩),
 (60,⟨4,8,.arr 4 22,[.int .i16 0,.int .i16 0,.int .i16 0,.int .i16 0]⟩),
 (61,⟨1,24,.slice 42,[.nil]⟩),
 (63,⟨3,40,.struct [(0,4),(1,61),(2,42)],[.bool false,.nil,.int .u16 0]⟩),
 (65,⟨6,80,.struct [(0,63),(3,63)],[.bool false,.nil,.int .u16 0,.bool false,.nil,.int .u16 0]⟩),
 (66,⟨24,320,.arr 4 65,[.bool false,.nil,.int .u16 0,.bool false,.nil,.int .u16 0,.bool false,.nil,.int .u16 0,.bool false,.nil,.int .u16 0,.bool false,.nil,.int .u16 0,.bool false,.nil,.int .u16 0,.bool false,.nil,.int .u16 0,.bool false,.nil,.int .u16 0]⟩),
 (71,⟨2,48,.arr 2 51,[.nil,.nil]⟩),
 (77,⟨1,24,.slice 36,[.nil]⟩),
 (80,⟨4,24,.struct [(0,5),(1,5),(2,33)],[.int .u8 0,.int .u8 0,.int .i64 0,.int .i64 0]⟩),
 (81,⟨8,48,.arr 2 80,[.int .u8 0,.int .u8 0,.int .i64 0,.int .i64 0,.int .u8 0,.int .u8 0,.int .i64 0,.int .i64 0]⟩),
 (82,⟨3,72,.arr 3 36,[.nil,.nil,.nil]⟩),
 (84,⟨4,96,.arr 4 36,[.nil,.nil,.nil,.nil]⟩),
 (85,⟨2,16,.arr 2 3,[.int .i64 0,.int .i64 0]⟩),
 (86,⟨8,64,.arr 4 85,[.int .i64 0,.int .i64 0,.int .i64 0,.int .i64 0,.int .i64 0,.int .i64 0,.int .i64 0,.int .i64 0]⟩),
 (88,⟨3,72,.arr 3 51,[.nil,.nil,.nil]⟩),
 (90,⟨2,48,.arr 2 46,[.nil,.nil]⟩),
 (96,⟨1,24,.slice 3,[.nil]⟩),
 (98,⟨2,32,.struct [(0,4),(1,96)],[.bool false,.nil]⟩),
 (100,⟨4,64,.struct [(0,98),(2,98)],[.bool false,.nil,.bool false,.nil]⟩),
 (104,⟨2,4,.struct [(0,5),(1,22)],[.int .u8 0,.int .i16 0]⟩),
 (107,⟨1,8,.ptr 153,[.any]⟩),
 (111,⟨1,8,.ptr 173,[.any]⟩),
 (118,⟨1,8,.int .u64,[.int .u64 0]⟩),
 (136,⟨1,24,.slice 183,[.nil]⟩),
 (138,⟨2,32,.struct [(0,136),(1,4)],[.nil,.bool false]⟩),
 (140,⟨3,56,.struct [(0,138),(2,136)],[.nil,.bool false,.nil]⟩),
 (143,⟨1,8,.func,[.any]⟩),
 (144,⟨1,8,.func,[.any]⟩),
 (147,⟨1,8,.func,[.any]⟩),
 (150,⟨1,8,.map 3 144,[.any]⟩),
 (151,⟨1,24,.slice 27,[.nil]⟩),
 (153,⟨4,64,.struct [(0,151),(1,51),(2,143),(3,150)],[.nil,.nil,.any,.any]⟩),
 (155,⟨1,8,.struct [(0,29)],[.int .i64 0]⟩),
 (157,⟨1,8,.func,[.any]⟩),
 (159,⟨1,8,.map 3 157,[.any]⟩),
 (163,⟨1,8,.func,[.any]⟩),
 (164,⟨1,8,.func,[.any]⟩),
 (166,⟨1,8,.func,[.any]⟩),
 (168,⟨1,8,.func,[.any]⟩),
 (170,⟨1,8,.map 3 164,[.any]⟩),
 (171,⟨1,24,.slice 50,[.nil]⟩),
 (173,⟨4,64,.struct [(0,171),(1,46),(2,163),(3,170)],[.nil,.nil,.any,.any]⟩),
 (174,⟨1,8,.func,[.any]⟩),
 (175,⟨1,8,.map 3 174,[.any]⟩),
 (183,⟨1,4,.int .u32,[.int .u32 0]⟩),
 (186,⟨1,8,.int .u64,[.int .u64 0]⟩),
 (210,⟨1,8,.func,[.any]⟩),
 (221,⟨1,8,.func,[.any]⟩),
 (224,⟨1,8,.func,[.any]⟩),
 (226,⟨1,8,.func,[.any]⟩),
 (233,⟨1,24,.slice 100,[.nil]⟩),
 (236,⟨1,24,.slice 5,[.nil]⟩),
 (239,⟨1,24,.slice 183,[.nil]⟩),
 (241,⟨2,32,.struct [(0,239),(1,4)],[.nil,.bool false]⟩),
 (260,⟨1,8,.func,[.any]⟩),
 (261,⟨4,32,.arr 4 3,[.int .i64 0,.int .i64 0,.int .i64 0,.int .i64 0]⟩),
 (265,⟨2,16,.struct [(0,226),(1,226)],[.any,.any]⟩),
 (266,⟨8,64,.arr 4 265,[.any,.any,.any,.any,.any,.any,.any,.any]⟩),
 (277,⟨1,8,.ptr 279,[.any]⟩),
 (279,⟨2,32,.struct [(0,277),(1,236)],[.any,.nil]⟩),
 (281,⟨1,16,.other,[.any]⟩),
 (293,⟨1,8,.ptr 5,[.any]⟩),
 (295,⟨24,24,.arr 24 5,[.int .u8 0,.int .u8 0,.int .u8 0,.int .u8 0,.int .u8 0,.int .u8 0,.int .u8 0,.int .u8 0,.int .u8 0,.int .u8 0,.int .u8 0,.int .u8 0,.int .u8 0,.int .u8 0,.int .u8 0,.int .u8 0,.int .u8 0,.int .u8 0,.int .u8 0,.int .u8 0,.int .u8 0,.int .u8 0,.int .u8 0,.int .u8 0]⟩),
 (299,⟨1,8,.other,[.any]⟩),
 (304,⟨1,8,.ptr 315,[.any]⟩),
 (308,⟨20,160,.arr 20 186,[.int .u64 0,.int .u64 0,.int .u64 0,.int .u64 0,.int .u64 0,.int .u64 0,.int .u64 0,.int .u64 0,.int .u64 0,.int .u64 0,.int .u64 0,.int .u64 0,.int .u64 0,.int .u64 0,.int .u64 0,.int .u64 0,.int .u64 0,.int .u64 0,.int .u64 0,.int .u64 0]⟩),
 (309,⟨65,65,.arr 65 5,[.int .u8 0,.int .u8 0,.int .u8 0,.int .u8 0,.int .u8 0,.int .u8 0,.int .u8 0,.int .u8 0,.int .u8 0,.int .u8 0,.int .u8 0,.int .u8 0,.int .u8 0,.int .u8 0,.int .u8 0,.int .u8 0,.int .u8 0,.int .u8 0,.int .u8 0,.int .u8 0,.int .u8 0,.int .u8 0,.int .u8 0,.int .u8 0,.int .u8 0,.int .u8 0,.int .u8 0,.int .u8 0,.int .u8 0,.int .u8 0,.int .u8 0,.int .u8 0,.int .u8 0,.int .u8 0,.int .u8 0,.int .u8 0,.int .u8 0,.int .u8 0,.int .u8 0,.int .u8 0,.int .u8 0,.int .u8 0,.int .u8 0,.int .u8 0,.int .u8 0,.int .u8 0,.int .u8 0,.int .u8 0,.int .u8 0,.int .u8 0,.int .u8 0,.int .u8 0,.int .u8 0,.int .u8 0,.int .u8 0,.int .u8 0,.int .u8 0,.int .u8 0,.int .u8 0,.int .u8 0,.int .u8 0,.int .u8 0,.int .u8 0,.int .u8 0,.int .u8 0]⟩),
 (315,⟨3,48,.struct [(0,9),(1,9),(2,281)],[.str [],.str [],.any]⟩),
 (318,⟨1,8,.ptr 320,[.any]⟩),
 (320,⟨1,16,.struct [(0,9)],[.str []]⟩),
 (321,⟨32,32,.arr 32 5,[.int .u8 0,.int .u8 0,.int .u8 0,.int .u8 0,.int .u8 0,.int .u8 0,.int .u8 0,.int .u8 0,.int .u8 0,.int .u8 0,.int .u8 0,.int .u8 0,.int .u8 0,.int .u8 0,.int .u8 0,.int .u8 0,.int .u8 0,.int .u8 0,.int .u8 0,.int .u8 0,.int .u8 0,.int .u8 0,.int .u8 0,.int .u8 0,.int .u8 0,.int .u8 0,.int .u8 0,.int .u8 0,.int .u8 0,.int .u8 0,.int .u8 0,.int .u8 0]⟩),
 (322,⟨64,64,.arr 64 5,[.int .u8 0,.int .u8 0,.int .u8 0,.int .u8 0,.int .u8 0,.int .u8 0,.int .u8 0,.int .u8 0,.int .u8 0,.int .u8 0,.int .u8 0,.int .u8 0,.int .u8 0,.int .u8 0,.int .u8 0,.int .u8 0,.int .u8 0,.int .u8 0,.int .u8 0,.int .u8 0,.int .u8 0,.int .u8 0,.int .u8 0,.int .u8 0,.int .u8 0,.int .u8 0,.int .u8 0,.int .u8 0,.int .u8 0,.int .u8 0,.int .u8 0,.int .u8 0,.int .u8 0,.int .u8 0,.int .u8 0,.int .u8 0,.int .u8 0,.int .u8 0,.int .u8 0,.int .u8 0,.int .u8 0,.int .u8 0,.int .u8 0,.int .u8 0,.int .u8 0,.int .u8 0,.int .u8 0,.int .u8 0,.int .u8 0,.int .u8 0,.int .u8 0,.int .u8 0,.int .u8 0,.int .u8 0,.int .u8 0,.int .u8 0,.int .u8 0,.int .u8 0,.int .u8 0,.int .u8 0,.int .u8 0,.int .u8 0,.int .u8 0,.int .u8 0]⟩)]
theorem tbOk:V.TbOk Tryz.prog tb:=V.tbB_ok (by kernel_rfl)
end Go.Proofs.YtpkdedncgclblaaGreatDoor
end
namespace Go.Proofs.YtpkdedncgclblaaGreatDoor
/-- a call of the program's function number f -/
abbrev Cl := Go.V.Called Tryz.prog
open Go.V
abbrev Pq0z : Plan := (V.tk [0,1,2,3,4,5,6,7,8,11,12] (V.e1 9 [12,11,4,3,2,1,0] (V.tk [10,13,14,15] (V.e1 16 [] .done))))
abbrev Pq6z : Plan := (V.tk [0,1,2,3,4,5,6,7,8,9] (V.e1 10 [] (V.tk [11,12] (V.e1 13 [] (V.tk [14] .done)))))
abbrev Pq8z : Plan := (V.tk [0,1,2,3,4,5,6,7,8] (V.e1 9 [0] (V.tk [10,11] (V.e1 12 [] .done))))
abbrev Pq10z : Plan := (V.tk [0,1,2,3,4,5,6,7,8] (V.e1 9 [] .done))
abbrev Pq11z : Plan := (V.tk [0,1,2,3,4,5,6,7,8] .done)
abbrev Pq15z : Plan := (V.tk [0,1,2,3,4,5,6] (V.e1 7 [0] (V.tk [8,9] (V.e1 10 [] .done))))
abbrev Pq17z : Plan := (V.tk [0,1,2,3,4,5,6] (V.e1 7 [] (V.tk [8,9] (V.e1 10 [] (V.tk [11] .done)))))
abbrev Pq19z : Plan := (V.tk [0,1,2,3,4,5,8,9,10,11,12,13] (.ev (.cons 6 [13,12,11,10,9,8,1,0] (.ev (.cons 7 [13,12,11,10,9,8] (V.e1 14 [9,8] (V.e1 15 [] (V.tk [16,17] .done))) (.cons 14 [9,8,1,0] (V.e1 7 [9,8] (V.e1 15 [] (V.tk [16,17] .done))) .nil))) (.cons 14 [9,8,5,4,3,2,1,0] (V.e1 6 [9,8,1,0] (V.e1 7 [9,8] (V.e1 15 [] (V.tk [16,17] .done)))) .nil))))
abbrev Pq20z : Plan := (V.tk [0,1,2,3,4,5] (V.e1 6 [1,0] (V.e1 7 [1,0] (V.e1 8 [] (V.tk [9] (V.e1 10 [] .done))))))
abbrev Pq21z : Plan := (V.tk [0,1,2,3,4,5] (V.e1 6 [1,0] (V.e1 7 [] (V.e1 8 [] .done))))
abbrev Pq22z : Plan := (V.tk [0,1,2,3,4,5] (V.e1 6 [4,3,2,1,0] (V.e1 7 [0] (V.tk [8,9] (V.e1 10 [] .done)))))
abbrev Pq27z : Plan := (V.tk [0,1,2,3,4] (V.e1 5 [1,0] (V.e1 6 [1,0] (V.e1 7 [] (V.tk [8] (V.e1 9 [] .done))))))
abbrev Pq33z : Plan := (V.tk [0,1,2,3,5,6] (V.e1 4 [6,5] (V.e1 7 [] (V.e1 8 [] .done))))
abbrev Pq38z : Plan := (V.tk [0,1,2,3] (V.e1 4 [] (V.tk [5,6] (V.e1 7 [] (V.tk [8] .done)))))
abbrev Pq44z : Plan := (V.tk [0,1,3,4] (.ev (.cons 2 [4,3] (.ev (.cons 5 [] (.ev (.cons 6 [] (V.e1 7 [] (V.e1 8 [] (V.e1 9 [] .done))) (.cons 7 [] (V.e1 6 [] (V.e1 8 [] (V.e1 9 [] .done))) .nil))) (.cons 6 [4,3] (.ev (.cons 5 [] (V.e1 7 [] (V.e1 8 [] (V.e1 9 [] .done))) (.cons 7 [4,3] (V.e1 5 [] (V.e1 8 [] (V.e1 9 [] .done))) .nil))) (.cons 7 [4,3] (.ev (.cons 5 [] (V.e1 6 [] (V.e1 8 [] (V.e1 9 [] .done))) (.cons 6 [4,3] (V.e1 5 [] (V.e1 8 [] (V.e1 9 [] .done))) .nil))) .nil)))) (.cons 6 [4,3,1,0] (.ev (.cons 2 [4,3] (.ev (.cons 5 [] (V.e1 7 [] (V.e1 8 [] (V.e1 9 [] .done))) (.cons 7 [4,3] (V.e1 5 [] (V.e1 8 [] (V.e1 9 [] .done))) .nil))) (.cons 7 [4,3,1,0] (V.e1 2 [4,3] (V.e1 5 [] (V.e1 8 [] (V.e1 9 [] .done)))) .nil))) (.cons 7 [4,3,1,0] (.ev (.cons 2 [4,3] (.ev (.cons 5 [] (V.e1 6 [] (V.e1 8 [] (V.e1 9 [] .done))) (.cons 6 [4,3] (V.e1 5 [] (V.e1 8 [] (V.e1 9 [] .done))) .nil))) (.cons 6 [4,3,1,0] (V.e1 2 [4,3] (V.e1 5 [] (V.e1 8 [] (V.e1 9 [] .done)))) .nil))) .nil)))))
abbrev Pq49z : Plan := (V.tk [0,1] (V.e1 2 [0] (V.e1 3 [] (V.e1 4 [] .done))))
abbrev Pq50z : Plan := (V.tk [0,1] (V.e1 2 [1] (V.e1 3 [] .done)))
abbrev Pq52z : Plan := (V.tk [0,2] (V.e1 1 [2] (V.e1 3 [] (V.e1 4 [] (V.e1 5 [] (V.tk [6,7] (V.e1 8 [] (V.tk [9] .done))))))))
abbrev Pq55z : Plan := (V.tk [0,2] (V.e1 1 [2] (V.e1 3 [] (V.e1 4 [] (V.tk [5] .done)))))
end Go.Proofs.YtpkdedncgclblaaGreatDoor
section
namespace Go.Nb
open Go
def val (B:Nat):List Int→Int
 | []=>0
 | x::r=>x+B*val B r
def Dg (B:Nat)(l:List Int):Prop := ∀ x∈l,0≤x∧x<B
def mgF (B:Nat):Nat→Nat→List Int
 | 0,_=>[]
 | f+1,n=>if n=0 then [] else ((n%B:Nat):Int)::mgF B f (n/B)
def mg (B n:Nat):List Int:=mgF B n n
theorem mgF_le {B : Nat} (hB : 2 ≤ B) : ∀ (f n : Nat), n ≤ f → mgF B f n = mgF B n n := by
  have key : ∀ (f g n : Nat), n ≤ f → n ≤ g → mgF B f n = mgF B g n := by
    intro f
    induction f with
    | zero => intro g n h1 h2; obtain rfl : n = 0 := by omega
              cases g <;> simp [mgF]
    | succ f ih =>
      intro g n h1 h2
      cases g with
      | zero => obtain rfl : n = 0 := by omega
                simp [mgF]
      | succ g =>
        simp only [mgF]
        by_cases h0 : n = 0
        · simp [h0]
        · rw [if_neg h0, if_neg h0]
          have : n / B < n := Nat.div_lt_self (by omega) (by omega)
          rw [ih g (n / B) (by omega) (by omega)]
  exact fun f n h => key f n n h (jiB _)
theorem jcE (B:Nat):mg B 0=[]:=rfl
theorem jcr {B n:Nat}(hB:2≤B)(hn:0<n):mg B n=((n%B:Nat):Int)::mg B (n/B):=by
 obtain⟨m,rfl⟩:∃ m,n=m+1:=⟨n-1,by omega⟩
 have:(m+1)/B<m+1:=Nat.div_lt_self (by omega) (by omega)
 conv=>lhs;unfold mg mgF
 rw[if_neg (by omega),mgF_le hB m _ (by omega)]
 rfl
theorem mg_ind {B:Nat}(hB:2≤B){p:Nat→Prop}(h0:p 0)(h1:∀ n,0<n→p (n/B)→p n)(n:Nat):p n:=by
 induction n using Nat.strongRecOn with
 | _ n ih=>
  by_cases hn:n=0
  ·rw[hn];exact h0
  ·exact h1 n (by omega) (ih _ (Nat.div_lt_self (by omega) (by omega)))
theorem mg_dg {B:Nat}(hB:2≤B)(n:Nat):Dg B (mg B n):=by
 refine mg_ind hB (p:=fun n=>Dg B (mg B n)) (by intro x hx;simp[jcE] at hx) (fun n hn ih x hx=>?_) n
 rw[jcr hB hn] at hx
 rcases ji5.1 hx with rfl|hx
 ·have:=jiF n (by omega:B>0)
  omega
 ·exact ih x hx
theorem jay {B:Nat}(hB:2≤B)(n:Nat):val B (mg B n)=n:=by
 refine mg_ind hB (p:=fun n=>val B (mg B n)=n) rfl (fun n hn ih=>?_) n
 rw[jcr hB hn]
 simp only[val,ih]
 have:=Nat.mod_add_div n B
 rw[← jiL]
 omega
theorem jce {B n:Nat}(hB:2≤B):mg B n=[]↔n=0:=by
 constructor
 ·intro h
  have:=jay hB n
  rw[h] at this
  simp[val] at this
  omega
 ·intro h;rw[h];rfl
theorem jak {B:Nat}{l:List Int}(h:Dg B l):0≤val B l:=by
 induction l with
 | nil=>simp[val]
 | cons x r ih=>
  have h1:=h x (by simp)
  have h2:=ih fun y hy=>h y (by simp[hy])
  have h3:0≤(B:Int)*val B r:=jiw (by omega) h2
  simp only[val]
  omega
theorem jbV (B:Nat)(l r:List Int):val B (l++r)=val B l+(B:Int)^l.length*val B r:=by
 induction l with
 | nil=>simp[val]
 | cons x l ih=>
  simp only[ji1,val,jji,ih,Int.pow_succ]
  rw[jiM,← Int.add_assoc,jiN ((B:Int)^l.length) (B:Int),jiO]
theorem jcm {B:Nat}{l:List Int}(h:Dg B l):val B l<(B:Int)^l.length:=by
 induction l with
 | nil=>simp[val]
 | cons x r ih=>
  have h1:=h x (by simp)
  have h2:=ih fun y hy=>h y (by simp[hy])
  simp only[val,jji,Int.pow_succ]
  have h3:(B:Int)*(val B r+1)≤(B:Int)*(B:Int)^r.length:=jiP h2 (by omega)
  rw[jiM,Int.mul_one] at h3
  rw[jiN ((B:Int)^r.length)]
  omega
theorem jag {B:Nat}{l r:List Int}(h1:Dg B l)(h2:Dg B r):Dg B (l++r):=fun x hx=>by
 rcases jjh.1 hx with h|h
 ·exact h1 x h
 ·exact h2 x h
theorem jbq {B:Nat}{l:List Int}(h:Dg B l)(k:Nat):Dg B (l.take k):=fun x hx=>h x (jjf hx)
theorem jbx {B:Nat}{l:List Int}(h:Dg B l)(k:Nat):Dg B (l.drop k):=fun x hx=>h x (jje hx)
theorem jar {B:Nat}{x:Int}(h:0≤x∧x<B):Dg B [x]:=fun y hy=>by simp at hy;subst hy;exact h
theorem jch {B:Nat}(hB:1≤B)(k:Nat):Dg B (List.replicate k 0):=fun y hy=>by
 rw[List.eq_of_mem_replicate hy];omega
theorem jez (B k:Nat):val B (List.replicate k 0)=0:=by
 induction k with
 | zero=>rfl
 | succ k ih=>simp[List.replicate_succ,val,ih]
theorem jaV (B:Nat)(l:List Int)(x:Int):val B (l++[x])=val B l+(B:Int)^l.length*x:=by
 rw[jbV];simp[val]
theorem jdn {B:Nat}{l:List Int}{k:Nat}{x:Int}(h:l[k]? = some x):val B (l.take (k+1))=val B (l.take k)+(B:Int)^k*x:=by
 have hk:=(jjd.1 h).1
 rw[List.take_add_one,h]
 have:(l.take k).length=k:=by rw[ji9];omega
 rw[show (some x).toList=[x] from rfl,jaV,this]
theorem jb2 (B:Nat)(l:List Int)(k:Nat)(hk:k≤l.length):val B l=val B (l.take k)+(B:Int)^k*val B (l.drop k):=by
 conv=>lhs;rw[← jjb k l]
 rw[jbV,ji9,jix hk]
theorem mg_of {B:Nat}(hB:2≤B):∀ {l:List Int},Dg B l→(∀ x,l.getLast? = some x→x≠0)→l=mg B (val B l).toNat
 | [],_,_=>rfl
 | x::r,hd,hl=>by
  have hx:=hd x (by simp)
  have hr:Dg B r:=fun y hy=>hd y (by simp[hy])
  have h0:=jak hr
  have hlr:∀ y,r.getLast? = some y→y≠0:=fun y hy=>hl y (by
   cases r with
   | nil=>simp at hy
   | cons a s=>rw[List.getLast?_cons_cons];exact hy)
  have ih:=mg_of hB hr hlr
  have hpos:0<val B (x::r):=by
   simp only[val]
   cases r with
   | nil=>
    have:=hl x (by simp)
    simp[val]
    omega
   | cons a s=>
    have hne:(val B (a::s)).toNat≠0:=fun e=>by
     rw[e,jcE] at ih
     cases ih
    have h1:1≤val B (a::s):=by omega
    have h2:(B:Int)*1≤(B:Int)*val B (a::s):=jiP h1 (by omega)
    omega
  rw[jcr hB (by omega)]
  obtain⟨v,hv⟩:∃ v:Nat,val B r=v:=⟨(val B r).toNat,by omega⟩
  obtain⟨y,rfl⟩:∃ y:Nat,x=y:=⟨x.toNat,by omega⟩
  have e:(val B ((y:Int)::r)).toNat=y+B*v:=by
   simp only[val,hv]
   rw[← jiL,← Int.natCast_add,jiA]
  have hy:y<B:=by omega
  rw[e,Nat.add_mul_mod_self_left,Nat.mod_eq_of_lt hy,Nat.add_mul_div_left _ _ (by omega:0<B),Nat.div_eq_of_lt hy,jiy]
  rw[hv,jiA] at ih
  rw[← ih]
theorem jdZ {B n:Nat}(hB:2≤B):∀ x,(mg B n).getLast? = some x→x≠0:=by
 refine mg_ind hB (p:=fun n => ∀ x,(mg B n).getLast? = some x→x≠0) (fun x h=>by simp[jcE] at h) (fun n hn ih x h=>?_) n
 rw[jcr hB hn] at h
 by_cases hd:n/B=0
 ·rw[hd,jcE] at h
  simp at h
  have:=Nat.mod_add_div n B
  rw[hd] at this
  omega
 ·rw[jcr hB (Nat.pos_of_ne_zero hd),List.getLast?_cons_cons] at h
  rw[jcr hB (Nat.pos_of_ne_zero hd)] at ih
  exact ih x h
theorem jap {B n k : Nat} (hB : 2 ≤ B) (h : n < B ^ k) : (mg B n).length ≤ k := by
  induction k generalizing n with
  | zero => obtain rfl : n = 0 := by simp at h; omega
            simp [jcE]
  | succ k ih =>
    by_cases hn : n = 0
    · rw [hn, jcE]; simp
    · rw [jcr hB (by omega), jji]
      have : n / B < B ^ k := Nat.div_lt_of_lt_mul (by rw [Nat.pow_succ, Nat.mul_comm] at h; exact h)
      have := ih this
      omega
theorem jaE {B n:Nat}(hB:2≤B):n<B^(mg B n).length:=by
 have h1:=jcm (mg_dg hB n)
 rw[jay hB] at h1
 have e:((B:Int)^(mg B n).length)=((B^(mg B n).length:Nat):Int):=by simp
 rw[e] at h1
 omega
theorem jae {B m n:Nat}(hB:2≤B)(h:m≤n):(mg B m).length≤(mg B n).length:=
 jap hB (Nat.lt_of_le_of_lt h (jaE hB))
theorem jcS {B n:Nat}(hB:2≤B)(hn:0<n):B^((mg B n).length-1)≤n:=by
 rcases jiI n (B^((mg B n).length-1)) with h|h
 ·have h1:=jap hB h
  have h2:(mg B n)≠[]:=fun e=>by rw[jce hB] at e;omega
  have:=List.length_pos_iff.2 h2
  omega
 ·exact h
def decF:Nat→Nat→List UInt8
 | 0,_=>[]
 | f+1,n=>if n<10 then [UInt8.ofNat (48+n)] else decF f (n/10)++[UInt8.ofNat (48+n%10)]
def dec (n:Nat):List UInt8:=decF (n+1) n
theorem decF_le:∀ (f g n:Nat),n<f→n<g→decF f n=decF g n:=by
 intro f
 induction f with
 | zero=>intro g n h1;omega
 | succ f ih=>
  intro g n h1 h2
  cases g with
  | zero=>omega
  | succ g=>
   simp only[decF]
   by_cases h0:n<10
   ·simp[h0]
   ·rw[if_neg h0,if_neg h0,ih g (n/10) (by omega) (by omega)]
theorem jbc {n:Nat}(h:n<10):dec n=[UInt8.ofNat (48+n)]:=by simp[dec,decF,h]
theorem jcl {n:Nat}(h:10≤n):dec n=dec (n/10)++[UInt8.ofNat (48+n%10)]:=by
 conv=>lhs;unfold dec decF
 rw[if_neg (by omega),decF_le n (n/10+1) (n/10) (by omega) (by omega)]
 rfl
def decZ (z:Int):List UInt8:=if z<0 then 45::dec z.natAbs else dec z.natAbs
def pad:Nat→Nat→List UInt8
 | 0,_=>[]
 | k+1,n=>pad k (n/10)++[UInt8.ofNat (48+n%10)]
theorem jdV (k n:Nat):(pad k n).length=k:=by
 induction k generalizing n with
 | zero=>rfl
 | succ k ih=>simp[pad,ih]
theorem jh1 {a:Nat}(ha:0<a):∀ (k b:Nat),b<10^k→dec (a*10^k+b)=dec a++pad k b
 | 0,b,h=>by
  obtain rfl:b=0:=by simp at h;omega
  simp[pad]
 | k+1,b,h=>by
  have hb:b/10<10^k:=Nat.div_lt_of_lt_mul (by rw[Nat.pow_succ,Nat.mul_comm] at h;exact h)
  have e:a*10^(k+1)+b=(a*10^k)*10+b:=by rw[Nat.pow_succ,Nat.mul_assoc]
  have hp:1≤a*10^k:=Nat.mul_pos ha (Nat.pow_pos (by omega))
  have e1:(a*10^(k+1)+b)/10=a*10^k+b/10:=by omega
  have e2:(a*10^(k+1)+b)%10=b%10:=by omega
  rw[jcl (by omega),e1,e2,jh1 ha k _ hb,jja]
  rfl
theorem ja0:∀ (k b:Nat),0<k→b<10^k→(dec b).length≤k∧pad k b=List.replicate (k-(dec b).length) 48++dec b
 | 0,b,h,_=>by omega
 | k+1,b,_,h=>by
  by_cases hb:b<10
  ·rw[jbc hb]
   simp only[List.length_singleton,pad]
   refine⟨by omega,?_⟩
   have e0:b/10=0:=by omega
   have e1:b%10=b:=by omega
   have hz:∀ j,pad j 0=List.replicate j 48:=by
    intro j
    induction j with
    | zero=>rfl
    | succ j ih=>rw[pad,Nat.zero_div,ih,List.replicate_succ'];rfl
   rw[e0,e1,hz]
   rfl
  ·have h10:b/10<10^k:=Nat.div_lt_of_lt_mul (by rw[Nat.pow_succ,Nat.mul_comm] at h;exact h)
   have hk:0<k:=by
    rcases jiE k with e|e
    ·subst e;simp at h10;omega
    ·exact e
   obtain⟨h1,h2⟩:=ja0 k (b/10) hk h10
   rw[jcl (by omega),ji8,List.length_singleton]
   refine⟨by omega,?_⟩
   rw[pad,h2,jja]
   congr 2
   omega
def rdv (s:List UInt8):Nat:=s.foldl (fun v c=>v*10+(c.toNat-48)) 0
def isDig (c:UInt8):Bool:=decide (48≤c.toNat∧c.toNat≤57)
theorem rdv_foldl (s:List UInt8)(v:Nat):s.foldl (fun v c=>v*10+(c.toNat-48)) v=v*10^s.length+rdv s:=by
 induction s generalizing v with
 | nil=>simp[rdv]
 | cons c s ih=>
  simp only[List.foldl_cons,rdv,jji]
  rw[ih,ih (0*10+(c.toNat-48)),Nat.pow_succ,Nat.add_mul,Nat.zero_mul,jiy,Nat.mul_assoc,Nat.mul_comm 10]
  omega
theorem ja4 (s t:List UInt8):rdv (s++t)=rdv s*10^t.length+rdv t:=by
 conv=>lhs;unfold rdv
 rw[List.foldl_append,rdv_foldl]
 rfl
theorem jdc (c:UInt8):rdv [c]=c.toNat-48:=by simp[rdv]
theorem jcY {n:Nat}(h:n<10):(UInt8.ofNat (48+n)).toNat=48+n:=by
 rw[UInt8.toNat_ofNat']
 omega
theorem jhz (n:Nat):rdv (dec n)=n:=by
 induction n using Nat.strongRecOn with
 | _ n ih=>
  by_cases h:n<10
  ·rw[jbc h,jdc,jcY h];omega
  ·rw[jcl (by omega),ja4,jdc,jcY (by omega),ih _ (by omega)]
   simp
   omega
theorem jfd (n:Nat):∀ c∈dec n,isDig c=true:=by
 induction n using Nat.strongRecOn with
 | _ n ih=>
  intro c hc
  by_cases h:n<10
  ·rw[jbc h] at hc
   simp at hc
   subst hc
   simp[isDig,jcY h]
   omega
  ·rw[jcl (by omega)] at hc
   rcases jjh.1 hc with hc|hc
   ·exact ih _ (by omega) c hc
   ·simp at hc
    subst hc
    have:=jcY (n:=n%10) (by omega)
    simp[isDig,this]
    omega
theorem jbd (n:Nat):0<(dec n).length:=by
 by_cases h:n<10
 ·rw[jbc h];simp
 ·rw[jcl (by omega)];simp
theorem jeF {s:List UInt8}(h:∀ c∈s,isDig c=true):rdv s<10^s.length:=by
 induction s with
 | nil=>simp[rdv]
 | cons c s ih=>
  have h1:=h c (by simp)
  have h2:=ih fun x hx=>h x (by simp[hx])
  simp[isDig] at h1
  have e:rdv (c::s)=(c.toNat-48)*10^s.length+rdv s:=by
   have:=ja4 [c] s
   rw[jdc] at this
   exact this
  rw[e,jji,Nat.pow_succ]
  have h3:(c.toNat-48)*10^s.length≤9*10^s.length:=jiD _ (by omega)
  omega
end Go.Nb
end
section
namespace Go.Proofs.YtpkdedncgclblaaGreatDoor
open Go Go.V Go.Nb
theorem jaL {P:Program}{f:Nat}{fn:Func}{c:Code}{ds:List D}{r:D}(hf:P.funcs[f]? = some fn)(hn:(fn.name == "runtime.NumGoroutine")=false)(hb:fn.body=some c)(hr:r.pure=true)
  (h:∀ (w:World) (hp:Pub) (vs:List Value),Agree hp w→DenL Env.dummy hp ds vs→Calls P f vs.toArray w fun e w'=>(∃ v,e = .returned v ∧ ∀ hp,Den Env.dummy hp r v)∧RowKit.Below w.heap.size w w'):Called P f ds r:=
 ⟨jaw hf hn hb,fun hp w vs ha hd=>(h w hp vs ha hd).mono fun e w' ⟨⟨v,e1,e2⟩,e3⟩=>⟨v,hp,e1,e2 hp,ha.of_blocks fun b ⟨o,v,hv⟩=>e3.block b (ha.lt hv),Pub.Le.refl _,e3,fun _ _ _=>rfl⟩⟩
theorem jdL (n:Nat):Go.Lib.decDigits n=dec n:=by
 induction n using Nat.strongRecOn with
 | _ n ih=>
  rw[Go.Lib.decDigits]
  by_cases h:n<10
  ·rw[dif_pos h,jbc h]
  ·rw[dif_neg h,jcl (by omega),ih (n/10) (by omega)]
theorem itoa_decZ (n:Int):Go.Lib.itoa n=decZ n:=by
 unfold Go.Lib.itoa decZ
 split
 ·rw[jdL]
 ·rw[jdL]
  congr 1
  omega
theorem jfc (n:Nat)(k:Nat)(h:n<10^k)(hk:0<k):(dec n).length≤k:=(ja0 k n hk h).1
theorem itoa_c (n:Int):Cl 217 [.int .i64 n] (.str (decZ n)):=by
 refine jaL Tryz.func217 rfl rfl rfl fun w hp vs ha hd=>?_
 simp only[DenL,Den] at hd
 obtain⟨v,_,rfl,⟨rfl,h1⟩,rfl⟩:=hd
 have ht:Go.Lib.TabIs Tryz.prog w "internal/strconv.uint64pow10" .u64 Go.Lib.pow10Tab:=by
  obtain⟨_,T,f,h2⟩:=ha.blk.1 2 _ (by unfold glb;first|exact List.mem_cons_of_mem _ (List.mem_cons_self ..)|exact List.mem_cons_self ..)
  unfold Go.Lib.TabIs World.var?
  rw[show Tryz.prog.globalNamed "internal/strconv.uint64pow10" = some 2 by kernel_rfl]
  simp only[Option.bind_some,h2]
  rfl
 obtain⟨h3,h4⟩:=h1
 refine(Tryz.strconv_Itoa n h3 h4 w ht).mono fun e w' ⟨he,k,os,hw⟩=>⟨⟨_,he,fun hp=>?_⟩,?_⟩
 ·rw[itoa_decZ]
  simp only[Den]
  refine⟨trivial,?_⟩
  simp only[V.lo,V.hi] at h3 h4
  have hl:=jfc n.natAbs 20 (by omega) (by omega)
  unfold decZ
  split
  ·rw[jji];omega
  ·omega
 ·rw[hw]
  exact Go.Lib.below_grow _ _ (jiB _) _ _
theorem jfe (s p:List UInt8):Cl 208 [.str s,.str p] (.tup [.str (Go.Lib.trimPrefix s p),.bool (Go.Lib.hasPrefix s p)]):=by
 refine jaL Tryz.func208 rfl rfl rfl fun w hp vs ha hd=>?_
 simp only[DenL,Den] at hd
 obtain⟨v,_,rfl,⟨rfl,h1⟩,v2,_,rfl,⟨rfl,h2⟩,rfl⟩:=hd
 refine(Tryz.strings_CutPrefix ⟨s.toArray⟩ ⟨p.toArray⟩ w).mono fun e w' ⟨he,hw⟩=>⟨⟨_,he,fun hp=>?_⟩,?_⟩
 ·simp only[Den,DenL]
  refine⟨_,rfl,_,_,rfl,⟨rfl,?_⟩,_,_,rfl,rfl,rfl⟩
  unfold Go.Lib.trimPrefix
  split
  ·rw[jjo];omega
  ·exact h1
 ·rw[hw];exact RowKit.Below.refl _ _
end Go.Proofs.YtpkdedncgclblaaGreatDoor
end
section
namespace Go.Proofs.YtpkdedncgclblaaGreatDoor
open Go Go.V Go.Nb Go.RowKit Go.Proofs
set_option maxHeartbeats 4000000
set_option maxRecDepth 1000000
theorem jfi {P:Program}{f:Nat}{ds:List D}{r:D}(c:Called P f ds r)(w:World)(hg:GlW w){vs:List Value}(hd:DenL Env.dummy (pubOf w) ds vs) :
  Calls P f vs.toArray w fun e w' => ∃ v h',e = .returned v∧Den Env.dummy h' r v∧RowKit.Below w.heap.size w w':=by
 refine(c.call (pubOf w) w vs (jfn w hg) hd).mono fun e w' ⟨v,h',he,hv,_,_,hb,_⟩=>⟨v,h',he,hv,hb⟩
theorem jg7 {B:Nat}{w w':World}(h:GlW w)(hb:RowKit.Below B w w')(hlt:GlLt B):GlW w':=⟨fun g vs hg=>by
 obtain⟨h1,T,f,h2⟩:=h.1 g vs hg
 exact⟨h1,T,f,by rw[hb.block g (hlt.1 g vs hg)];exact h2⟩,fun g hg=>by
 obtain⟨tp,p,T,f,h2⟩:=h.2 g hg
 exact⟨tp,p,T,f,by rw[hb.block g (hlt.2 g hg)];exact h2⟩⟩
theorem glLt {w:World}(h:GlW w):GlLt w.heap.size:=⟨fun g vs hg=>by
 obtain⟨_,T,f,h2⟩:=h.1 g vs hg
 exact(Array.getElem?_eq_some_iff.1 h2).1,fun g hg=>by
 obtain⟨_,_,T,f,h2⟩:=h.2 g hg
 exact(Array.getElem?_eq_some_iff.1 h2).1⟩
theorem itoa_k (n:Int)(h:InR .i64 n)(w:World)(hg:GlW w):Calls Tryz.prog 217 #[.int .i64 n] w fun e w'=>e = .returned (.string ⟨(decZ n).toArray⟩)∧RowKit.Below w.heap.size w w':=by
 refine(jfi (itoa_c n) w hg (vs:=[.int .i64 n]) ?_).mono ?_
 ·simp only[DenL,Den];exact⟨_,_,rfl,⟨rfl,h⟩,rfl⟩
 ·rintro e w' ⟨v,h',rfl,hv,hb⟩
  simp only[Den] at hv
  rw[hv.1]
  exact⟨rfl,hb⟩
theorem isB_below {T e B b:Nat}{bs:List Value}{w w':World}(h:Lib.IsBuilderF T e B b bs w)(hb:RowKit.Below w.heap.size w w'):Lib.IsBuilderF T e B b bs w':=by
 have key:∀ p,Lib.BuilderAtF T e B b p bs w→Lib.BuilderAtF T e B b p bs w':=by
  rintro p ⟨h1,v,h2,⟨h3,h4⟩,h5⟩
  refine⟨h1,v,by rw[hb.block b (Array.getElem?_eq_some_iff.1 h2).1];exact h2,⟨h3,?_⟩,h5⟩
  rcases h4 with h4|⟨g,cap,cur,fz,g1,g2,g3,g4⟩
  ·exact .inl h4
  ·exact .inr ⟨g,cap,cur,fz,g1,g2,by rw[hb.block g (Array.getElem?_eq_some_iff.1 g3).1];exact g3,g4⟩
 exact h.elim (fun x => .inl (key _ x)) (fun x => .inr (key _ x))
theorem jgz (k:Nat)(bs:List UInt8):Lib.byteCells (bs++List.replicate (k+1) 48)=Lib.byteCells (bs++List.replicate k 48)++[.int .u8 48]:=by
 rw[List.replicate_succ',← jja,Lib.byteCells_append];rfl
theorem jgG (l:List UInt8):Lib.strCells ⟨l.toArray⟩=Lib.byteCells l:=by
 simp[Lib.strCells,Lib.byteCells]
theorem put_k (B b:Nat)(bs:List UInt8)(g:Nat)(k:Int)(w:World)(hgl:GlW w)(hlt:GlLt B)(hB:B≤w.heap.size)(h:Lib.IsBuilderF 279 5 B b (Lib.byteCells bs) w)(hg:g<1000000000)(hk:0≤k∧k≤9)(hl:bs.length≤1000000000000) :
  Calls Tryz.prog 246 #[.int .u32 g,.int .i64 k,.pointer (some ⟨b,0,none⟩)] w fun e w'=>e = .returned (.tuple #[])∧Lib.IsBuilderF 279 5 B b (Lib.byteCells (bs++List.replicate (k.toNat-(dec g).length) 48++dec g)) w'∧RowKit.Below B w w':=by
 go_enter Tryz.func246,Tryz.ntmps246
 go_wp2_with (go_at_call 217;refine(itoa_k (g:Int) ⟨by simp only[lo];omega,by simp only[hi];omega⟩ _ hgl).mono ?_)
 rintro e w1 ⟨rfl,hb1⟩
 have hdz:decZ (g:Int)=dec g:=by unfold decZ;rw[if_neg (by omega),jiQ]
 rw[hdz]
 have hdl:=jfc g 9 (by omega) (by omega)
 have h1:=isB_below h hb1
 have hs1:=hb1.size
 have hb1':=hb1.mono hB
 have hsz:(⟨(dec g).toArray⟩:ByteArray).size=(dec g).length:=by simp[ByteArray.size]
 go_wp2
 clear hdz
 go_loopw [13] (fun i wr => ∃ n:Nat,n≤k.toNat-(dec g).length∧i = .int .i64 n∧Lib.IsBuilderF 279 5 B b (Lib.byteCells (bs++List.replicate n 48)) wr∧RowKit.Below B w1 wr) (fun i _=>k.toNat-(dec g).length-(intOf i).toNat)
 case atStart=>exact⟨0,jit _,rfl,by simpa using h1,Below.refl _ _⟩
 case round=>
  obtain⟨n,hn,rfl,hI,hbr⟩:=hrel
  have hsr:=hbr.size
  have hlen:(Lib.byteCells (bs++List.replicate n 48)).length≤1000000000100:=by rw[Lib.byteCells_length];simp;omega
  by_cases hlt2:(n:Int)<k-((dec g).length:Int)
  ·go_wp2_with (go_at_call 247;refine(jhk B b _ 48 _ hI (by omega) (by omega)).mono ?_)
   rintro e W1 ⟨rfl,h2,b2,_⟩
   rw[← jgz] at h2
   go_wp2
   go_roundw
   case rel=>exact⟨n+1,by omega,by go_num,Or.inr (by assumption),hbr.trans b2⟩
   case measure=>simp[intOf];omega
  ·have hne:n=k.toNat-(dec g).length:=by omega
   go_wp2_with (go_at_call 248;refine(jfV B b _ _ _ hI (by omega) (by omega)).mono ?_)
   rintro e W1 rfl h2 b2 -
   rw[jgG,← Lib.byteCells_append] at h2
   go_wp2
   go_end0
   exact⟨rfl,Or.inr h2,(hb1'.trans hbr).trans b2⟩
end Go.Proofs.YtpkdedncgclblaaGreatDoor
end
section
namespace Go.Proofs.YtpkdedncgclblaaGreatDoor
open Go Go.V Go.Nb
theorem jcy {B:Nat}{xs:List Int}{k:Nat}(h:xs[k]? = some 0):val B (xs.take (k+1))=val B (xs.take k):=by
 rw[jdn h];simp
theorem jho {B:Nat}(hB:2≤B){xs:List Int}{k:Nat}(hd:Dg B xs)(hv:val B (xs.take k)=val B xs)(hk:k≤xs.length)(h:k=0 ∨ ∃ x,xs[k-1]? = some x∧x≠0):xs.take k=mg B (val B xs).toNat:=by
 rw[← hv]
 refine mg_of hB (jbq hd k) fun y hy=>?_
 rcases h with rfl|⟨x,h1,h2⟩
 ·simp at hy
 ·have hk0:0<k:=by
   rcases jiE k with e|e
   ·subst e;simp at hy
   ·exact e
  have hlen:(xs.take k).length=k:=by rw[ji9];omega
  rw[List.getLast?_eq_getElem?,hlen,List.getElem?_take_of_lt (by omega),h1] at hy
  cases hy
  exact h2
theorem cut_c (xs:List Int)(hd:Dg 10000 xs)(hl:xs.length≤281474976710656):Cl 205 [.ints .i64 xs] (.ints .i64 (mg 10000 (val 10000 xs).toNat)):=by
 refine V.en tbOk Tryz.func205 ?_
 (conv=>whnf)
 refine V.st ?_
 refine jaf (xs.length) (fun k=>k≤xs.length∧val 10000 (xs.take k)=val 10000 xs) (fun k=>k) (fun k=>[(3,.int .i64 k)]) (fun k=>[]) ?_ ?_ ?_
 ·exact V.wk
 ·exact⟨jiB _,by rw[jjs]⟩
 intro k hk
 (conv=>whnf)
 refine V.st ?_
 refine V.br (fun hq=>?_) (fun hq=>?_)
 ·rw[jir,decide_eq_true_eq,decide_eq_true_eq] at hq
  have hk0:0<k:=by omega
  obtain⟨j,rfl⟩:∃ j,k=j+1:=⟨k-1,by omega⟩
  obtain⟨x,hx,ex⟩:=getxn (xs:=xs) (k:=j) (by omega)
  have e1:((((j+1:Nat):Int)-1).toNat)=j:=by omega
  have e2:(((j+1:Nat):Int)-1)=(j:Int):=by omega
  rw[e1,ex] at hq
  rw[hq.2] at hx
  refine V.r0 e2 ?_
  exact⟨j,⟨by omega,by rw[← hk.2,jcy hx]⟩,by omega,V.wk⟩
 ·have h3:k=0 ∨ ∃ x,xs[k-1]? = some x∧x≠0:=by
   rcases jiE k with e|e
   ·exact .inl e
   ·refine .inr ?_
    obtain⟨x,hx,ex⟩:=getxn (xs:=xs) (k:=(k-1)) (by omega)
    refine⟨x,hx,fun e0=>?_⟩
    have e1:(((k:Nat):Int)-1).toNat=k-1:=by omega
    rw[e1,ex,e0] at hq
    simp at hq
    omega
  refine V.r0 @jiA ?_
  exact Fin.of (by rw[jho (by omega) hd hk.2 hk.1 h3])
theorem jfv (xs:List Int)(hd:Dg 1000000000 xs)(hl:xs.length≤281474976710656):Cl 238 [.ints .u32 xs] (.ints .u32 (mg 1000000000 (val 1000000000 xs).toNat)):=by
 refine V.en tbOk Tryz.func238 ?_
 (conv=>whnf)
 refine V.st ?_
 refine jaf (xs.length) (fun k=>k≤xs.length∧val 1000000000 (xs.take k)=val 1000000000 xs) (fun k=>k) (fun k=>[(0,.ints .u32 (xs.take k))]) (fun k=>[]) ?_ ?_ ?_
 ·rw[jjs]
  exact V.wk
 ·exact⟨jiB _,by rw[jjs]⟩
 intro k hk
 have hlt:(xs.take k).length=k:=by rw[ji9];omega
 refine V.r0 hlt ?_
 refine V.br (fun hq=>?_) (fun hq=>?_)
 ·rw[jir,decide_eq_true_eq,decide_eq_true_eq] at hq
  have hk0:0<k:=by omega
  obtain⟨j,rfl⟩:∃ j,k=j+1:=⟨k-1,by omega⟩
  obtain⟨x,hx,ex⟩:=getxn (xs:=xs) (k:=j) (by omega)
  have e1:((((j+1:Nat):Int)-1).toNat)=j:=by omega
  have e2:(((j+1:Nat):Int)-1)=(j:Int):=by omega
  have e3:(xs.take (j+1)).getD j 0=x:=by
   rw[ji3,List.getElem?_take_of_lt (by omega),hx];rfl
  have e4:(xs.take (j+1)).take j=xs.take j:=by rw[List.take_take,jix (by omega)]
  rw[e1,e3] at hq
  rw[hq.2] at hx
  refine V.r0 (V.a4 e2 hlt @jiA e4) ?_
  exact⟨j,⟨by omega,by rw[← hk.2,jcy hx]⟩,by omega,V.wk⟩
 ·have h3:k=0 ∨ ∃ x,xs[k-1]? = some x∧x≠0:=by
   rcases jiE k with e|e
   ·exact .inl e
   ·refine .inr ?_
    obtain⟨x,hx,ex⟩:=getxn (xs:=xs) (k:=(k-1)) (by omega)
    refine⟨x,hx,fun e0=>?_⟩
    have e1:(((k:Nat):Int)-1).toNat=k-1:=by omega
    have e3:(xs.take k).getD (k-1) 0=x:=by
     rw[ji3,List.getElem?_take_of_lt (by omega),hx];rfl
    rw[e1,e3,e0] at hq
    simp at hq
    omega
  (conv=>whnf)
  refine V.st ?_
  exact Fin.of (by rw[jho (by omega) hd hk.2 hk.1 h3])
def plD (z:Int):D := .agg [.bool (decide (z<0)),.ints .i64 (mg 10000 z.natAbs)]
theorem jeS (b:Bool)(xs:List Int)(hd:Dg 10000 xs)(hl:xs.length≤281474976710656):Cl 147 [.bool b,.ints .i64 xs] (plD (if b then -(val 10000 xs) else val 10000 xs)):=by
 have hc:=cut_c xs hd hl
 have h0:=jak hd
 obtain⟨n,hn⟩:∃ n:Nat,val 10000 xs=n:=⟨(val 10000 xs).toNat,by omega⟩
 have hlen:((0:Int)<((mg 10000 n).length:Int))↔0<n:=by
  have:=jce (B:=10000) (n:=n) (by omega)
  rcases jiE n with e|e
  ·rw[e];simp[jcE]
  ·have h1:mg 10000 n≠[]:=fun h=>by have:=this.1 h;omega
   have:=List.length_pos_iff.2 h1
   constructor<;>intro<;>omega
 rw[hn] at hc ⊢
 rw[jiA] at hc
 refine V.en tbOk Tryz.func147 ?_
 (conv=>whnf)
 refine V.st ?_
 repeat ((try ((with_reducible refine .ext ?_);(conv=>whnf)));(with_reducible refine jaa (r:=?_) ?_ ?_);rotate_left;(focus (first|exact(hc)));(conv=>whnf);refine V.st ?_)
 refine Fin.of ?_
 cases b with
 | false=>
  have e1:decide ((n:Int)<0)=false:=by simp
  simp[plD,e1]
 | true=>
  have e1:decide (-(n:Int)<0)=decide (((mg 10000 n).length:Int)>0):=by
   apply decide_eq_decide.2
   constructor
   ·intro h;exact hlen.2 (by omega)
   ·intro h;have:=hlen.1 h;omega
  simp[plD]
  omega
theorem wtrim_c (xs:List Int)(hd:Dg 1000000000 xs)(hl:xs.length≤281474976710656):Cl 255 [.ints .u32 xs] (.ints .u32 (mg 1000000000 (val 1000000000 xs).toNat)):=by
 refine V.en tbOk Tryz.func255 ?_
 (conv=>whnf)
 refine V.st ?_
 refine jaf (xs.length) (fun k=>k≤xs.length∧val 1000000000 (xs.take k)=val 1000000000 xs) (fun k=>k) (fun k=>[(0,.ints .u32 (xs.take k))]) (fun k=>[]) ?_ ?_ ?_
 ·rw[jjs]
  exact V.wk
 ·exact⟨jiB _,by rw[jjs]⟩
 intro k hk
 have hlt:(xs.take k).length=k:=by rw[ji9];omega
 refine V.r0 hlt ?_
 refine V.br (fun hq=>?_) (fun hq=>?_)
 ·rw[jir,decide_eq_true_eq,decide_eq_true_eq] at hq
  have hk0:0<k:=by omega
  obtain⟨j,rfl⟩:∃ j,k=j+1:=⟨k-1,by omega⟩
  obtain⟨x,hx,ex⟩:=getxn (xs:=xs) (k:=j) (by omega)
  have e1:((((j+1:Nat):Int)-1).toNat)=j:=by omega
  have e2:(((j+1:Nat):Int)-1)=(j:Int):=by omega
  have e3:(xs.take (j+1)).getD j 0=x:=by
   rw[ji3,List.getElem?_take_of_lt (by omega),hx];rfl
  have e4:(xs.take (j+1)).take j=xs.take j:=by rw[List.take_take,jix (by omega)]
  rw[e1,e3] at hq
  rw[hq.2] at hx
  refine V.r0 (V.a4 e2 hlt @jiA e4) ?_
  exact⟨j,⟨by omega,by rw[← hk.2,jcy hx]⟩,by omega,V.wk⟩
 ·have h3:k=0 ∨ ∃ x,xs[k-1]? = some x∧x≠0:=by
   rcases jiE k with e|e
   ·exact .inl e
   ·refine .inr ?_
    obtain⟨x,hx,ex⟩:=getxn (xs:=xs) (k:=(k-1)) (by omega)
    refine⟨x,hx,fun e0=>?_⟩
    have e1:(((k:Nat):Int)-1).toNat=k-1:=by omega
    have e3:(xs.take k).getD (k-1) 0=x:=by
     rw[ji3,List.getElem?_take_of_lt (by omega),hx];rfl
    rw[e1,e3,e0] at hq
    simp at hq
    omega
  (conv=>whnf)
  refine V.st ?_
  exact Fin.of (by rw[jho (by omega) hd hk.2 hk.1 h3])
theorem rdv_snoc (s:List UInt8)(c:UInt8):rdv (s++[c])=rdv s*10+(c.toNat-48):=by
 rw[ja4,jdc];simp
theorem jc7 {s:List UInt8}{a i:Nat}(ha:a≤i)(hi:i<s.length):(s.take (i+1)).drop a=(s.take i).drop a++[s.getD i 0]:=by
 rw[List.take_add_one,ji6 hi,List.drop_append_of_le_length (by rw[ji9];omega)]
 simp[ji3,hi]
theorem jfx {s:List UInt8}{a e:Nat}(ha:a≤e)(he:e≤s.length):s.take e=s.take a++(s.take e).drop a:=by
 conv=>lhs;rw[← jjb a (s.take e)]
 rw[List.take_take,jix ha]
theorem gather_c (s:List UInt8)(hd:∀ c∈s,isDig c=true)(hl:s.length≤100000000):Cl 209 [.str s] (.ints .u32 (mg 1000000000 (rdv s))):=by
 refine V.en tbOk Tryz.func209 ?_
 (conv=>whnf)
 refine V.st ?_
 refine Lp.ghostSlot 32 3 .u32 (by decide) ?_
 (conv=>whnf)
 refine jaf ((s.length,[]):Nat×List Int) (fun t=>t.1≤s.length∧t.2.length*9+t.1=s.length∧Dg 1000000000 t.2∧val 1000000000 t.2+((1000000000:Nat):Int)^t.2.length*(rdv (s.take t.1):Nat)=(rdv s:Nat)) (fun t=>t.1)
  (fun t=>[(4,.int .i64 t.1),(3,.osl 32 0 t.2.length)]) (fun t=>[(32,.arr .u32 t.2)]) ?_ ?_ ?_
 ·exact V.wk
 ·exact⟨jiB _,by simp,fun x hx=>by simp at hx,by simp[val]⟩
 rintro⟨e,m⟩ ⟨h1,h2,h3,h4⟩
 dsimp only at h1 h2 h3 h4 ⊢
 have hmax:max ((e:Int)-9) 0=((e-9:Nat):Int):=by omega
 refine V.r0 hmax ?_
 have hdig:∀ i,i<s.length→48≤(s.getD i 0).toNat∧(s.getD i 0).toNat≤57:=fun i hi=>by
  have:=hd (s.getD i 0) (by rw[ji3,ji6 hi];exact ji7 _)
  simpa [isDig] using this
 have hsub:∀ i, ∀ c∈(s.take i).drop (e-9),isDig c=true:=fun i c hc=>hd c (jjf (jje hc))
 have hlt:∀ i k,i≤s.length→i-(e-9)≤k→rdv ((s.take i).drop (e-9))<10^k:=fun i k hi hk=>by
  have h5:=jeF (hsub i)
  rw[jjo,ji9,jix hi] at h5
  exact jiH h5 (jiR (by omega) hk)
 refine jaf (e-9:Nat) (fun i=>e-9≤i∧i≤e) (fun i=>e-i) (fun i=>[(7,.int .i64 i),(6,.int .u32 (rdv ((s.take i).drop (e-9)):Nat))]) (fun _=>[]) ?_ ?_ ?_
 ·rw[show (s.take (e-9)).drop (e-9)=[] from List.drop_of_length_le (by rw[ji9];omega),show ((rdv []:Nat):Int)=0 from rfl]
  exact V.wk
 ·exact⟨jiB _,by omega⟩
 intro i hi
 (conv=>whnf)
 refine V.st ?_
 refine V.br (fun hq=>?_) (fun hq=>?_)
 ·rw[decide_eq_true_eq] at hq
  have hdi:=hdig i (by omega)
  have hv:=rdv_snoc ((s.take i).drop (e-9)) (s.getD i 0)
  rw[← jc7 hi.1 (by omega)] at hv
  have hb:=hlt i 8 (by omega) (by omega)
  generalize hc:s.getD i 0=c at *
  have hv2:((rdv ((s.take i).drop (e-9)):Nat):Int)*10+((c.toNat:Int)-48)=((rdv ((s.take (i+1)).drop (e-9)):Nat):Int):=by omega
  have hkc:((i:Int)+1)=((i+1:Nat):Int):=by omega
  refine V.r0 (V.a4 @jiA hc hv2 hkc) ?_
  exact⟨i+1,by omega,by omega,V.wk⟩
 ·rw[decide_eq_false_iff_not] at hq
  obtain rfl:i=e:=by omega
  have hb:=hlt i 9 h1 (by omega)
  have hsp:=jfx (s:=s) (a:=i-9) (e:=i) (by omega) h1
  have hra:=ja4 (s.take (i-9)) ((s.take i).drop (i-9))
  rw[← hsp,jjo,ji9,jix h1] at hra
  generalize hv:rdv ((s.take i).drop (i-9))=v at *
  have hl2:(m++[(v:Int)]).length=m.length+1:=by simp
  have hl3:m.length+(List.take 1 (List.drop 0 [(v:Int)])).length=(m++[(v:Int)]).length:=by simp
  have hdg:Dg 1000000000 (m++[(v:Int)]):=jag h3 (jar (by omega))
  have hvs:=jaV 1000000000 m (v:Int)
  refine V.r0 hl3 ?_
  try refine And.intro (fun _=>⟨trivial,by omega⟩) ?_
  refine V.r0 hl3 ?_
  refine V.br (fun hq2=>?_) (fun hq2=>?_)
  ·rw[decide_eq_true_eq] at hq2
   have e0:i-9=0:=by omega
   rw[e0] at hra
   have hz:rdv (s.take i)=v:=by rw[hra];simp[rdv]
   have hval:val 1000000000 (m++[(v:Int)])=(rdv s:Nat):=by rw[hvs,← hz];exact h4
   have hc:=jfv (m++[(v:Int)]) hdg (by omega)
   rw[hval,jiA,← jjs (l:=m++[(v:Int)])] at hc
   (conv=>whnf)
   refine V.st ?_
   repeat ((try ((with_reducible refine .ext ?_);(conv=>whnf)));(with_reducible refine jaa (r:=?_) ?_ ?_);rotate_left;(focus (first|exact(hc)));(conv=>whnf);refine V.st ?_)
   exact Fin.of rfl
  ·rw[decide_eq_false_iff_not] at hq2
   have h9:10≤i:=by omega
   have ek:((i:Int)-9)=((i-9:Nat):Int):=by omega
   refine V.r0 ek ?_
   refine⟨(i-9,m++[(v:Int)]),⟨by dsimp only;omega,by dsimp only;omega,hdg,?_⟩,by dsimp only;omega,V.wk⟩
   dsimp only
   rw[hvs,hl2,Int.pow_succ,← h4,hra,show i-(i-9)=9 by omega,Int.natCast_add,jiL]
   generalize ((1000000000:Nat):Int)^m.length=P
   generalize (rdv (s.take (i-9)):Nat)=w
   have e1:((10^9:Nat):Int)=1000000000:=by decide
   rw[e1,jiM,jiO]
   rw[jiN (w:Int)]
   generalize (1000000000:Int)*(w:Int)=Q
   omega
theorem wgather_c (s:List UInt8)(hd:∀ c∈s,isDig c=true)(hl:s.length≤100000000):Cl 236 [.str s] (.ints .u32 (mg 1000000000 (rdv s))):=by
 refine V.en tbOk Tryz.func236 ?_
 (conv=>whnf)
 refine V.st ?_
 refine Lp.ghostSlot 32 3 .u32 (by decide) ?_
 (conv=>whnf)
 refine jaf ((s.length,[]):Nat×List Int) (fun t=>t.1≤s.length∧t.2.length*9+t.1=s.length∧Dg 1000000000 t.2∧val 1000000000 t.2+((1000000000:Nat):Int)^t.2.length*(rdv (s.take t.1):Nat)=(rdv s:Nat)) (fun t=>t.1)
  (fun t=>[(4,.int .i64 t.1),(3,.osl 32 0 t.2.length)]) (fun t=>[(32,.arr .u32 t.2)]) ?_ ?_ ?_
 ·exact V.wk
 ·exact⟨jiB _,by simp,fun x hx=>by simp at hx,by simp[val]⟩
 rintro⟨e,m⟩ ⟨h1,h2,h3,h4⟩
 dsimp only at h1 h2 h3 h4 ⊢
 have hmax:max ((e:Int)-9) 0=((e-9:Nat):Int):=by omega
 refine V.r0 hmax ?_
 have hdig:∀ i,i<s.length→48≤(s.getD i 0).toNat∧(s.getD i 0).toNat≤57:=fun i hi=>by
  have:=hd (s.getD i 0) (by rw[ji3,ji6 hi];exact ji7 _)
  simpa [isDig] using this
 have hsub:∀ i, ∀ c∈(s.take i).drop (e-9),isDig c=true:=fun i c hc=>hd c (jjf (jje hc))
 have hlt:∀ i k,i≤s.length→i-(e-9)≤k→rdv ((s.take i).drop (e-9))<10^k:=fun i k hi hk=>by
  have h5:=jeF (hsub i)
  rw[jjo,ji9,jix hi] at h5
  exact jiH h5 (jiR (by omega) hk)
 refine jaf (e-9:Nat) (fun i=>e-9≤i∧i≤e) (fun i=>e-i) (fun i=>[(7,.int .i64 i),(6,.int .u32 (rdv ((s.take i).drop (e-9)):Nat))]) (fun _=>[]) ?_ ?_ ?_
 ·rw[show (s.take (e-9)).drop (e-9)=[] from List.drop_of_length_le (by rw[ji9];omega),show ((rdv []:Nat):Int)=0 from rfl]
  exact V.wk
 ·exact⟨jiB _,by omega⟩
 intro i hi
 (conv=>whnf)
 refine V.st ?_
 refine V.br (fun hq=>?_) (fun hq=>?_)
 ·rw[decide_eq_true_eq] at hq
  have hdi:=hdig i (by omega)
  have hv:=rdv_snoc ((s.take i).drop (e-9)) (s.getD i 0)
  rw[← jc7 hi.1 (by omega)] at hv
  have hb:=hlt i 8 (by omega) (by omega)
  generalize hc:s.getD i 0=c at *
  have hv2:((rdv ((s.take i).drop (e-9)):Nat):Int)*10+((c.toNat:Int)-48)=((rdv ((s.take (i+1)).drop (e-9)):Nat):Int):=by omega
  have hkc:((i:Int)+1)=((i+1:Nat):Int):=by omega
  refine V.r0 (V.a4 @jiA hc hv2 hkc) ?_
  exact⟨i+1,by omega,by omega,V.wk⟩
 ·rw[decide_eq_false_iff_not] at hq
  obtain rfl:i=e:=by omega
  have hb:=hlt i 9 h1 (by omega)
  have hsp:=jfx (s:=s) (a:=i-9) (e:=i) (by omega) h1
  have hra:=ja4 (s.take (i-9)) ((s.take i).drop (i-9))
  rw[← hsp,jjo,ji9,jix h1] at hra
  generalize hv:rdv ((s.take i).drop (i-9))=v at *
  have hl2:(m++[(v:Int)]).length=m.length+1:=by simp
  have hl3:m.length+(List.take 1 (List.drop 0 [(v:Int)])).length=(m++[(v:Int)]).length:=by simp
  have hdg:Dg 1000000000 (m++[(v:Int)]):=jag h3 (jar (by omega))
  have hvs:=jaV 1000000000 m (v:Int)
  refine V.r0 hl3 ?_
  try refine And.intro (fun _=>⟨trivial,by omega⟩) ?_
  refine V.r0 hl3 ?_
  refine V.br (fun hq2=>?_) (fun hq2=>?_)
  ·rw[decide_eq_true_eq] at hq2
   have e0:i-9=0:=by omega
   rw[e0] at hra
   have hz:rdv (s.take i)=v:=by rw[hra];simp[rdv]
   have hval:val 1000000000 (m++[(v:Int)])=(rdv s:Nat):=by rw[hvs,← hz];exact h4
   have hc:=wtrim_c (m++[(v:Int)]) hdg (by omega)
   rw[hval,jiA,← jjs (l:=m++[(v:Int)])] at hc
   (conv=>whnf)
   refine V.st ?_
   repeat ((try ((with_reducible refine .ext ?_);(conv=>whnf)));(with_reducible refine jaa (r:=?_) ?_ ?_);rotate_left;(focus (first|exact(hc)));(conv=>whnf);refine V.st ?_)
   exact Fin.of rfl
  ·rw[decide_eq_false_iff_not] at hq2
   have h9:10≤i:=by omega
   have ek:((i:Int)-9)=((i-9:Nat):Int):=by omega
   refine V.r0 ek ?_
   refine⟨(i-9,m++[(v:Int)]),⟨by dsimp only;omega,by dsimp only;omega,hdg,?_⟩,by dsimp only;omega,V.wk⟩
   dsimp only
   rw[hvs,hl2,Int.pow_succ,← h4,hra,show i-(i-9)=9 by omega,Int.natCast_add,jiL]
   generalize ((1000000000:Nat):Int)^m.length=P
   generalize (rdv (s.take (i-9)):Nat)=w
   have e1:((10^9:Nat):Int)=1000000000:=by decide
   rw[e1,jiM,jiO]
   rw[jiN (w:Int)]
   generalize (1000000000:Int)*(w:Int)=Q
   omega
theorem turn_c (z:Int)(hz:(mg 10000 z.natAbs).length≤281474976710656):Cl 154 [plD z] (plD (-z)):=by
 have hv:=jay (B:=10000) (by omega) z.natAbs
 have hm:=jeS (!decide (z<0)) (mg 10000 z.natAbs) (mg_dg (by omega) _) hz
 have e:(if (!decide (z<0))=true then -(val 10000 (mg 10000 z.natAbs)) else val 10000 (mg 10000 z.natAbs)) = -z:=by
  rw[hv]
  by_cases h:z<0
  ·simp[h];omega
  ·simp[h];omega
 rw[e] at hm
 refine V.en tbOk Tryz.func154 ?_
 (conv=>whnf)
 refine V.st ?_
 repeat ((try ((with_reducible refine .ext ?_);(conv=>whnf)));(with_reducible refine jaa (r:=?_) ?_ ?_);rotate_left;(focus (first|exact(hm)));(conv=>whnf);refine V.st ?_)
 exact Fin.of rfl
theorem jet {B:Nat}{out:List Int}{q:Nat}{m:Int}(hB:2≤B)(h:val B out+(B:Int)^out.length*q=m):val B (out++[((q%B:Nat):Int)])+(B:Int)^(out++[((q%B:Nat):Int)]).length*((q/B:Nat):Int)=m:=by
 rw[jaV,ji8,List.length_singleton,Int.pow_succ,jiO,Int.add_assoc,← jiM,← jiL,← Int.natCast_add,Nat.mod_add_div]
 exact h
theorem jeV (n:Nat)(hn:n<10000^5):Cl 123 [.int .i64 n] (plD n):=by
 have hlen:=jap (B:=10000) (by omega) hn
 refine V.en tbOk Tryz.func123 ?_
 (conv=>whnf)
 refine V.st ?_
 refine Lp.ghostSlot 19 3 .i64 (by decide) ?_
 (conv=>whnf)
 refine jaf ((n,[]):Nat×List Int) (fun s=>val 10000 s.2+((10000:Nat):Int)^s.2.length*s.1=n∧Dg 10000 s.2∧s.1≤n∧s.2.length+(mg 10000 s.1).length=(mg 10000 n).length) (fun s=>s.1) (fun s=>[(0,.int .i64 s.1),(3,.osl 19 0 s.2.length)]) (fun s=>[(19,.arr .i64 s.2)]) ?_ ?_ ?_
 ·exact V.wk
 ·exact⟨by simp[val],fun x hx=>by simp at hx,jiB _,by simp⟩
 rintro⟨q,out⟩ ⟨h1,h2,h3,h4⟩
 dsimp only at h1 h2 h3 h4 ⊢
 (conv=>whnf)
 refine V.st ?_
 refine V.br (fun hq=>?_) (fun hq=>?_)
 ·rw[decide_eq_true_eq] at hq
  have hq0:0<q:=by omega
  have hmg:=jcr (B:=10000) (by omega) hq0
  have hst:=jet (B:=10000) (by omega) h1
  have hlt:q/10000<q:=Nat.div_lt_self hq0 (by omega)
  have hdg:Dg 10000 (out++[((q%10000:Nat):Int)]):=jag h2 (jar ⟨by omega,by have:=jiF q (by omega:10000>0);omega⟩)
  have e1:(q:Int)%10000=((q%10000:Nat):Int):=by omega
  have e2:(q:Int)/10000=((q/10000:Nat):Int):=by omega
  have hl2:(out++[((q%10000:Nat):Int)]).length=out.length+1:=by simp
  have hl3:out.length+(List.take 1 (List.drop 0 [((q%10000:Nat):Int)])).length=(out++[((q%10000:Nat):Int)]).length:=by simp
  rw[hmg,jji] at h4
  (conv=>whnf)
  (try simp only[e1,e2])
  repeat ((first|refine V.s1 ?_);(try simp only[e1,e2]))
  refine V.br (fun hneg=>?_) (fun hneg=>?_)
  ·exfalso
   rw[decide_eq_true_eq] at hneg
   omega
  (conv=>whnf)
  (try simp only[e1,e2,hl3])
  repeat ((first|refine V.s1 ?_);(try simp only[e1,e2,hl3]))
  try refine And.intro (fun _=>⟨trivial,by omega⟩) ?_
  (conv=>whnf)
  (try simp only[e1,e2,hl3])
  repeat ((first|refine V.s1 ?_);(try simp only[e1,e2,hl3]))
  exact⟨(q/10000,out++[((q%10000:Nat):Int)]),⟨hst,hdg,by dsimp only;omega,by dsimp only;omega⟩,hlt,V.wk⟩
 ·have hq0:q=0:=by simp at hq;exact hq
  subst hq0
  have hv:val 10000 out=(n:Int):=by simpa using h1
  have hm:=jeS false out h2 (by omega)
  rw[hv] at hm
  have e0:decide ((n:Int)<0)=false:=by simp
  refine V.r1 (V.a2 e0 @jjs) hm ?_
  exact Fin.of rfl
theorem jhI (n:Nat)(hn0:0<n)(hn:n<10000^5):Cl 123 [.int .i64 (-(n:Int))] (plD (-(n:Int))):=by
 have hlen:=jap (B:=10000) (by omega) hn
 have e00:decide (-(n:Int)<0)=true:=by simp;omega
 refine V.en tbOk Tryz.func123 ?_
 refine V.r0 e00 ?_
 refine Lp.ghostSlot 19 3 .i64 (by decide) ?_
 (conv=>whnf)
 refine jaf ((n,[]):Nat×List Int) (fun s=>val 10000 s.2+((10000:Nat):Int)^s.2.length*s.1=n∧Dg 10000 s.2∧s.1≤n∧s.2.length+(mg 10000 s.1).length=(mg 10000 n).length) (fun s=>s.1) (fun s=>[(0,.int .i64 (-(s.1:Int))),(3,.osl 19 0 s.2.length)]) (fun s=>[(19,.arr .i64 s.2)]) ?_ ?_ ?_
 ·exact V.wk
 ·exact⟨by simp[val],fun x hx=>by simp at hx,jiB _,by simp⟩
 rintro⟨q,out⟩ ⟨h1,h2,h3,h4⟩
 dsimp only at h1 h2 h3 h4 ⊢
 (conv=>whnf)
 refine V.st ?_
 refine V.br (fun hq=>?_) (fun hq=>?_)
 ·rw[decide_eq_true_eq] at hq
  have hq0:0<q:=by omega
  have hmg:=jcr (B:=10000) (by omega) hq0
  have hst:=jet (B:=10000) (by omega) h1
  have hlt:q/10000<q:=Nat.div_lt_self hq0 (by omega)
  have hdg:Dg 10000 (out++[((q%10000:Nat):Int)]):=jag h2 (jar ⟨by omega,by have:=jiF q (by omega:10000>0);omega⟩)
  have e1:(-(q:Int)).tmod 10000 = -((q%10000:Nat):Int):=by rw[Int.neg_tmod,Int.tmod_eq_emod_of_nonneg (by omega)];simp
  have e2:(-(q:Int)).tdiv 10000 = -((q/10000:Nat):Int):=by rw[Int.neg_tdiv,Int.tdiv_eq_ediv_of_nonneg (by omega)];simp
  have hl2:(out++[((q%10000:Nat):Int)]).length=out.length+1:=by simp
  have hl3:out.length+(List.take 1 (List.drop 0 [((q%10000:Nat):Int)])).length=(out++[((q%10000:Nat):Int)]).length:=by simp
  have hme:0≤((q%10000:Nat):Int)∧((q%10000:Nat):Int)<10000:=by have:=jiF q (by omega:10000>0);omega
  have hqe:0≤((q/10000:Nat):Int)∧((q/10000:Nat):Int)≤q:=by have:=jiS q 10000;omega
  rw[hmg,jji] at h4
  (conv=>whnf)
  (try simp only[e1])
  repeat ((first|refine V.s1 ?_);(try simp only[e1]))
  refine V.br (fun hneg=>?_) (fun hneg=>?_)
  ·rw[decide_eq_true_eq] at hneg
   have e3:0 - -((q%10000:Nat):Int)=((q%10000:Nat):Int):=by omega
   (conv=>whnf)
   (try simp only[e1,e2,e3,hl3])
   repeat ((first|refine V.s1 ?_);(try simp only[e1,e2,e3,hl3]))
   try refine And.intro (fun _=>⟨trivial,by omega⟩) ?_
   (conv=>whnf)
   (try simp only[e1,e2,e3,hl3])
   repeat ((first|refine V.s1 ?_);(try simp only[e1,e2,e3,hl3]))
   exact⟨(q/10000,out++[((q%10000:Nat):Int)]),⟨hst,hdg,by dsimp only;omega,by dsimp only;omega⟩,hlt,V.wk⟩
  ·rw[decide_eq_false_iff_not] at hneg
   have e3 : -((q%10000:Nat):Int)=((q%10000:Nat):Int):=by omega
   (conv=>whnf)
   (try simp only[e1,e2,e3,hl3])
   repeat ((first|refine V.s1 ?_);(try simp only[e1,e2,e3,hl3]))
   try refine And.intro (fun _=>⟨trivial,by omega⟩) ?_
   (conv=>whnf)
   (try simp only[e1,e2,e3,hl3])
   repeat ((first|refine V.s1 ?_);(try simp only[e1,e2,e3,hl3]))
   exact⟨(q/10000,out++[((q%10000:Nat):Int)]),⟨hst,hdg,by dsimp only;omega,by dsimp only;omega⟩,hlt,V.wk⟩
 ·have hq0:q=0:=by simp at hq;omega
  subst hq0
  have hv:val 10000 out=(n:Int):=by simpa using h1
  have hm:=jeS true out h2 (by omega)
  rw[hv] at hm
  refine V.r1 @jjs hm ?_
  exact Fin.of rfl
theorem jbo (z:Int)(h:InR .i64 z):Cl 123 [.int .i64 z] (plD z):=by
 simp only[V.InR,V.lo,V.hi] at h
 rcases Int.le_total 0 z with h0|h0
 ·obtain⟨n,rfl⟩:∃ n:Nat,z=n:=⟨z.toNat,by omega⟩
  exact jeV n (by omega)
 ·rcases Int.lt_or_le z 0 with h1|h1
  ·obtain⟨n,rfl⟩:∃ n:Nat,z = -(n:Int):=⟨z.natAbs,by omega⟩
   exact jhI n (by omega) (by omega)
  ·obtain rfl:z=0:=by omega
   exact jeV 0 (by omega)
end Go.Proofs.YtpkdedncgclblaaGreatDoor
end
section
namespace Go.Nb
open Go
theorem jeo {B:Nat}(hB:2≤B)(k:Nat):(0:Int)<(B:Int)^k:=Int.pow_pos (by omega)
theorem jdA {B:Nat}(hB:2≤B){l:List Int}(hd:Dg B l)(h:(B:Int)^(l.length-1)≤val B l):l=mg B (val B l).toNat:=by
 refine mg_of hB hd fun x hx e=>?_
 subst e
 rcases List.eq_nil_or_concat l with rfl|⟨r,y,rfl⟩
 ·simp at hx
 ·simp only[List.concat_eq_append] at *
  rw[List.getLast?_append] at hx
  simp at hx
  subst hx
  have h1:=jcm (B:=B) (l:=r) fun y hy=>hd y (by simp[hy])
  rw[jaV,ji8,List.length_singleton,Nat.add_sub_cancel] at h
  simp at h
  omega
theorem jat {B:Nat}{out:List Int}{c u v x y d c':Int}{k:Nat}(hk:out.length=k)(h:val B out+c*(B:Int)^k=u+v)(hs:d+c'*B=c+x+y) :
  val B (out++[d])+c'*(B:Int)^(k+1)=(u+(B:Int)^k*x)+(v+(B:Int)^k*y):=by
 rw[jaV,hk,Int.pow_succ]
 generalize (B:Int)^k=P at *
 have e1:P*d+c'*(P*B)=P*(d+c'*B):=by rw[jiM];congr 1;ac_rfl
 have e2:P*(c+x+y)=c*P+P*x+P*y:=by rw[jiM,jiM,jiN P c]
 rw[hs,e2] at e1
 omega
theorem jca {B:Nat}{out:List Int}{b u v x y d b':Int}{k:Nat}(hk:out.length=k)(h:val B out-b*(B:Int)^k=u-v)(hs:d-b'*B=x-y-b) :
  val B (out++[d])-b'*(B:Int)^(k+1)=(u+(B:Int)^k*x)-(v+(B:Int)^k*y):=by
 rw[jaV,hk,Int.pow_succ]
 generalize (B:Int)^k=P at *
 have e1:P*d-b'*(P*B)=P*(d-b'*B):=by rw[Int.mul_sub];congr 1;ac_rfl
 have e2:P*(x-y-b)=P*x-P*y-b*P:=by rw[Int.mul_sub,Int.mul_sub,jiN P b]
 rw[hs,e2] at e1
 omega
end Go.Nb
end
section
namespace Go.Proofs.YtpkdedncgclblaaGreatDoor
open Go Go.V Go.Nb
theorem jah (B:Nat)(xs:List Int)(k:Nat):val B (xs.take (k+1))=val B (xs.take k)+(B:Int)^k*xs.getD k 0:=by
 rcases jiI k xs.length with h|h
 ·have h1:xs[k]? = some (xs.getD k 0):=by rw[ji3,ji6 h];rfl
  exact jdn h1
 ·rw[jjl (by omega),jjl h,ji3,List.getElem?_eq_none h]
  simp
theorem jaj {B:Nat}(hB:1≤B){xs:List Int}(hd:Dg B xs)(k:Nat):0≤xs.getD k 0∧xs.getD k 0<B:=by
 rcases jiI k xs.length with h|h
 ·have h1:xs[k]? = some (xs.getD k 0):=by rw[ji3,ji6 h];rfl
  exact hd _ (List.mem_of_getElem? h1)
 ·rw[ji3,List.getElem?_eq_none h]
  simp;omega
theorem jck {xs:List Int}{k:Nat}(h:xs.length≤k):xs.getD k 0=0:=by
 rw[ji3,List.getElem?_eq_none h];rfl
theorem jfX {k m n:Nat}{out:List Int}{c x y:Int}(h1:out.length=k)(h2:Dg 10000 out)(h3:0≤c∧c≤1){P:Prop}(h5:k≤max m n∨(k=max m n+1∧c=0∧P))(hq:k<m∨k<n∨0<c)(gx:m≤k→x=0)(gy:n≤k→y=0) :
  k+1≤max m n∨(k+1=max m n+1∧(c+x+y)/10000=0∧((10000:Nat):Int)^(max m n)≤val 10000 (out++[(c+x+y)%10000])):=by
 rcases jiI k (max m n) with hm|hm
 ·exact .inl (by omega)
 ·have hk:k=max m n:=by omega
  have e1:=gx (by omega)
  have e2:=gy (by omega)
  have e3:c=1:=by omega
  subst e1 e2 e3
  refine .inr ⟨by omega,by decide,?_⟩
  rw[jaV,h1,← hk]
  have:=jak h2
  have e:(1+0+0:Int)%10000=1:=by decide
  rw[e];omega
theorem sum_c (a b:Nat)(ha:(mg 10000 a).length≤100000000)(hb:(mg 10000 b).length≤100000000):Cl 150 [.ints .i64 (mg 10000 a),.ints .i64 (mg 10000 b)] (.ints .i64 (mg 10000 (a+b))):=by
 have hdx:=mg_dg (B:=10000) (by omega) a
 have hdy:=mg_dg (B:=10000) (by omega) b
 have hvx:=jay (B:=10000) (by omega) a
 have hvy:=jay (B:=10000) (by omega) b
 have hpx:=fun h=>jcS (B:=10000) (n:=a) (by omega) h
 have hpy:=fun h=>jcS (B:=10000) (n:=b) (by omega) h
 have hex:=jce (B:=10000) (n:=a) (by omega)
 have hey:=jce (B:=10000) (n:=b) (by omega)
 generalize mg 10000 a=xs at *
 generalize mg 10000 b=ys at *
 refine V.en tbOk Tryz.func150 ?_
 (conv=>whnf)
 refine V.st ?_
 refine Lp.ghostSlot 48 5 .i64 (by decide) ?_
 (conv=>whnf)
 refine jaf ((0,[],0):Nat×List Int×Int) (fun s=>s.2.1.length=s.1∧Dg 10000 s.2.1∧(0≤s.2.2∧s.2.2≤1)∧val 10000 s.2.1+s.2.2*((10000:Nat):Int)^s.1=val 10000 (xs.take s.1)+val 10000 (ys.take s.1)∧(s.1≤max xs.length ys.length∨(s.1=max xs.length ys.length+1∧s.2.2=0∧((10000:Nat):Int)^(max xs.length ys.length)≤val 10000 s.2.1))) (fun s=>max xs.length ys.length+2-s.1)
  (fun s=>[(7,.int .i64 s.1),(6,.int .i64 s.2.2),(5,.osl 48 0 s.2.1.length)]) (fun s=>[(48,.arr .i64 s.2.1)]) ?_ ?_ ?_
 ·exact V.wk
 ·exact⟨rfl,fun x hx=>by simp at hx,by simp,by simp[val],.inl (by simp)⟩
 rintro⟨k,out,c⟩ ⟨h1,h2,h3,h4,h5⟩
 dsimp only at h1 h2 h3 h4 h5 ⊢
 have vx:=jah 10000 xs k
 have vy:=jah 10000 ys k
 have bx:=jaj (by omega) hdx k
 have by':=jaj (by omega) hdy k
 have gx:=jck (xs:=xs) (k:=k)
 have gy:=jck (xs:=ys) (k:=k)
 generalize hx0:xs.getD k 0=x at *
 generalize hy0:ys.getD k 0=y at *
 (conv=>whnf)
 refine V.st ?_
 refine V.br (fun hq=>?_) (fun hq=>?_)
 ·simp only[jiJ,decide_eq_true_eq] at hq
  (conv=>whnf)
  refine V.st ?_
  refine V.br (fun hx=>?_) (fun hx=>?_)
  ·rw[decide_eq_true_eq] at hx
   refine V.r0 (V.a2 @jiA hx0) ?_
   refine V.br (fun hy=>?_) (fun hy=>?_)
   ·rw[decide_eq_true_eq] at hy
    refine V.r0 (V.a2 @jiA hy0) ?_
    have hE:c+x+y=c+x+y:=by omega
    rw[hE]
    have hd0:0≤(c+x+y)%10000∧(c+x+y)%10000<10000:=⟨jiu _ (by omega),jiT _ (by omega)⟩
    have hst:=jat (B:=10000) (x:=x) (y:=y) (d:=(c+x+y)%10000) (c':=(c+x+y)/10000) h1 h4 (by have:=jiv (c+x+y) 10000;omega)
    rw[← vx,← vy] at hst
    have hdg:Dg 10000 (out++[(c+x+y)%10000]):=jag h2 (jar hd0)
    have hl2:(out++[(c+x+y)%10000]).length=k+1:=by simp[h1]
    have hl3:out.length+(List.take 1 (List.drop 0 [(c+x+y)%10000])).length=(out++[(c+x+y)%10000]).length:=by simp
    have hkc:((k:Int)+1)=((k+1:Nat):Int):=by omega
    refine V.r0 (V.a2 hl3 hkc) ?_
    try refine And.intro (fun _=>⟨trivial,by omega⟩) ?_
    refine V.r0 (V.a2 hl3 hkc) ?_
    exact⟨(k+1,out++[(c+x+y)%10000],(c+x+y)/10000),⟨hl2,hdg,by dsimp only;omega,hst,jfX h1 h2 h3 h5 (by omega) gx gy⟩,by dsimp only;omega,V.wk⟩
   ·rw[decide_eq_false_iff_not] at hy
    have:=gy (by omega)
    (conv=>whnf)
    refine V.st ?_
    have hE:c+x=c+x+y:=by omega
    rw[hE]
    have hd0:0≤(c+x+y)%10000∧(c+x+y)%10000<10000:=⟨jiu _ (by omega),jiT _ (by omega)⟩
    have hst:=jat (B:=10000) (x:=x) (y:=y) (d:=(c+x+y)%10000) (c':=(c+x+y)/10000) h1 h4 (by have:=jiv (c+x+y) 10000;omega)
    rw[← vx,← vy] at hst
    have hdg:Dg 10000 (out++[(c+x+y)%10000]):=jag h2 (jar hd0)
    have hl2:(out++[(c+x+y)%10000]).length=k+1:=by simp[h1]
    have hl3:out.length+(List.take 1 (List.drop 0 [(c+x+y)%10000])).length=(out++[(c+x+y)%10000]).length:=by simp
    have hkc:((k:Int)+1)=((k+1:Nat):Int):=by omega
    refine V.r0 (V.a2 hl3 hkc) ?_
    try refine And.intro (fun _=>⟨trivial,by omega⟩) ?_
    refine V.r0 (V.a2 hl3 hkc) ?_
    exact⟨(k+1,out++[(c+x+y)%10000],(c+x+y)/10000),⟨hl2,hdg,by dsimp only;omega,hst,jfX h1 h2 h3 h5 (by omega) gx gy⟩,by dsimp only;omega,V.wk⟩
  ·rw[decide_eq_false_iff_not] at hx
   have:=gx (by omega)
   (conv=>whnf)
   refine V.st ?_
   refine V.br (fun hy=>?_) (fun hy=>?_)
   ·rw[decide_eq_true_eq] at hy
    refine V.r0 (V.a2 @jiA hy0) ?_
    have hE:c+y=c+x+y:=by omega
    rw[hE]
    have hd0:0≤(c+x+y)%10000∧(c+x+y)%10000<10000:=⟨jiu _ (by omega),jiT _ (by omega)⟩
    have hst:=jat (B:=10000) (x:=x) (y:=y) (d:=(c+x+y)%10000) (c':=(c+x+y)/10000) h1 h4 (by have:=jiv (c+x+y) 10000;omega)
    rw[← vx,← vy] at hst
    have hdg:Dg 10000 (out++[(c+x+y)%10000]):=jag h2 (jar hd0)
    have hl2:(out++[(c+x+y)%10000]).length=k+1:=by simp[h1]
    have hl3:out.length+(List.take 1 (List.drop 0 [(c+x+y)%10000])).length=(out++[(c+x+y)%10000]).length:=by simp
    have hkc:((k:Int)+1)=((k+1:Nat):Int):=by omega
    refine V.r0 (V.a2 hl3 hkc) ?_
    try refine And.intro (fun _=>⟨trivial,by omega⟩) ?_
    refine V.r0 (V.a2 hl3 hkc) ?_
    exact⟨(k+1,out++[(c+x+y)%10000],(c+x+y)/10000),⟨hl2,hdg,by dsimp only;omega,hst,jfX h1 h2 h3 h5 (by omega) gx gy⟩,by dsimp only;omega,V.wk⟩
   ·rw[decide_eq_false_iff_not] at hy
    have:=gy (by omega)
    (conv=>whnf)
    refine V.st ?_
    have hE:c=c+x+y:=by omega
    rw[hE]
    have hd0:0≤(c+x+y)%10000∧(c+x+y)%10000<10000:=⟨jiu _ (by omega),jiT _ (by omega)⟩
    have hst:=jat (B:=10000) (x:=x) (y:=y) (d:=(c+x+y)%10000) (c':=(c+x+y)/10000) h1 h4 (by have:=jiv (c+x+y) 10000;omega)
    rw[← vx,← vy] at hst
    have hdg:Dg 10000 (out++[(c+x+y)%10000]):=jag h2 (jar hd0)
    have hl2:(out++[(c+x+y)%10000]).length=k+1:=by simp[h1]
    have hl3:out.length+(List.take 1 (List.drop 0 [(c+x+y)%10000])).length=(out++[(c+x+y)%10000]).length:=by simp
    have hkc:((k:Int)+1)=((k+1:Nat):Int):=by omega
    refine V.r0 (V.a2 hl3 hkc) ?_
    try refine And.intro (fun _=>⟨trivial,by omega⟩) ?_
    refine V.r0 (V.a2 hl3 hkc) ?_
    exact⟨(k+1,out++[(c+x+y)%10000],(c+x+y)/10000),⟨hl2,hdg,by dsimp only;omega,hst,jfX h1 h2 h3 h5 (by omega) gx gy⟩,by dsimp only;omega,V.wk⟩
 ·simp only[jiK,decide_eq_false_iff_not] at hq
  have hc:c=0:=by omega
  have hkm:max xs.length ys.length≤k:=by omega
  subst hc
  rw[jjl (by omega),jjl (by omega),hvx,hvy,Int.zero_mul,Int.add_zero] at h4
  have hge:((10000:Nat):Int)^(out.length-1)≤val 10000 out∨(out=[]∧a+b=0):=by
   rcases h5 with h5|h5
   ·rcases jiE (a+b) with h0|h0
    ·right
     have e1:=hex.mpr (by omega)
     have e2:=hey.mpr (by omega)
     subst e1 e2
     have:k=0:=by simpa using h5
     exact⟨ji4.mp (by omega),h0⟩
    ·left
     rw[h4,h1]
     have hk:k=max xs.length ys.length:=by omega
     rcases jiI xs.length ys.length with hl|hl
     ·have hb0:0<b:=Nat.pos_of_ne_zero fun h=>by
       rw[← hey] at h;rw[h] at hl;simp at hl
      have h9:=hpy hb0
      have hk':k=ys.length:=by omega
      rw[← hk'] at h9
      have h8:(((10000^(k-1):Nat)):Int)≤(b:Int):=by exact_mod_cast h9
      rw[jiU] at h8
      omega
     ·have ha0:0<a:=Nat.pos_of_ne_zero fun h=>by
       have h':=h
       rw[← hex] at h'
       rw[h'] at hl
       have:ys=[]:=ji4.mp (by simpa using hl)
       have:=hey.mp this
       omega
      have h9:=hpx ha0
      have hk':k=xs.length:=by omega
      rw[← hk'] at h9
      have h8:(((10000^(k-1):Nat)):Int)≤(a:Int):=by exact_mod_cast h9
      rw[jiU] at h8
      omega
   ·left
    rw[h1,h5.1]
    exact h5.2.2
  have hout:out=mg 10000 (a+b):=by
   rcases hge with hge|hge
   ·have:=jdA (by omega) h2 hge
    rw[this,h4];congr 1
   ·rw[hge.1,hge.2];rfl
  (conv=>whnf)
  refine V.st ?_
  exact Fin.of (by rw[jjs,hout])
theorem jcZ (a b:Nat)(hba:b≤a)(ha:(mg 10000 a).length≤100000000):Cl 152 [.ints .i64 (mg 10000 a),.ints .i64 (mg 10000 b)] (.ints .i64 (mg 10000 (a-b))):=by
 have hdx:=mg_dg (B:=10000) (by omega) a
 have hdy:=mg_dg (B:=10000) (by omega) b
 have hvx:=jay (B:=10000) (by omega) a
 have hvy:=jay (B:=10000) (by omega) b
 have hlen:=jae (B:=10000) (by omega) hba
 generalize mg 10000 a=xs at *
 generalize mg 10000 b=ys at *
 refine V.en tbOk Tryz.func152 ?_
 (conv=>whnf)
 refine V.st ?_
 refine Lp.ghostSlot 38 5 .i64 (by decide) ?_
 (conv=>whnf)
 refine jaf ((0,[],0):Nat×List Int×Int) (fun s=>s.2.1.length=s.1∧Dg 10000 s.2.1∧(0≤s.2.2∧s.2.2≤1)∧val 10000 s.2.1-s.2.2*((10000:Nat):Int)^s.1=val 10000 (xs.take s.1)-val 10000 (ys.take s.1)∧s.1≤xs.length) (fun s=>xs.length+2-s.1)
  (fun s=>[(7,.int .i64 s.1),(6,.int .i64 s.2.2),(5,.osl 38 0 s.2.1.length)]) (fun s=>[(38,.arr .i64 s.2.1)]) ?_ ?_ ?_
 ·exact V.wk
 ·exact⟨rfl,fun x hx=>by simp at hx,by simp,by simp[val],by simp⟩
 rintro⟨k,out,bw⟩ ⟨h1,h2,h3,h4,h5⟩
 dsimp only at h1 h2 h3 h4 h5 ⊢
 have vx:=jah 10000 xs k
 have vy:=jah 10000 ys k
 have bx:=jaj (by omega) hdx k
 have by':=jaj (by omega) hdy k
 have gy:=jck (xs:=ys) (k:=k)
 generalize hx0:xs.getD k 0=x at *
 generalize hy0:ys.getD k 0=y at *
 (conv=>whnf)
 refine V.st ?_
 refine V.br (fun hq=>?_) (fun hq=>?_)
 ·rw[decide_eq_true_eq] at hq
  refine V.r0 (V.a2 @jiA hx0) ?_
  refine V.br (fun hy=>?_) (fun hy=>?_)
  ·rw[decide_eq_true_eq] at hy
   refine V.r0 (V.a2 @jiA hy0) ?_
   refine V.br (fun hz=>?_) (fun hz=>?_)
   ·rw[decide_eq_true_eq] at hz
    have hE:x-bw-y=x-y-bw:=by omega
    rw[hE]
    have hst:=jca (B:=10000) (x:=x) (y:=y) (d:=(x-y-bw+10000)) (b':=1) h1 h4 (by omega)
    rw[← vx,← vy] at hst
    have hdg:Dg 10000 (out++[(x-y-bw+10000)]):=jag h2 (jar (by omega))
    have hl2:(out++[(x-y-bw+10000)]).length=k+1:=by simp[h1]
    have hl3:out.length+(List.take 1 (List.drop 0 [(x-y-bw+10000)])).length=(out++[(x-y-bw+10000)]).length:=by simp
    have hkc:((k:Int)+1)=((k+1:Nat):Int):=by omega
    refine V.r0 (V.a2 hl3 hkc) ?_
    try refine And.intro (fun _=>⟨trivial,by omega⟩) ?_
    refine V.r0 (V.a2 hl3 hkc) ?_
    exact⟨(k+1,out++[(x-y-bw+10000)],1),⟨hl2,hdg,by dsimp only;omega,hst,by dsimp only;omega⟩,by dsimp only;omega,V.wk⟩
   ·rw[decide_eq_false_iff_not] at hz
    have hE:x-bw-y=x-y-bw:=by omega
    rw[hE]
    have hst:=jca (B:=10000) (x:=x) (y:=y) (d:=(x-y-bw)) (b':=0) h1 h4 (by omega)
    rw[← vx,← vy] at hst
    have hdg:Dg 10000 (out++[(x-y-bw)]):=jag h2 (jar (by omega))
    have hl2:(out++[(x-y-bw)]).length=k+1:=by simp[h1]
    have hl3:out.length+(List.take 1 (List.drop 0 [(x-y-bw)])).length=(out++[(x-y-bw)]).length:=by simp
    have hkc:((k:Int)+1)=((k+1:Nat):Int):=by omega
    refine V.r0 (V.a2 hl3 hkc) ?_
    try refine And.intro (fun _=>⟨trivial,by omega⟩) ?_
    refine V.r0 (V.a2 hl3 hkc) ?_
    exact⟨(k+1,out++[(x-y-bw)],0),⟨hl2,hdg,by dsimp only;omega,hst,by dsimp only;omega⟩,by dsimp only;omega,V.wk⟩
  ·rw[decide_eq_false_iff_not] at hy
   have:=gy (by omega)
   (conv=>whnf)
   refine V.st ?_
   refine V.br (fun hz=>?_) (fun hz=>?_)
   ·rw[decide_eq_true_eq] at hz
    have hE:x-bw=x-y-bw:=by omega
    rw[hE]
    have hst:=jca (B:=10000) (x:=x) (y:=y) (d:=(x-y-bw+10000)) (b':=1) h1 h4 (by omega)
    rw[← vx,← vy] at hst
    have hdg:Dg 10000 (out++[(x-y-bw+10000)]):=jag h2 (jar (by omega))
    have hl2:(out++[(x-y-bw+10000)]).length=k+1:=by simp[h1]
    have hl3:out.length+(List.take 1 (List.drop 0 [(x-y-bw+10000)])).length=(out++[(x-y-bw+10000)]).length:=by simp
    have hkc:((k:Int)+1)=((k+1:Nat):Int):=by omega
    refine V.r0 (V.a2 hl3 hkc) ?_
    try refine And.intro (fun _=>⟨trivial,by omega⟩) ?_
    refine V.r0 (V.a2 hl3 hkc) ?_
    exact⟨(k+1,out++[(x-y-bw+10000)],1),⟨hl2,hdg,by dsimp only;omega,hst,by dsimp only;omega⟩,by dsimp only;omega,V.wk⟩
   ·rw[decide_eq_false_iff_not] at hz
    have hE:x-bw=x-y-bw:=by omega
    rw[hE]
    have hst:=jca (B:=10000) (x:=x) (y:=y) (d:=(x-y-bw)) (b':=0) h1 h4 (by omega)
    rw[← vx,← vy] at hst
    have hdg:Dg 10000 (out++[(x-y-bw)]):=jag h2 (jar (by omega))
    have hl2:(out++[(x-y-bw)]).length=k+1:=by simp[h1]
    have hl3:out.length+(List.take 1 (List.drop 0 [(x-y-bw)])).length=(out++[(x-y-bw)]).length:=by simp
    have hkc:((k:Int)+1)=((k+1:Nat):Int):=by omega
    refine V.r0 (V.a2 hl3 hkc) ?_
    try refine And.intro (fun _=>⟨trivial,by omega⟩) ?_
    refine V.r0 (V.a2 hl3 hkc) ?_
    exact⟨(k+1,out++[(x-y-bw)],0),⟨hl2,hdg,by dsimp only;omega,hst,by dsimp only;omega⟩,by dsimp only;omega,V.wk⟩
 ·rw[decide_eq_false_iff_not] at hq
  have hk:k=xs.length:=by omega
  rw[jjl (by omega),jjl (by omega),hvx,hvy] at h4
  have hlt:=jcm h2
  have hnn:=jak h2
  rw[h1] at hlt
  have hbw:bw=0:=by
   rcases (by omega:bw=0∨bw=1) with e|e
   ·exact e
   ·subst e;omega
  subst hbw
  rw[Int.zero_mul,Int.sub_zero] at h4
  have hc:=cut_c out h2 (by omega)
  rw[h4] at hc
  have e1:((a:Int)-(b:Int)).toNat=a-b:=by omega
  rw[e1] at hc
  have hc2:Cl 205 [.ints .i64 (List.take out.length out)] (.ints .i64 (mg 10000 (a-b))):=by rw[jjs];exact hc
  (conv=>whnf)
  refine V.st ?_
  repeat ((try ((with_reducible refine .ext ?_);(conv=>whnf)));(with_reducible refine jaa (r:=?_) ?_ ?_);rotate_left;(focus (first|exact(hc2)));(conv=>whnf);refine V.st ?_)
  exact Fin.of rfl
def ordR (xs ys:List Int):Nat→Int
 | 0=>0
 | k+1=>if xs.getD k 0=ys.getD k 0 then ordR xs ys k else xs.getD k 0-ys.getD k 0
def ordV (xs ys:List Int):Int:=if xs.length=ys.length then ordR xs ys xs.length else (xs.length:Int)-ys.length
theorem jcz {B:Nat}(hB:2≤B){xs:List Int}(hd:Dg B xs)(k:Nat):val B (xs.take k)<(B:Int)^k:=by
 have h:=jcm (jbq hd k)
 have h2:B^(xs.take k).length≤B^k:=jiR (by omega) (by rw[ji9];omega)
 have h3:(((B^(xs.take k).length:Nat)):Int)≤((B^k:Nat):Int):=by exact_mod_cast h2
 rw[jiU,jiU] at h3
 omega
theorem jgT {B:Nat}(hB:2≤B){xs ys:List Int}(hx:Dg B xs)(hy:Dg B ys):∀ k,(ordR xs ys k<0↔val B (xs.take k)<val B (ys.take k))∧(ordR xs ys k=0↔val B (xs.take k)=val B (ys.take k))
 | 0=>by simp[ordR]
 | k+1=>by
  obtain⟨i1,i2⟩:=jgT hB hx hy k
  rw[jah,jah,ordR]
  have l1:=jcz hB hx k
  have l2:=jcz hB hy k
  have n1:=jak (jbq hx k)
  have n2:=jak (jbq hy k)
  generalize xs.getD k 0=x
  generalize ys.getD k 0=y
  generalize val B (xs.take k)=u at *
  generalize val B (ys.take k)=v at *
  generalize (B:Int)^k=P at *
  by_cases e:x=y
  ·subst e;rw[if_pos rfl];omega
  ·rw[if_neg e]
   rcases Int.lt_or_gt_of_ne e with h|h
   ·have:P*(x+1)≤P*y:=jiP (by omega) (by omega)
    rw[jiM,Int.mul_one] at this
    omega
   ·have:P*(y+1)≤P*x:=jiP (by omega) (by omega)
    rw[jiM,Int.mul_one] at this
    omega
theorem jfI {B:Nat}(hB:2≤B)(a b:Nat):(ordV (mg B a) (mg B b)<0↔a<b)∧(ordV (mg B a) (mg B b)=0↔a=b):=by
 unfold ordV
 have m1:=fun h:a≤b=>jae (B:=B) hB h
 have m2:=fun h:b≤a=>jae (B:=B) hB h
 by_cases e:(mg B a).length=(mg B b).length
 ·rw[if_pos e]
  have h:=jgT hB (mg_dg (B:=B) hB a) (mg_dg (B:=B) hB b) (mg B a).length
  rw[jjl (jiB _),jjl (by omega),jay hB,jay hB] at h
  omega
 ·rw[if_neg e]
  rcases Nat.lt_trichotomy a b with h|h|h
  ·have:=m1 (by omega);omega
  ·subst h;exact absurd rfl e
  ·have:=m2 (by omega);omega
theorem jgS (a b:Nat):(ordV (mg 10000 a) (mg 10000 b)<0↔a<b)∧(ordV (mg 10000 a) (mg 10000 b)=0↔a=b):=jfI (by omega) a b
theorem jhn (B:Nat)(d:Int):∀ (l:List Int) (k:Nat),k<l.length→val B (l.set k d)=val B l+(B:Int)^k*(d-l.getD k 0)
 | [],k,h=>by simp at h
 | x::l,0,_=>by simp[val];omega
 | x::l,k+1,h=>by
  have ih:=jhn B d l k (by simpa using h)
  simp only[List.set_cons_succ,val,List.getD_cons_succ]
  rw[ih,Int.pow_succ,jiM]
  generalize (B:Int)^k=P
  have:(B:Int)*(P*(d-l.getD k 0))=P*B*(d-l.getD k 0):=by ac_rfl
  omega
theorem jdI {B:Nat}{l:List Int}{k:Nat}{d:Int}(h:Dg B l)(hd:0≤d∧d<B):Dg B (l.set k d):=fun x hx=>by
 rcases List.mem_or_eq_of_mem_set hx with h1|h1
 ·exact h x h1
 ·subst h1;exact hd
theorem jgQ {B:Nat}{o:List Int}{i j:Nat}{c q x y U Y d c':Int}(hlt:i+j<o.length)(hq:o.getD (i+j) 0=q)(h:val B o+(B:Int)^(i+j)*c=U+(B:Int)^i*x*Y)(hs:d+c'*B=c+q+x*y) :
  val B (o.set (i+j) d)+(B:Int)^(i+(j+1))*c'=U+(B:Int)^i*x*(Y+(B:Int)^j*y):=by
 rw[jhn B d o (i+j) hlt,hq,← Nat.add_assoc,Int.pow_succ]
 have e0:(B:Int)^i*x*(Y+(B:Int)^j*y)=(B:Int)^i*x*Y+(B:Int)^(i+j)*(x*y):=by
  rw[jiM,Int.pow_add];congr 1;ac_rfl
 rw[e0]
 generalize (B:Int)^(i+j)=P at *
 have e1:P*(d+c'*B)=P*d+P*B*c':=by rw[jiM];congr 1;ac_rfl
 rw[hs] at e1
 have e2:P*(c+q+x*y)=P*c+P*q+P*(x*y):=by rw[jiM,jiM]
 rw[Int.mul_sub]
 omega
theorem prod_end {B:Nat}{o xs:List Int}{i n:Nat}{c x YS:Int}(hlt:i+n<o.length)(hq:o.getD (i+n) 0=0)(h:val B o+(B:Int)^(i+n)*c=val B (xs.take i)*YS+(B:Int)^i*x*YS)(hx:xs.getD i 0=x) :
  val B (o.set (i+n) c)=val B (xs.take (i+1))*YS:=by
 rw[jhn B c o (i+n) hlt,hq,jah,hx,jiV,Int.sub_zero]
 exact h
theorem jcI {l:List Int}{i k:Nat}{d:Int}(h:i≠k):(l.set i d).getD k 0=l.getD k 0:=by
 simp[ji3,List.getElem?_set,h]
theorem je0 {l:List Int}{i:Nat}{d:Int}(h:i<l.length):(l.set i d).getD i 0=d:=by
 simp[ji3,List.getElem?_set,h]
theorem jb9 {B:Nat}{l:List Int}{k:Nat}(h:k<l.length):val B (l.drop k)=l.getD k 0+B*val B (l.drop (k+1)):=by
 rw[List.drop_eq_getElem_cons h,val]
 congr 1
 simp[ji3,h]
theorem je5 {l:List Int}{i k:Nat}{d:Int}(h:i<k):(l.set i d).drop k=l.drop k:=by
 rw[List.drop_set_of_lt h]
theorem jeO {B:Nat}{xs out:List Int}{k:Nat}{d r x t:Int}(hk:k<xs.length)(hl:k<out.length)(hx:xs.getD k 0=x)(h:val B (xs.drop (k+1))=val B (out.drop (k+1))*d+r)(ht:t=r*B+x) :
  val B (xs.drop k)=val B ((out.set k (t/d)).drop k)*d+t%d:=by
 have e0:=jb9 (B:=B) (l:=out.set k (t/d)) (k:=k) (by rw[jjq];exact hl)
 rw[je0 hl,je5 (l:=out) (i:=k) (k:=k+1) (by omega)] at e0
 rw[jb9 hk,e0,hx,h]
 have:=jiv t d
 have e1:(t/d+(B:Int)*val B (out.drop (k+1)))*d=d*(t/d)+B*(val B (out.drop (k+1))*d):=by rw[jiV];congr 1<;>ac_rfl
 rw[e1,jiM]
 have e2:(B:Int)*r=r*B:=jiN _ _
 omega
theorem jeP {B:Nat}{d r x:Int}(hd:0<d)(hr:0≤r∧r<d)(hx:0≤x∧x<B):0≤(r*B+x)/d∧(r*B+x)/d<B∧0≤(r*B+x)%d∧(r*B+x)%d<d:=by
 have h0:0≤r*(B:Int):=jiw hr.1 (by omega)
 refine⟨Int.ediv_nonneg (by omega) (by omega),?_,jiu _ (by omega),jiT _ hd⟩
 refine Int.ediv_lt_of_lt_mul hd ?_
 have h1:(r+1)*(B:Int)≤d*B:=jiG (by omega) (by omega)
 rw[jiV,Int.one_mul] at h1
 rw[jiN d (B:Int)] at h1
 omega
theorem order_c (xs ys:List Int)(ha:xs.length≤100000000)(hb:ys.length≤100000000)(hdx:Dg 10000 xs)(hdy:Dg 10000 ys):Cl 151 [.ints .i64 xs,.ints .i64 ys] (.int .i64 (ordV xs ys)):=by
 refine V.en tbOk Tryz.func151 ?_
 (conv=>whnf)
 refine V.st ?_
 refine V.br (fun hq=>?_) (fun hq=>?_)
 ·rw[decide_eq_true_eq] at hq
  (conv=>whnf)
  refine V.st ?_
  exact Fin.of (by unfold ordV;rw[if_neg (by omega)])
 ·rw[decide_eq_false_iff_not] at hq
  have hq':xs.length=ys.length:=by omega
  (conv=>whnf)
  refine V.st ?_
  refine jaf (xs.length) (fun k=>k≤xs.length∧ordR xs ys k=ordR xs ys xs.length) (fun k=>k) (fun k=>[(5,.int .i64 ((k:Int)-1))]) (fun k=>[]) ?_ ?_ ?_
  ·exact V.wk
  ·exact⟨jiB _,rfl⟩
  intro k hk
  have bx:=jaj (by omega) hdx (k-1)
  have by':=jaj (by omega) hdy (k-1)
  (conv=>whnf)
  refine V.st ?_
  refine V.br (fun hz=>?_) (fun hz=>?_)
  ·rw[decide_eq_true_eq] at hz
   (conv=>whnf)
   refine V.st ?_
   refine⟨Pq11z,[],V.pok,.go (jab ?_)⟩
   (conv=>whnf)
   refine V.st ?_
   have hk0:0<k:=by omega
   obtain⟨j,rfl⟩:∃ j,k=j+1:=⟨k-1,by omega⟩
   have e1:((((j+1:Nat):Int)-1).toNat)=j:=by omega
   have e2:(((j+1:Nat):Int)-1)=(j:Int):=by omega
   have hr:=hk.2
   rw[ordR] at hr
   refine V.br (fun hn=>?_) (fun hn=>?_)
   ·rw[decide_eq_true_eq,e1] at hn
    (conv=>whnf)
    refine V.st ?_
    refine⟨(V.tk [0,1,2,3,4,5,6,7,8,9] .done),[],V.pok,.go (jab ?_)⟩
    (conv=>whnf)
    refine V.st ?_
    rw[Nat.add_sub_cancel] at bx by'
    rw[e1]
    generalize xs.getD j 0=x at *
    generalize ys.getD j 0=y at *
    refine And.intro (fun _ _ _=>?_) ?_
    ·refine⟨?_,?_⟩<;>simp only[V.lo,V.hi]<;>omega
    (conv=>whnf)
    refine V.st ?_
    exact Fin.of (by unfold ordV;rw[if_pos hq',← hr,if_neg hn])
   ·rw[decide_eq_false_iff_not,e1] at hn
    rw[if_pos (by omega)] at hr
    refine V.r0 e2 ?_
    exact⟨j,⟨by omega,hr⟩,by omega,V.wk⟩
  ·rw[decide_eq_false_iff_not] at hz
   have hk0:k=0:=by omega
   subst hk0
   (conv=>whnf)
   refine V.st ?_
   exact Fin.of (by unfold ordV;rw[if_pos hq',← hk.2];rfl)
theorem jeM (xs ys:List Int)(ha:xs.length≤100000000)(hb:ys.length≤100000000)(hdx:Dg 10000 xs)(hdy:∀ j,0≤ys.getD j 0∧ys.getD j 0≤10000∧(0<j→ys.getD j 0<10000)):Cl 153 [.ints .i64 xs,.ints .i64 ys] (.ints .i64 (mg 10000 (val 10000 xs*val 10000 ys).toNat)):=by
 have hmn:((xs.length:Int)+(ys.length:Int)).toNat=xs.length+ys.length:=by omega
 refine V.en tbOk Tryz.func153 ?_
 refine V.r0 hmn ?_
 refine jaf ((0,List.replicate (xs.length+ys.length) 0):Nat×List Int) (fun s=>s.1≤xs.length∧s.2.length=xs.length+ys.length∧Dg 10000 s.2∧(∀ k,s.1+ys.length≤k→s.2.getD k 0=0)∧val 10000 s.2=val 10000 (xs.take s.1)*val 10000 ys) (fun s=>xs.length-s.1)
  (fun s=>[(6,.int .i64 s.1),(5,.osl 14 0 (xs.length+ys.length))]) (fun s=>[(14,.arr .i64 s.2)]) ?_ ?_ ?_
 ·exact V.wk
 ·exact⟨jit _,by simp,jch (by omega) _,fun k _=>by simp[ji3,List.getElem?_replicate];split<;>simp,by simp[val,jez]⟩
 rintro⟨i,out⟩ ⟨h1,h2,h3,h4,h5⟩
 dsimp only at h1 h2 h3 h4 h5 ⊢
 have vx:=jah 10000 xs i
 have bx:=jaj (by omega) hdx i
 generalize hx0:xs.getD i 0=x at *
 (conv=>whnf)
 refine V.st ?_
 refine V.br (fun hq=>?_) (fun hq=>?_)
 ·rw[decide_eq_true_eq] at hq
  (conv=>whnf)
  refine V.st ?_
  refine jaf ((0,out,0):Nat×List Int×Int) (fun s=>s.1≤ys.length∧s.2.1.length=xs.length+ys.length∧Dg 10000 s.2.1∧(∀ k,i+ys.length≤k→s.2.1.getD k 0=0)∧(0≤s.2.2∧s.2.2<10000∧(s.1=0→s.2.2=0))∧val 10000 s.2.1+((10000:Nat):Int)^(i+s.1)*s.2.2=val 10000 (xs.take i)*val 10000 ys+((10000:Nat):Int)^i*x*val 10000 (ys.take s.1)) (fun s=>ys.length-s.1)
   (fun s=>[(8,.int .i64 s.1),(7,.int .i64 s.2.2),(6,.int .i64 i),(5,.osl 14 0 (xs.length+ys.length))]) (fun s=>[(14,.arr .i64 s.2.1)]) ?_ ?_ ?_
  ·exact V.wk
  ·exact⟨jit _,h2,h3,h4,by simp,by simp[val,h5]⟩
  rintro⟨j,o,c⟩ ⟨g1,g2,g3,g4,g5,g6⟩
  dsimp only at g1 g2 g3 g4 g5 g6 ⊢
  have vy:=jah 10000 ys j
  have by':=hdy j
  have bo:=jaj (by omega) g3 (i+j)
  generalize hy0:ys.getD j 0=y at *
  generalize ho0:o.getD (i+j) 0=q at *
  have eij:((i:Int)+(j:Int)).toNat=i+j:=by omega
  have hxy:0≤x*y∧x*y≤9999*y:=⟨jiw (by omega) (by omega),jiG (by omega) (by omega)⟩
  have hkj:((j:Int)+1)=((j+1:Nat):Int):=by omega
  have hki:((i:Int)+1)=((i+1:Nat):Int):=by omega
  have ein:((i:Int)+(ys.length:Int)).toNat=i+ys.length:=by omega
  (conv=>whnf)
  refine V.st ?_
  refine V.br (fun hw=>?_) (fun hw=>?_)
  ·rw[decide_eq_true_eq] at hw
   have hm:0≤(c+q+x*y)%10000∧(c+q+x*y)%10000<10000:=⟨jiu _ (by omega),jiT _ (by omega)⟩
   have hc9:0≤(c+q+x*y)/10000∧(c+q+x*y)/10000<10000:=by
    rcases jiE j with e|e
    ·have:=g5.2.2 e
     omega
    ·have:=by'.2.2 e
     omega
   have hst:=jgQ (B:=10000) (x:=x) (y:=y) (q:=q) (c:=c) (d:=(c+q+x*y)%10000) (c':=(c+q+x*y)/10000) (by omega) ho0 g6 (by have:=jiv (c+q+x*y) 10000;omega)
   rw[← vy] at hst
   refine V.r0 (V.a7 eij @jiy @jiA hx0 hy0 ho0 hkj) ?_
   refine⟨(V.tk [0,1,2,3,4,5,6,7,8,9,10,11,12,13,14,15,16,17] (V.e1 18 [] .done)),[],V.pok,.go (jab ?_)⟩
   refine V.r0 (V.a7 eij @jiy @jiA hx0 hy0 ho0 hkj) ?_
   exact⟨(j+1,o.set (i+j) ((c+q+x*y)%10000),(c+q+x*y)/10000),⟨by dsimp only;omega,by dsimp only;rw[jjq];exact g2,jdI g3 hm,fun k hk=>by dsimp only;rw[jcI (by omega)];exact g4 k hk,⟨hc9.1,hc9.2,fun h=>by simp at h⟩,hst⟩,by dsimp only;omega,V.wk⟩
  ·rw[decide_eq_false_iff_not] at hw
   have hj:j=ys.length:=by omega
   subst hj
   rw[jjs] at g6
   have hst:=prod_end (B:=10000) (by omega) (g4 _ (jiB _)) g6 hx0
   refine V.r0 (V.a3 ein @jiy hki) ?_
   exact⟨(i+1,o.set (i+ys.length) c),⟨by dsimp only;omega,by dsimp only;rw[jjq];exact g2,jdI g3 ⟨g5.1,g5.2.1⟩,fun k hk=>by dsimp only at hk ⊢; rw[jcI (by omega)];exact g4 k (by omega),hst⟩,by dsimp only;omega,V.wk⟩
 ·rw[decide_eq_false_iff_not] at hq
  rw[jjl (by omega)] at h5
  have hc:=cut_c out h3 (by omega)
  rw[h5] at hc
  rw[← jjs (l:=out),h2] at hc
  (conv=>whnf)
  refine V.st ?_
  repeat ((try ((with_reducible refine .ext ?_);(conv=>whnf)));(with_reducible refine jaa (r:=?_) ?_ ?_);rotate_left;(focus (first|exact(hc)));(conv=>whnf);refine V.st ?_)
  exact Fin.of rfl
theorem once_g (xs:List Int)(d:Int)(ha:xs.length≤100000000)(hdx:Dg 10000 xs)(hd0:0<d)(hd1:d≤10000):Cl 206 [.ints .i64 xs,.int .i64 d] (.tup [.ints .i64 (mg 10000 (val 10000 xs/d).toNat),.int .i64 (val 10000 xs%d)]):=by
 have hmn:((xs.length:Int)).toNat=xs.length:=by omega
 refine V.en tbOk Tryz.func206 ?_
 refine V.r0 hmn ?_
 refine jaf ((xs.length,List.replicate xs.length 0,0):Nat×List Int×Int) (fun s=>s.1≤xs.length∧s.2.1.length=xs.length∧Dg 10000 s.2.1∧(0≤s.2.2∧s.2.2<d)∧val 10000 (xs.drop s.1)=val 10000 (s.2.1.drop s.1)*d+s.2.2) (fun s=>s.1)
  (fun s=>[(8,.int .i64 ((s.1:Int)-1)),(7,.int .i64 s.2.2),(6,.osl 11 0 xs.length)]) (fun s=>[(11,.arr .i64 s.2.1)]) ?_ ?_ ?_
 ·exact V.wk
 ·exact⟨jiB _,by simp,jch (by omega) _,⟨by simp,hd0⟩,by simp[val]⟩
 rintro⟨k,out,r⟩ ⟨h1,h2,h3,h4,h5⟩
 dsimp only at h1 h2 h3 h4 h5 ⊢
 (conv=>whnf)
 refine V.st ?_
 refine V.br (fun hq=>?_) (fun hq=>?_)
 ·rw[decide_eq_true_eq] at hq
  obtain⟨j,rfl⟩:∃ j,k=j+1:=⟨k-1,by omega⟩
  have hj:j<xs.length:=by omega
  have bx:=jaj (by omega) hdx j
  generalize hx0:xs.getD j 0=x at *
  have e2:(((j+1:Nat):Int)-1)=(j:Int):=by omega
  have hb:=jeP (B:=10000) hd0 h4 bx
  have hst:=jeO (B:=10000) hj (by omega) hx0 h5 (t:=r*10000+x) rfl
  have hr0:0≤r*10000+x:=by omega
  refine V.r0 (V.a4 e2 @jiy @jiA hx0) ?_
  exact⟨(j,out.set j ((r*10000+x)/d),(r*10000+x)%d),⟨by dsimp only;omega,by dsimp only;rw[jjq];exact h2,jdI h3 ⟨hb.1,hb.2.1⟩,⟨hb.2.2.1,hb.2.2.2⟩,hst⟩,by dsimp only;omega,V.wk⟩
 ·rw[decide_eq_false_iff_not] at hq
  obtain rfl:k=0:=by omega
  rw[List.drop_zero,List.drop_zero] at h5
  have e1:val 10000 xs/d=val 10000 out:=by
   rw[h5,Int.add_comm,Int.add_mul_ediv_right _ _ (by omega),Int.ediv_eq_zero_of_lt h4.1 h4.2,Int.zero_add]
  have e2:val 10000 xs%d=r:=by
   rw[h5,Int.add_comm,Int.add_mul_emod_self_right,Int.emod_eq_of_lt h4.1 h4.2]
  have hc:=cut_c out h3 (by omega)
  rw[← e1,← jjs (l:=out),h2] at hc
  (conv=>whnf)
  refine V.st ?_
  repeat ((try ((with_reducible refine .ext ?_);(conv=>whnf)));(with_reducible refine jaa (r:=?_) ?_ ?_);rotate_left;(focus (first|exact(hc)));(conv=>whnf);refine V.st ?_)
  exact Fin.of (by rw[e1,e2])
theorem jba (B:Nat)(l:List Int)(k:Nat):val B (l.drop k)=l.getD k 0+B*val B (l.drop (k+1)):=by
 rcases jiI k l.length with h|h
 ·exact jb9 h
 ·rw[jjt h,jjt (by omega),jck h];simp[val]
theorem jej {B:Nat}{l:List Int}(hB:2≤B)(hd:Dg B l)(k:Nat):val B (l.drop k)*(B:Int)^k≤val B l∧val B l<(val B (l.drop k)+1)*(B:Int)^k:=by
 rcases Nat.le_total k l.length with h|h
 ·have h1:=jb2 B l k h
  have h2:=jak (jbq hd k)
  have h3:=jcm (jbq hd k)
  rw[ji9,jix h] at h3
  rw[jiV,Int.one_mul,h1,jiN (val B (l.drop k))]
  omega
 ·rw[jjt h]
  have h2:=jak hd
  have h3:=jcm hd
  have h4:B^l.length≤B^k:=jiR (by omega) h
  have h5:((B^l.length:Nat):Int)≤((B^k:Nat):Int):=by exact_mod_cast h4
  rw[jiU,jiU] at h5
  simp[val]
  omega
theorem trial_ends {B F top P R b:Int}(hB:2≤B)(hP:0<P)(ht:B≤top)(hF0:0≤F)(hb1:top*P≤b)(hb2:b<(top+1)*P)(hR1:F*P≤R)(hR2:R<(F+1)*P)(hlt:R<B*b) :
  0≤F/(top+1)∧F/(top+1)*b≤R∧R<(F/top+1)*b∧F/top+1≤B+1:=by
 have h0:0≤F/(top+1):=Int.ediv_nonneg hF0 (by omega)
 refine⟨h0,?_,?_,?_⟩
 ·have h1:F/(top+1)*b≤F/(top+1)*((top+1)*P):=jiP (by omega) h0
  have h2:F/(top+1)*(top+1)≤F:=Int.ediv_mul_le _ (by omega)
  have h3:F/(top+1)*(top+1)*P≤F*P:=jiG h2 (by omega)
  rw[jiO] at h3
  omega
 ·have h1:F<(F/top+1)*top:=Int.lt_ediv_add_one_mul_self _ (by omega)
  have h2:(F+1)*P≤(F/top+1)*top*P:=jiG (by omega) (by omega)
  have h4:0≤F/top:=Int.ediv_nonneg hF0 (by omega)
  have h3:(F/top+1)*(top*P)≤(F/top+1)*b:=jiP hb1 (by omega)
  rw[jiO] at h2
  omega
 ·have h1:F*P<B*(top+1)*P:=by
   have:B*b<B*((top+1)*P):=Int.mul_lt_mul_of_pos_left hb2 (by omega)
   rw[jiO];omega
  have h2:=Int.lt_of_mul_lt_mul_right h1 (by omega)
  rw[jiM,Int.mul_one] at h2
  have h3:F/top<B+1:=Int.ediv_lt_of_lt_mul (by omega) (by rw[jiV,Int.one_mul];omega)
  omega
theorem trial_out {R b low high:Int}(hb:0<b)(h1:low*b≤R)(h2:R<high*b)(h3:high-low≤1):low=R/b∧R-b*low=R%b:=by
 have h4:low<high:=Int.lt_of_mul_lt_mul_right (Int.lt_of_le_of_lt h1 h2) (by omega)
 obtain rfl:high=low+1:=by omega
 have h5:low=R/b:=by
  refine Int.le_antisymm ((Int.le_ediv_iff_mul_le hb).2 h1) ?_
  have:=(Int.ediv_lt_iff_lt_mul hb).2 h2
  omega
 refine⟨h5,?_⟩
 have:=jiv R b
 rw[h5];omega
end Go.Proofs.YtpkdedncgclblaaGreatDoor
end
