/- What functions of the program answer at given values, part 11. Conditions: those that each theorem names. -/
import Derived.Test.YtpkdedncgclblaaGreatDoorProgramRunsH10
import Derived.Test.YtpkdedncgclblaaGreatDoorProgramRunsH8
import Derived.Lib.BitFns
import Derived.Laws.Bits64b
import Derived.Test.YtpkdedncgclblaaGreatDoorProgramRunsH6
import Derived.Lib.LaidTab
import Derived.Stop.LaidErr
import Derived.LaidMore
import Derived.Test.YtpkdedncgclblaaGreatDoorProgramRunsH7
import Derived.Defers
import Derived.Recover
import Derived.Tactics
import Derived.Tactics2
import Derived.Laws.Pointers
import Derived.RegionTactic
import Derived.ChangeAlike
set_option linter.unusedSimpArgs false
set_option linter.unusedVariables false
set_option maxHeartbeats 8000000
set_option maxRecDepth 100000
section
namespace Go.Proofs.YtpkdedncgclblaaGreatDoor
open Go Go.V Go.Nb
def lw (a b c d:Int):Nat→List Int
 | 0=>[0,0,0,0]
 | 1=>[a,0,0,0]
 | 2=>[a,b,0,0]
 | 3=>[a,b,c,0]
 | _=>[a,b,c,d]
theorem jif:type_of% @Int.add_zero∧type_of% @Int.mul_one∧type_of% @Int.mul_zero∧type_of% @Int.natCast_one∧type_of% @Int.natCast_zero∧type_of% @Int.toNat_one∧type_of% @Int.toNat_zero∧type_of% @Int.zero_add∧type_of% @jji ∧ type_of% @List.length_nil.{0} ∧ type_of% @List.set_cons_succ.{0} ∧ type_of% @List.set_cons_zero.{0} ∧ type_of% @Nat.mul_one∧type_of% @Nat.mul_zero∧type_of% @jiy:=⟨@Int.add_zero,@Int.mul_one,@Int.mul_zero,@Int.natCast_one,@Int.natCast_zero,@Int.toNat_one,@Int.toNat_zero,@Int.zero_add,@jji,@List.length_nil.{0},@List.set_cons_succ.{0},@List.set_cons_zero.{0},@Nat.mul_one,@Nat.mul_zero,@jiy⟩
theorem spread_0 (p q p2 q2:Int)(g:Nat) (ev:Int→Int→Bool→Int)(okk:Int→Int→Bool→Bool)
  (hg:∀ x y u,(x=p∨x=q)→(y=p2∨y=q2)→Cl g ([.int .i64 x,.int .i64 y,.bool u]++[]) (.tup [.int .i64 (ev x y u),.bool (okk x y u)])) :
  Cl 186 [bA p q,bA p2 q2,.fn g [] []] (bD (if (okk p p2 false && okk p p2 true && okk p q2 false && okk p q2 true && okk q p2 false && okk q p2 true && okk q q2 false && okk q q2 true)=true then mk (min (min (min (ev p p2 false) (ev p q2 false)) (ev q p2 false)) (ev q q2 false)) (max (max (max (ev p p2 true) (ev p q2 true)) (ev q p2 true)) (ev q q2 true)) else (0,0,6))):=by
 refine V.en tbOk Tryz.func186 ?_
 (conv=>whnf)
 refine V.st ?_
 refine jgm (β:=Bool×List Int×List Int) 0 (fun y=>(y.1=true→(okk p p2 false && okk p p2 true && okk p q2 false && okk p q2 true && okk q p2 false && okk q p2 true && okk q q2 false && okk q q2 true)=true∧y.2.1=lw (ev p p2 false) (ev p q2 false) (ev q p2 false) (ev q q2 false) 4∧y.2.2=lw (ev p p2 true) (ev p q2 true) (ev q p2 true) (ev q q2 true) 4)∧(y.1=false→(okk p p2 false && okk p p2 true && okk p q2 false && okk p q2 true && okk q p2 false && okk q p2 true && okk q q2 false && okk q q2 true)=false))
  (fun y=>[(10,.bool y.1),(24,.any)]) (fun y=>[(8,.arr .i64 y.2.1),(9,.arr .i64 y.2.2)]) ?_ ?_
 ·refine jaf (0:Nat) (fun i=>i≤2∧(1≤i→okk p p2 false=true∧okk p p2 true=true∧okk p q2 false=true∧okk p q2 true=true)∧(2≤i→okk q p2 false=true∧okk q p2 true=true∧okk q q2 false=true∧okk q q2 true=true)) (fun i=>2-i)
   (fun i=>[(24,.int .i64 i)]) (fun i=>[(8,.arr .i64 (lw (ev p p2 false) (ev p q2 false) (ev q p2 false) (ev q q2 false) (2*i))),(9,.arr .i64 (lw (ev p p2 true) (ev p q2 true) (ev q p2 true) (ev q q2 true) (2*i)))]) ?_ ?_ ?_
  ·exact V.wk
  ·exact⟨by omega,fun h=>by omega,fun h=>by omega⟩
  intro i hi
  rcases (by omega:i=0∨i=1∨i=2) with e|e|e
  ·subst e
   (conv=>whnf)
   refine V.st ?_
   refine jaf (0:Nat) (fun j=>j≤2∧(1≤j→okk p p2 false=true∧okk p p2 true=true)∧(2≤j→okk p q2 false=true∧okk p q2 true=true)) (fun j=>2-j)
    (fun j=>[(33,.int .i64 j)]) (fun j=>[(8,.arr .i64 (lw (ev p p2 false) (ev p q2 false) (ev q p2 false) (ev q q2 false) (0+j))),(9,.arr .i64 (lw (ev p p2 true) (ev p q2 true) (ev q p2 true) (ev q q2 true) (0+j)))]) ?_ ?_ ?_
   ·exact V.wk
   ·exact⟨by omega,fun h=>by omega,fun h=>by omega⟩
   intro j hj
   rcases (by omega:j=0∨j=1∨j=2) with e|e|e
   ·subst e
    have k1:=hg p p2 false (by simp) (by simp)
    have k2:=hg p p2 true (by simp) (by simp)
    obtain⟨b1,h1⟩:∃ b,okk p p2 false=b:=⟨_,rfl⟩
    obtain⟨b2,h2⟩:∃ b,okk p p2 true=b:=⟨_,rfl⟩
    rw[h1] at k1
    rw[h2] at k2
    cases b1<;>cases b2
    ·(conv=>whnf)
     (try simp only[jif,lw,Int.reduceMul,Int.reduceAdd,Int.reduceToNat,Nat.reduceMul,Nat.reduceAdd])
     repeat ((first|refine V.s1 ?_|((try ((with_reducible refine .ext ?_);(conv=>whnf);(try simp only[jif,lw,Int.reduceMul,Int.reduceAdd,Int.reduceToNat,Nat.reduceMul,Nat.reduceAdd])));(with_reducible refine jaa (r:=?_) ?_ ?_);rotate_left;(focus (first|exact(k1)|exact(k2)));(conv=>whnf)));(try simp only[jif,lw,Int.reduceMul,Int.reduceAdd,Int.reduceToNat,Nat.reduceMul,Nat.reduceAdd]))
     exact⟨(false,lw (ev p p2 false) (ev p q2 false) (ev q p2 false) (ev q q2 false) 0,lw (ev p p2 true) (ev p q2 true) (ev q p2 true) (ev q q2 true) 0),⟨fun h=>(by cases h),fun _=>(by simp[h1,h2])⟩,V.wk⟩
    ·(conv=>whnf)
     (try simp only[jif,lw,Int.reduceMul,Int.reduceAdd,Int.reduceToNat,Nat.reduceMul,Nat.reduceAdd])
     repeat ((first|refine V.s1 ?_|((try ((with_reducible refine .ext ?_);(conv=>whnf);(try simp only[jif,lw,Int.reduceMul,Int.reduceAdd,Int.reduceToNat,Nat.reduceMul,Nat.reduceAdd])));(with_reducible refine jaa (r:=?_) ?_ ?_);rotate_left;(focus (first|exact(k1)|exact(k2)));(conv=>whnf)));(try simp only[jif,lw,Int.reduceMul,Int.reduceAdd,Int.reduceToNat,Nat.reduceMul,Nat.reduceAdd]))
     exact⟨(false,lw (ev p p2 false) (ev p q2 false) (ev q p2 false) (ev q q2 false) 0,lw (ev p p2 true) (ev p q2 true) (ev q p2 true) (ev q q2 true) 0),⟨fun h=>(by cases h),fun _=>(by simp[h1,h2])⟩,V.wk⟩
    ·(conv=>whnf)
     (try simp only[jif,lw,Int.reduceMul,Int.reduceAdd,Int.reduceToNat,Nat.reduceMul,Nat.reduceAdd])
     repeat ((first|refine V.s1 ?_|((try ((with_reducible refine .ext ?_);(conv=>whnf);(try simp only[jif,lw,Int.reduceMul,Int.reduceAdd,Int.reduceToNat,Nat.reduceMul,Nat.reduceAdd])));(with_reducible refine jaa (r:=?_) ?_ ?_);rotate_left;(focus (first|exact(k1)|exact(k2)));(conv=>whnf)));(try simp only[jif,lw,Int.reduceMul,Int.reduceAdd,Int.reduceToNat,Nat.reduceMul,Nat.reduceAdd]))
     exact⟨(false,lw (ev p p2 false) (ev p q2 false) (ev q p2 false) (ev q q2 false) 0,lw (ev p p2 true) (ev p q2 true) (ev q p2 true) (ev q q2 true) 0),⟨fun h=>(by cases h),fun _=>(by simp[h1,h2])⟩,V.wk⟩
    ·(conv=>whnf)
     (try simp only[jif,lw,Int.reduceMul,Int.reduceAdd,Int.reduceToNat,Nat.reduceMul,Nat.reduceAdd])
     repeat ((first|refine V.s1 ?_|((try ((with_reducible refine .ext ?_);(conv=>whnf);(try simp only[jif,lw,Int.reduceMul,Int.reduceAdd,Int.reduceToNat,Nat.reduceMul,Nat.reduceAdd])));(with_reducible refine jaa (r:=?_) ?_ ?_);rotate_left;(focus (first|exact(k1)|exact(k2)));(conv=>whnf)));(try simp only[jif,lw,Int.reduceMul,Int.reduceAdd,Int.reduceToNat,Nat.reduceMul,Nat.reduceAdd]))
     exact⟨1,⟨by omega,fun _=>⟨h1,h2⟩,fun _=>by omega⟩,by omega,V.wk⟩
   ·subst e
    have k1:=hg p q2 false (by simp) (by simp)
    have k2:=hg p q2 true (by simp) (by simp)
    obtain⟨b1,h1⟩:∃ b,okk p q2 false=b:=⟨_,rfl⟩
    obtain⟨b2,h2⟩:∃ b,okk p q2 true=b:=⟨_,rfl⟩
    rw[h1] at k1
    rw[h2] at k2
    cases b1<;>cases b2
    ·(conv=>whnf)
     (try simp only[jif,lw,Int.reduceMul,Int.reduceAdd,Int.reduceToNat,Nat.reduceMul,Nat.reduceAdd])
     repeat ((first|refine V.s1 ?_|((try ((with_reducible refine .ext ?_);(conv=>whnf);(try simp only[jif,lw,Int.reduceMul,Int.reduceAdd,Int.reduceToNat,Nat.reduceMul,Nat.reduceAdd])));(with_reducible refine jaa (r:=?_) ?_ ?_);rotate_left;(focus (first|exact(k1)|exact(k2)));(conv=>whnf)));(try simp only[jif,lw,Int.reduceMul,Int.reduceAdd,Int.reduceToNat,Nat.reduceMul,Nat.reduceAdd]))
     exact⟨(false,lw (ev p p2 false) (ev p q2 false) (ev q p2 false) (ev q q2 false) 1,lw (ev p p2 true) (ev p q2 true) (ev q p2 true) (ev q q2 true) 1),⟨fun h=>(by cases h),fun _=>(by simp[h1,h2])⟩,V.wk⟩
    ·(conv=>whnf)
     (try simp only[jif,lw,Int.reduceMul,Int.reduceAdd,Int.reduceToNat,Nat.reduceMul,Nat.reduceAdd])
     repeat ((first|refine V.s1 ?_|((try ((with_reducible refine .ext ?_);(conv=>whnf);(try simp only[jif,lw,Int.reduceMul,Int.reduceAdd,Int.reduceToNat,Nat.reduceMul,Nat.reduceAdd])));(with_reducible refine jaa (r:=?_) ?_ ?_);rotate_left;(focus (first|exact(k1)|exact(k2)));(conv=>whnf)));(try simp only[jif,lw,Int.reduceMul,Int.reduceAdd,Int.reduceToNat,Nat.reduceMul,Nat.reduceAdd]))
     exact⟨(false,lw (ev p p2 false) (ev p q2 false) (ev q p2 false) (ev q q2 false) 1,lw (ev p p2 true) (ev p q2 true) (ev q p2 true) (ev q q2 true) 1),⟨fun h=>(by cases h),fun _=>(by simp[h1,h2])⟩,V.wk⟩
    ·(conv=>whnf)
     (try simp only[jif,lw,Int.reduceMul,Int.reduceAdd,Int.reduceToNat,Nat.reduceMul,Nat.reduceAdd])
     repeat ((first|refine V.s1 ?_|((try ((with_reducible refine .ext ?_);(conv=>whnf);(try simp only[jif,lw,Int.reduceMul,Int.reduceAdd,Int.reduceToNat,Nat.reduceMul,Nat.reduceAdd])));(with_reducible refine jaa (r:=?_) ?_ ?_);rotate_left;(focus (first|exact(k1)|exact(k2)));(conv=>whnf)));(try simp only[jif,lw,Int.reduceMul,Int.reduceAdd,Int.reduceToNat,Nat.reduceMul,Nat.reduceAdd]))
     exact⟨(false,lw (ev p p2 false) (ev p q2 false) (ev q p2 false) (ev q q2 false) 1,lw (ev p p2 true) (ev p q2 true) (ev q p2 true) (ev q q2 true) 1),⟨fun h=>(by cases h),fun _=>(by simp[h1,h2])⟩,V.wk⟩
    ·(conv=>whnf)
     (try simp only[jif,lw,Int.reduceMul,Int.reduceAdd,Int.reduceToNat,Nat.reduceMul,Nat.reduceAdd])
     repeat ((first|refine V.s1 ?_|((try ((with_reducible refine .ext ?_);(conv=>whnf);(try simp only[jif,lw,Int.reduceMul,Int.reduceAdd,Int.reduceToNat,Nat.reduceMul,Nat.reduceAdd])));(with_reducible refine jaa (r:=?_) ?_ ?_);rotate_left;(focus (first|exact(k1)|exact(k2)));(conv=>whnf)));(try simp only[jif,lw,Int.reduceMul,Int.reduceAdd,Int.reduceToNat,Nat.reduceMul,Nat.reduceAdd]))
     exact⟨2,⟨by omega,fun _=>hj.2.1 (by omega),fun _=>⟨h1,h2⟩⟩,by omega,V.wk⟩
   ·subst e
    have o1:=hj.2.1 (by omega)
    have o2:=hj.2.2 (by omega)
    (conv=>whnf)
    refine V.st ?_
    exact⟨1,⟨by omega,fun _=>⟨o1.1,o1.2,o2.1,o2.2⟩,fun _=>by omega⟩,by omega,V.wk⟩
  ·subst e
   (conv=>whnf)
   refine V.st ?_
   refine jaf (0:Nat) (fun j=>j≤2∧(1≤j→okk q p2 false=true∧okk q p2 true=true)∧(2≤j→okk q q2 false=true∧okk q q2 true=true)) (fun j=>2-j)
    (fun j=>[(33,.int .i64 j)]) (fun j=>[(8,.arr .i64 (lw (ev p p2 false) (ev p q2 false) (ev q p2 false) (ev q q2 false) (2+j))),(9,.arr .i64 (lw (ev p p2 true) (ev p q2 true) (ev q p2 true) (ev q q2 true) (2+j)))]) ?_ ?_ ?_
   ·exact V.wk
   ·exact⟨by omega,fun h=>by omega,fun h=>by omega⟩
   intro j hj
   rcases (by omega:j=0∨j=1∨j=2) with e|e|e
   ·subst e
    have k1:=hg q p2 false (by simp) (by simp)
    have k2:=hg q p2 true (by simp) (by simp)
    obtain⟨b1,h1⟩:∃ b,okk q p2 false=b:=⟨_,rfl⟩
    obtain⟨b2,h2⟩:∃ b,okk q p2 true=b:=⟨_,rfl⟩
    rw[h1] at k1
    rw[h2] at k2
    cases b1<;>cases b2
    ·(conv=>whnf)
     (try simp only[jif,lw,Int.reduceMul,Int.reduceAdd,Int.reduceToNat,Nat.reduceMul,Nat.reduceAdd])
     repeat ((first|refine V.s1 ?_|((try ((with_reducible refine .ext ?_);(conv=>whnf);(try simp only[jif,lw,Int.reduceMul,Int.reduceAdd,Int.reduceToNat,Nat.reduceMul,Nat.reduceAdd])));(with_reducible refine jaa (r:=?_) ?_ ?_);rotate_left;(focus (first|exact(k1)|exact(k2)));(conv=>whnf)));(try simp only[jif,lw,Int.reduceMul,Int.reduceAdd,Int.reduceToNat,Nat.reduceMul,Nat.reduceAdd]))
     exact⟨(false,lw (ev p p2 false) (ev p q2 false) (ev q p2 false) (ev q q2 false) 2,lw (ev p p2 true) (ev p q2 true) (ev q p2 true) (ev q q2 true) 2),⟨fun h=>(by cases h),fun _=>(by simp[h1,h2])⟩,V.wk⟩
    ·(conv=>whnf)
     (try simp only[jif,lw,Int.reduceMul,Int.reduceAdd,Int.reduceToNat,Nat.reduceMul,Nat.reduceAdd])
     repeat ((first|refine V.s1 ?_|((try ((with_reducible refine .ext ?_);(conv=>whnf);(try simp only[jif,lw,Int.reduceMul,Int.reduceAdd,Int.reduceToNat,Nat.reduceMul,Nat.reduceAdd])));(with_reducible refine jaa (r:=?_) ?_ ?_);rotate_left;(focus (first|exact(k1)|exact(k2)));(conv=>whnf)));(try simp only[jif,lw,Int.reduceMul,Int.reduceAdd,Int.reduceToNat,Nat.reduceMul,Nat.reduceAdd]))
     exact⟨(false,lw (ev p p2 false) (ev p q2 false) (ev q p2 false) (ev q q2 false) 2,lw (ev p p2 true) (ev p q2 true) (ev q p2 true) (ev q q2 true) 2),⟨fun h=>(by cases h),fun _=>(by simp[h1,h2])⟩,V.wk⟩
    ·(conv=>whnf)
     (try simp only[jif,lw,Int.reduceMul,Int.reduceAdd,Int.reduceToNat,Nat.reduceMul,Nat.reduceAdd])
     repeat ((first|refine V.s1 ?_|((try ((with_reducible refine .ext ?_);(conv=>whnf);(try simp only[jif,lw,Int.reduceMul,Int.reduceAdd,Int.reduceToNat,Nat.reduceMul,Nat.reduceAdd])));(with_reducible refine jaa (r:=?_) ?_ ?_);rotate_left;(focus (first|exact(k1)|exact(k2)));(conv=>whnf)));(try simp only[jif,lw,Int.reduceMul,Int.reduceAdd,Int.reduceToNat,Nat.reduceMul,Nat.reduceAdd]))
     exact⟨(false,lw (ev p p2 false) (ev p q2 false) (ev q p2 false) (ev q q2 false) 2,lw (ev p p2 true) (ev p q2 true) (ev q p2 true) (ev q q2 true) 2),⟨fun h=>(by cases h),fun _=>(by simp[h1,h2])⟩,V.wk⟩
    ·(conv=>whnf)
     (try simp only[jif,lw,Int.reduceMul,Int.reduceAdd,Int.reduceToNat,Nat.reduceMul,Nat.reduceAdd])
     repeat ((first|refine V.s1 ?_|((try ((with_reducible refine .ext ?_);(conv=>whnf);(try simp only[jif,lw,Int.reduceMul,Int.reduceAdd,Int.reduceToNat,Nat.reduceMul,Nat.reduceAdd])));(with_reducible refine jaa (r:=?_) ?_ ?_);rotate_left;(focus (first|exact(k1)|exact(k2)));(conv=>whnf)));(try simp only[jif,lw,Int.reduceMul,Int.reduceAdd,Int.reduceToNat,Nat.reduceMul,Nat.reduceAdd]))
     exact⟨1,⟨by omega,fun _=>⟨h1,h2⟩,fun _=>by omega⟩,by omega,V.wk⟩
   ·subst e
    have k1:=hg q q2 false (by simp) (by simp)
    have k2:=hg q q2 true (by simp) (by simp)
    obtain⟨b1,h1⟩:∃ b,okk q q2 false=b:=⟨_,rfl⟩
    obtain⟨b2,h2⟩:∃ b,okk q q2 true=b:=⟨_,rfl⟩
    rw[h1] at k1
    rw[h2] at k2
    cases b1<;>cases b2
    ·(conv=>whnf)
     (try simp only[jif,lw,Int.reduceMul,Int.reduceAdd,Int.reduceToNat,Nat.reduceMul,Nat.reduceAdd])
     repeat ((first|refine V.s1 ?_|((try ((with_reducible refine .ext ?_);(conv=>whnf);(try simp only[jif,lw,Int.reduceMul,Int.reduceAdd,Int.reduceToNat,Nat.reduceMul,Nat.reduceAdd])));(with_reducible refine jaa (r:=?_) ?_ ?_);rotate_left;(focus (first|exact(k1)|exact(k2)));(conv=>whnf)));(try simp only[jif,lw,Int.reduceMul,Int.reduceAdd,Int.reduceToNat,Nat.reduceMul,Nat.reduceAdd]))
     exact⟨(false,lw (ev p p2 false) (ev p q2 false) (ev q p2 false) (ev q q2 false) 3,lw (ev p p2 true) (ev p q2 true) (ev q p2 true) (ev q q2 true) 3),⟨fun h=>(by cases h),fun _=>(by simp[h1,h2])⟩,V.wk⟩
    ·(conv=>whnf)
     (try simp only[jif,lw,Int.reduceMul,Int.reduceAdd,Int.reduceToNat,Nat.reduceMul,Nat.reduceAdd])
     repeat ((first|refine V.s1 ?_|((try ((with_reducible refine .ext ?_);(conv=>whnf);(try simp only[jif,lw,Int.reduceMul,Int.reduceAdd,Int.reduceToNat,Nat.reduceMul,Nat.reduceAdd])));(with_reducible refine jaa (r:=?_) ?_ ?_);rotate_left;(focus (first|exact(k1)|exact(k2)));(conv=>whnf)));(try simp only[jif,lw,Int.reduceMul,Int.reduceAdd,Int.reduceToNat,Nat.reduceMul,Nat.reduceAdd]))
     exact⟨(false,lw (ev p p2 false) (ev p q2 false) (ev q p2 false) (ev q q2 false) 3,lw (ev p p2 true) (ev p q2 true) (ev q p2 true) (ev q q2 true) 3),⟨fun h=>(by cases h),fun _=>(by simp[h1,h2])⟩,V.wk⟩
    ·(conv=>whnf)
     (try simp only[jif,lw,Int.reduceMul,Int.reduceAdd,Int.reduceToNat,Nat.reduceMul,Nat.reduceAdd])
     repeat ((first|refine V.s1 ?_|((try ((with_reducible refine .ext ?_);(conv=>whnf);(try simp only[jif,lw,Int.reduceMul,Int.reduceAdd,Int.reduceToNat,Nat.reduceMul,Nat.reduceAdd])));(with_reducible refine jaa (r:=?_) ?_ ?_);rotate_left;(focus (first|exact(k1)|exact(k2)));(conv=>whnf)));(try simp only[jif,lw,Int.reduceMul,Int.reduceAdd,Int.reduceToNat,Nat.reduceMul,Nat.reduceAdd]))
     exact⟨(false,lw (ev p p2 false) (ev p q2 false) (ev q p2 false) (ev q q2 false) 3,lw (ev p p2 true) (ev p q2 true) (ev q p2 true) (ev q q2 true) 3),⟨fun h=>(by cases h),fun _=>(by simp[h1,h2])⟩,V.wk⟩
    ·(conv=>whnf)
     (try simp only[jif,lw,Int.reduceMul,Int.reduceAdd,Int.reduceToNat,Nat.reduceMul,Nat.reduceAdd])
     repeat ((first|refine V.s1 ?_|((try ((with_reducible refine .ext ?_);(conv=>whnf);(try simp only[jif,lw,Int.reduceMul,Int.reduceAdd,Int.reduceToNat,Nat.reduceMul,Nat.reduceAdd])));(with_reducible refine jaa (r:=?_) ?_ ?_);rotate_left;(focus (first|exact(k1)|exact(k2)));(conv=>whnf)));(try simp only[jif,lw,Int.reduceMul,Int.reduceAdd,Int.reduceToNat,Nat.reduceMul,Nat.reduceAdd]))
     exact⟨2,⟨by omega,fun _=>hj.2.1 (by omega),fun _=>⟨h1,h2⟩⟩,by omega,V.wk⟩
   ·subst e
    have o1:=hj.2.1 (by omega)
    have o2:=hj.2.2 (by omega)
    (conv=>whnf)
    refine V.st ?_
    exact⟨2,⟨by omega,fun _=>hi.2.1 (by omega),fun _=>⟨o1.1,o1.2,o2.1,o2.2⟩⟩,by omega,V.wk⟩
  ·subst e
   have o1:=hi.2.1 (by omega)
   have o2:=hi.2.2 (by omega)
   (conv=>whnf)
   refine V.st ?_
   exact⟨(true,lw (ev p p2 false) (ev p q2 false) (ev q p2 false) (ev q q2 false) 4,lw (ev p p2 true) (ev p q2 true) (ev q p2 true) (ev q q2 true) 4),⟨fun _=>⟨by simp[o1.1,o1.2.1,o1.2.2.1,o1.2.2.2,o2.1,o2.2.1,o2.2.2.1,o2.2.2.2],rfl,rfl⟩,fun h=>(by cases h)⟩,V.wk⟩
 ·rintro⟨b,ls,hs⟩ hy
  cases b
  ·rw[if_neg (by rw[hy.2 rfl];simp)]
   clear hy
   dsimp only
   (conv=>whnf)
   refine V.st ?_
   exact Fin.of rfl
  ·obtain⟨a1,a2,a3⟩:=hy.1 rfl
   dsimp only at a2 a3
   rw[if_pos a1]
   subst a2 a3
   clear hy
   dsimp only
   have kl:=jgn (ev p p2 false) [ev p q2 false,ev q p2 false,ev q q2 false] (by simp)
   have kg:=jbZ (ev p p2 true) [ev p q2 true,ev q p2 true,ev q q2 true] (by simp)
   rw[show [ev p q2 false,ev q p2 false,ev q q2 false].foldl min (ev p p2 false)=min (min (min (ev p p2 false) (ev p q2 false)) (ev q p2 false)) (ev q q2 false) from rfl] at kl
   rw[show [ev p q2 true,ev q p2 true,ev q q2 true].foldl max (ev p p2 true)=max (max (max (ev p p2 true) (ev p q2 true)) (ev q p2 true)) (ev q q2 true) from rfl] at kg
   have km:=jeR (min (min (min (ev p p2 false) (ev p q2 false)) (ev q p2 false)) (ev q q2 false)) (max (max (max (ev p p2 true) (ev p q2 true)) (ev q p2 true)) (ev q q2 true))
   generalize min (min (min (ev p p2 false) (ev p q2 false)) (ev q p2 false)) (ev q q2 false)=lo at *
   generalize max (max (max (ev p p2 true) (ev p q2 true)) (ev q p2 true)) (ev q q2 true)=hi at *
   generalize mk lo hi=r at *
   (conv=>whnf)
   refine V.st ?_
   refine⟨(V.tk [0,2] (V.e1 1 [2] (V.e1 3 [] (V.e1 4 [] (V.tk [5,6] (V.e1 7 [] (V.tk [8] .done))))))),[],V.pok,.go (jab ?_)⟩
   (conv=>whnf)
   refine V.st ?_
   repeat ((try ((with_reducible refine .ext ?_);(conv=>whnf)));(with_reducible refine jaa (r:=?_) ?_ ?_);rotate_left;(focus (first|exact(kl)|exact(kg)|exact(km)));(conv=>whnf);refine V.st ?_)
   exact Fin.of rfl
end Go.Proofs.YtpkdedncgclblaaGreatDoor
end
section
namespace Go.Nb
structure Tr (B top v2 head u2:Int):Prop where
 hB:2≤B
 t1:1≤top
 tB:top<B
 v0:0≤v2
 vB:v2<B
 u0:0≤u2
 uB:u2<B
 h0:0≤head
 lt:head*B+u2<B*(top*B+v2)
section
variable {B top v2 head u2 : Int}
theorem Tr.kn (T:Tr B top v2 head u2):Kn B top v2 0 u2 0 head (head*B+u2) (top*B+v2) 1:=
 { hB:=T.hB,hP:=by omega,ht:=T.t1,hv:=by omega,hu:=by omega,v20:=T.v0,v2B:=T.vB,u20:=T.u0,u2B:=T.uB,vr0:=by omega,vrP:=by omega,ur0:=by omega,urP:=by omega,hh:=T.h0,htB:=T.tB,lt:=T.lt }
theorem Tr.vpos (T:Tr B top v2 head u2):0<top*B+v2:=T.kn.vpos
theorem Tr.qnn (T:Tr B top v2 head u2):0≤(head*B+u2)/(top*B+v2):=by
 have h1:0≤head*B:=jiw T.h0 (by have:=T.hB;omega)
 exact Int.ediv_nonneg (by have:=T.u0;omega) (by have:=T.vpos;omega)
theorem Tr.qmul (T:Tr B top v2 head u2):(head*B+u2)/(top*B+v2)*(top*B+v2)≤head*B+u2:=Int.ediv_mul_le _ (by have:=T.vpos;omega)
theorem Tr.init (T:Tr B top v2 head u2):(head*B+u2)/(top*B+v2)≤head/top:=T.kn.init T.qnn T.qmul
theorem Tr.step (T:Tr B top v2 head u2){q r:Int}(hq:(head*B+u2)/(top*B+v2)≤q)(hr:head=q*top+r)(hc:B≤q∨r*B+u2<q*v2) :
  (head*B+u2)/(top*B+v2)≤q-1∧head=(q-1)*top+(r+top):=
 ⟨T.kn.step T.qnn T.qmul hq hr hc,by rw[Int.sub_mul,Int.one_mul];omega⟩
theorem Tr.fin (T:Tr B top v2 head u2){q:Int}(hq:(head*B+u2)/(top*B+v2)≤q)(h:q*(top*B+v2)≤head*B+u2):q=(head*B+u2)/(top*B+v2):=by
 have:=(Int.le_ediv_iff_mul_le T.vpos).2 h
 omega
theorem Tr.exit1 (T:Tr B top v2 head u2){q r:Int}(hq:(head*B+u2)/(top*B+v2)≤q)(hr:head=q*top+r)(h2:q*v2≤r*B+u2):q=(head*B+u2)/(top*B+v2):=by
 refine T.fin hq ?_
 have e:head*B=q*(top*B)+r*B:=by rw[hr,jiV,jiO]
 rw[jiM,e]
 omega
theorem Tr.exit2 (T:Tr B top v2 head u2){q r:Int}(hq:(head*B+u2)/(top*B+v2)≤q)(hr:head=q*top+r)(h2:B≤r):q<B∧q=(head*B+u2)/(top*B+v2):=by
 have hq0:0≤q:=Int.le_trans T.qnn hq
 have hqB:=(T.kn.out2 hq0 hr h2).1
 refine⟨hqB,T.fin hq ?_⟩
 have e:head*B=q*(top*B)+r*B:=by rw[hr,jiV,jiO]
 have h3:B*B≤r*B:=jiG h2 (by have:=T.hB;omega)
 have h4:q*v2≤B*B:=Int.mul_le_mul (by omega) (by have:=T.vB;omega) T.v0 (by have:=T.hB;omega)
 have:=T.u0
 rw[jiM,e]
 omega
theorem Tr.lt' (T:Tr B top v2 head u2):(head*B+u2)/(top*B+v2)<B:=T.kn.qlt T.qmul
end
structure Tq (B top v2 head u2 Q:Int):Prop where
 T:Tr B top v2 head u2
 e:(head*B+u2)/(top*B+v2)=Q
section
variable {B top v2 head u2 Q : Int}
theorem Tq.init (T:Tq B top v2 head u2 Q):Q≤head/top:=by rw[← T.e];exact T.T.init
theorem Tq.step (T:Tq B top v2 head u2 Q){q r:Int}(hq:Q≤q)(hr:head=q*top+r)(hc:B≤q∨r*B+u2<q*v2):Q≤q-1∧head=(q-1)*top+(r+top):=by
 rw[← T.e] at hq ⊢; exact T.T.step hq hr hc
theorem Tq.exit1 (T:Tq B top v2 head u2 Q){q r:Int}(hq:Q≤q)(hr:head=q*top+r)(h2:q*v2≤r*B+u2):q=Q:=by
 rw[← T.e] at hq ⊢; exact T.T.exit1 hq hr h2
theorem Tq.exit2 (T:Tq B top v2 head u2 Q){q r:Int}(hq:Q≤q)(hr:head=q*top+r)(h2:B≤r):q=Q:=by
 rw[← T.e] at hq ⊢; exact(T.T.exit2 hq hr h2).2
theorem Tq.lt (T:Tq B top v2 head u2 Q):Q<B:=by rw[← T.e];exact T.T.lt'
end
theorem two_digits {B V u1 u0 h:Nat}(hV:0<V)(hu:u0<B) :
  ((h*B+u1)*B+u0)/V=(h*B+u1)/V*B+((h*B+u1)%V*B+u0)/V∧((h*B+u1)*B+u0)%V=((h*B+u1)%V*B+u0)%V:=by
 generalize h*B+u1=U
 have e:U*B+u0=U%V*B+u0+V*(U/V*B):=by
  have h1:=Nat.div_add_mod U V
  have h2:U*B=(V*(U/V)+U%V)*B:=by rw[h1]
  rw[h2,Nat.add_mul,Nat.mul_assoc]
  omega
 constructor
 ·rw[e,Nat.add_mul_div_left _ _ hV];omega
 ·rw[e,Nat.add_mul_mod_self_left]
theorem shl_or {hi lo s:Nat}(hs:s≤64)(hl:lo<18446744073709551616):(hi*2^s ||| lo/2^(64-s))=(hi*18446744073709551616+lo)*2^s/18446744073709551616:=by
 have hp:2^s*2^(64-s)=18446744073709551616:=by rw[← Nat.pow_add,show s+(64-s)=64 by omega]
 have hlt:lo/2^(64-s)<2^s:=by
  refine Nat.div_lt_of_lt_mul ?_
  rw[Nat.mul_comm,hp];exact hl
 rw[Nat.mul_comm hi,← Nat.two_pow_add_eq_or_of_lt hlt,Nat.add_mul]
 have e1:hi*18446744073709551616*2^s=18446744073709551616*(2^s*hi):=by ac_rfl
 rw[e1,Nat.add_comm,Nat.add_comm _ (lo*2^s),Nat.add_mul_div_left _ _ (by omega)]
 congr 1
 have e2:lo*2^s/(2^s*2^(64-s))=lo/2^(64-s):=by
  rw[← Nat.div_div_eq_div_mul,Nat.mul_div_cancel _ (Nat.pow_pos (by omega))]
 rw[hp] at e2
 exact e2.symm
end Go.Nb
end
section
namespace Go.Nb
theorem bla_lt:∀ (f x:Nat),x<2^f→x<2^Go.Lib.bitLenAux f x
 | 0,x,h=>by simpa [Go.Lib.bitLenAux] using h
 | f+1,x,h=>by
  unfold Go.Lib.bitLenAux
  split
  ·rename_i h0;subst h0;exact Nat.pow_pos (by omega)
  ·have h2:=bla_lt f (x/2) (by rw[Nat.pow_succ] at h;omega)
   rw[Nat.add_comm,Nat.pow_succ]
   omega
theorem bla_ge:∀ (f x:Nat),x<2^f→x≠0→2^Go.Lib.bitLenAux f x≤2*x
 | 0,x,h,h0=>by simp at h;exact absurd h h0
 | f+1,x,h,h0=>by
  unfold Go.Lib.bitLenAux
  rw[if_neg h0,Nat.add_comm,Nat.pow_succ]
  by_cases h1:x/2=0
  ·rw[h1]
   have:Go.Lib.bitLenAux f 0=0:=by cases f<;>simp[Go.Lib.bitLenAux]
   rw[this];omega
  ·have h2:=bla_ge f (x/2) (by rw[Nat.pow_succ] at h;omega) h1
   omega
theorem lz_spec (y:Nat)(h0:0<y)(h:y<18446744073709551616):∃ s:Nat,(64-(Go.Lib.bitLen y:Int))=s∧s≤63∧9223372036854775808≤y*2^s∧y*2^s<18446744073709551616:=by
 have h1:=bla_lt 64 y h
 have h2:=bla_ge 64 y h (by omega)
 have h3:=Go.Lib.bitLenAux_le 64 y 64 h
 have h4:Go.Lib.bitLenAux 64 y≠0:=fun e=>by rw[e] at h1;omega
 unfold Go.Lib.bitLen
 generalize Go.Lib.bitLenAux 64 y=l at *
 refine⟨64-l,by omega,by omega,?_,?_⟩
 ·have e:2^l*2^(64-l)=18446744073709551616:=by rw[← Nat.pow_add,show l+(64-l)=64 by omega]
  have h5:2^l*2^(64-l)≤2*y*2^(64-l):=jiD _ h2
  rw[e,Nat.mul_assoc] at h5
  omega
 ·have e:2^l*2^(64-l)=18446744073709551616:=by rw[← Nat.pow_add,show l+(64-l)=64 by omega]
  have h5:y*2^(64-l)<2^l*2^(64-l):=Nat.mul_lt_mul_of_pos_right h1 (Nat.pow_pos (by omega))
  omega
theorem wrapN (a:Nat)(ha:a<18446744073709551616):IntKind.u64.wrap (a:Int)=(a:Int):=by rw[IntKind.wrap_u64];omega
theorem maskN (a:Nat)(ha:a<18446744073709551616):bits .and .u64 (a:Int) 4294967295=((a%4294967296:Nat):Int):=by
 have h:=bits_and_u64_nat a 4294967295 ha (by omega)
 have e:a &&& 4294967295=a%4294967296:=Nat.and_two_pow_sub_one_eq_mod a 32
 rw[e] at h
 exact h
end Go.Nb
namespace Go.Proofs.YtpkdedncgclblaaGreatDoor
open Go Go.V Go.Nb
theorem lz_c (x:Nat)(h0:0<x)(hx:x<18446744073709551616):Called Tryz.prog 253 [.int .u64 x] (.int .i64 (64-(Lib.bitLen x:Int))):=by
 refine jaL Tryz.func253 rfl rfl rfl fun w hp vs ha hd=>?_
 simp only[DenL,Den] at hd
 obtain⟨v,_,rfl,⟨rfl,h1⟩,rfl⟩:=hd
 refine(Tryz.bits_LeadingZeros64 x w (by omega) (by omega)).mono fun e w' ⟨he,hw⟩=>⟨⟨_,he,fun hp=>?_⟩,?_⟩
 ·rw[jiA]
  obtain⟨s,hs,_⟩:=lz_spec x h0 hx
  rw[hs]
  simp only[Den]
  exact⟨trivial,by simp only[V.lo];omega,by simp only[V.hi];omega⟩
 ·rw[hw];exact RowKit.Below.refl _ _
structure Dv (hi lo y s Y yn1 yn0 t A C un32 un10 un1 un0:Nat):Prop where
 s63:s≤63
 tt:(64-(s:Int)).toNat=t
 Yl:9223372036854775808≤Y
 Yu:Y<18446744073709551616
 Ye:Y=y*2^s
 y1:Y/4294967296=yn1
 y0:Y%4294967296=yn0
 Ae:hi*2^s=A
 Al:A<18446744073709551616
 Ce:lo/2^t=C
 Cl:C<18446744073709551616
 u32:A ||| C=un32
 u32e:un32=(hi*18446744073709551616+lo)*2^s/18446744073709551616
 u32l:un32<Y
 u10:lo*2^s%18446744073709551616=un10
 u1:un10/4294967296=un1
 u0:un10%4294967296=un0
theorem dv_of (hi lo y s:Nat)(h1:hi<y)(h2:lo<18446744073709551616)(h3:y<18446744073709551616)(hs:s≤63)(hl:9223372036854775808≤y*2^s)(hu:y*2^s<18446744073709551616) :
  ∃ Y yn1 yn0 t A C un32 un10 un1 un0,Dv hi lo y s Y yn1 yn0 t A C un32 un10 un1 un0:=by
 have hA:(hi+1)*2^s≤y*2^s:=jiD _ h1
 have hp:0<2^s:=Nat.pow_pos (by omega)
 have e0:hi*2^s ||| lo/2^(64-s)=(hi*18446744073709551616+lo)*2^s/18446744073709551616:=shl_or (by omega) h2
 have hlt:(hi*18446744073709551616+lo)*2^s/18446744073709551616<y*2^s:=by
  refine Nat.div_lt_of_lt_mul ?_
  have h5:(hi*18446744073709551616+lo)*2^s<(hi*18446744073709551616+18446744073709551616)*2^s:=Nat.mul_lt_mul_of_pos_right (by omega) hp
  have h6:(hi*18446744073709551616+18446744073709551616)*2^s=18446744073709551616*((hi+1)*2^s):=by
   rw[← Nat.mul_assoc];congr 1;omega
  have h7:18446744073709551616*((hi+1)*2^s)≤18446744073709551616*(y*2^s):=Nat.mul_le_mul_left _ hA
  omega
 exact⟨_,_,_,_,_,_,_,_,_,_, { s63:=hs,tt:=rfl,Yl:=hl,Yu:=hu,Ye:=rfl,y1:=rfl,y0:=rfl,Ae:=rfl,Al:=by rw[Nat.add_mul] at hA;omega,Ce:=rfl,Cl:=Nat.lt_of_le_of_lt (jiS _ _) h2,u32:=rfl,u32e:=by rw[show (64-(s:Int)).toNat=64-s by omega];exact e0,u32l:=by rw[show (64-(s:Int)).toNat=64-s by omega,e0];exact hlt,u10:=rfl,u1:=rfl,u0:=rfl }⟩
theorem div64_c:DivOk:=by
 intro hi lo y h1 h2 h3
 have hy:0<y:=by omega
 have kl:=lz_c y hy h3
 obtain⟨s,hs,hs63,hsl,hsu⟩:=lz_spec y hy h3
 rw[hs] at kl
 by_cases hz:hi=0
 ·subst hz
  rw[show 0*18446744073709551616+lo=lo by omega]
  clear kl
  refine V.en tbOk Tryz.func230 ?_
  (conv=>whnf)
  refine V.st ?_
  refine V.br (fun q1=>?_) (fun q1=>?_)
  ·rw[decide_eq_true_eq] at q1;omega
  (conv=>whnf)
  refine V.st ?_
  refine V.br (fun q2=>?_) (fun q2=>?_)
  ·rw[decide_eq_true_eq] at q2;omega
  (conv=>whnf)
  refine V.st ?_
  refine⟨(V.tk [0,1,2,3,4,5,6,7] .done),[],V.pok,.go (jab ?_)⟩
  (conv=>whnf)
  refine V.st ?_
  exact Fin.of (by simp only[Int.natCast_ediv,Int.natCast_emod])
 ·obtain⟨Y,yn1,yn0,t,A,C,un32,un10,un1,un0,Z⟩:=dv_of hi lo y s h1 h2 h3 hs63 hsl hsu
  obtain⟨_,ht,Yl,Yu,Ye,y1,y0,Ae,Al,Ce,Cl,u32,u32e,u32l,u10,u1,u0⟩:=Z
  have r1:IntKind.u64.wrap ((y:Int)*2^s)=(Y:Int):=by rw[Ye,← wrapN (y*2^s) (by omega)];congr 1
  have r2:(Y:Int)/4294967296=(yn1:Int):=by omega
  have r3:bits .and .u64 (Y:Int) 4294967295=(yn0:Int):=by rw[maskN Y Yu,y0]
  have r4:IntKind.u64.wrap ((hi:Int)*2^s)=(A:Int):=by rw[← Ae,← wrapN (hi*2^s) (by omega)];congr 1
  have r5:(lo:Int)/2^t=(C:Int):=by rw[← Ce];exact_mod_cast rfl
  have r6:bits .or .u64 (A:Int) (C:Int)=(un32:Int):=by rw[bits_or_u64_nat A C Al Cl,u32]
  have r7:IntKind.u64.wrap ((lo:Int)*2^s)=(un10:Int):=by rw[IntKind.wrap_u64,← u10,Int.natCast_emod,jiL,jiU];rfl
  have r8:(un10:Int)/4294967296=(un1:Int):=by omega
  have hu10:un10<18446744073709551616:=by rw[← u10];exact jiF _ (by omega)
  have r9:bits .and .u64 (un10:Int) 4294967295=(un0:Int):=by rw[maskN un10 hu10,u0]
  obtain⟨q0,hq0⟩:∃ q0,un32/yn1=q0:=⟨_,rfl⟩
  obtain⟨p0,hp0⟩:∃ p0,q0*yn1=p0:=⟨_,rfl⟩
  have hdm:=Nat.div_add_mod un32 yn1
  have hml:=jiF un32 (show yn1>0 by omega)
  rw[hq0,Nat.mul_comm,hp0] at hdm
  have hq0l:q0≤un32:=by rw[← hq0];exact jiS _ _
  have r10:(un32:Int)/(yn1:Int)=(q0:Int):=by rw[← hq0,Int.natCast_ediv]
  have r11:(q0:Int)*(yn1:Int)=(p0:Int):=by rw[← hp0,jiL]
  have hTY:(yn1:Int)*4294967296+yn0=Y:=by omega
  have T1:Tr 4294967296 (yn1:Int) yn0 un32 un1 := { hB:=by omega,t1:=by omega,tB:=by omega,v0:=by omega,vB:=by omega,u0:=by omega,uB:=by omega,h0:=by omega,lt:=by rw[hTY];omega }
  obtain⟨Q1,hQn1⟩:∃ Q1:Nat,(un32*4294967296+un1)/Y=Q1:=⟨_,rfl⟩
  have hQ1:((un32:Int)*4294967296+un1)/((yn1:Int)*4294967296+yn0)=(Q1:Int):=by rw[hTY,← hQn1,Int.natCast_ediv,Int.natCast_add,jiL];rfl
  have T1:Tq 4294967296 (yn1:Int) yn0 un32 un1 Q1:=⟨T1,hQ1⟩
  have hQ1l:Q1<4294967296:=by have:=T1.lt;omega
  obtain⟨m1,hm1⟩:∃ m1:Nat,Q1*Y=m1:=⟨_,rfl⟩
  obtain⟨v1,hv1⟩:∃ v1:Nat,(un32*4294967296+un1)%Y=v1:=⟨_,rfl⟩
  have hdm1:=Nat.div_add_mod (un32*4294967296+un1) Y
  have hml1:=jiF (un32*4294967296+un1) (show Y>0 by omega)
  rw[hQn1,hv1,Nat.mul_comm,hm1] at hdm1
  rw[hv1] at hml1
  obtain⟨W1,hW1⟩:∃ W1:Nat,un32*4294967296%18446744073709551616=W1:=⟨_,rfl⟩
  have sv1:IntKind.u64.wrap ((un32:Int)*4294967296)=(W1:Int):=by rw[IntKind.wrap_u64];omega
  have s2:(Q1:Int)*(Y:Int)=(m1:Int):=by rw[← hm1,jiL]
  obtain⟨W2,hW2⟩:∃ W2:Nat,m1%18446744073709551616=W2:=⟨_,rfl⟩
  have s3:IntKind.u64.wrap (m1:Int)=(W2:Int):=by rw[IntKind.wrap_u64];omega
  have s4:IntKind.u64.wrap ((W1:Int)+un1-W2)=(v1:Int):=by rw[IntKind.wrap_u64];omega
  obtain⟨q1,hq1⟩:∃ q0,v1/yn1=q0:=⟨_,rfl⟩
  obtain⟨p1,hp1⟩:∃ p0,q1*yn1=p0:=⟨_,rfl⟩
  have hdn:=Nat.div_add_mod v1 yn1
  have hnl:=jiF v1 (show yn1>0 by omega)
  rw[hq1,Nat.mul_comm,hp1] at hdn
  have hq1l:q1≤v1:=by rw[← hq1];exact jiS _ _
  have r12:(v1:Int)/(yn1:Int)=(q1:Int):=by rw[← hq1,Int.natCast_ediv]
  have r13:(q1:Int)*(yn1:Int)=(p1:Int):=by rw[← hp1,jiL]
  have T2:Tr 4294967296 (yn1:Int) yn0 v1 un0 := { hB:=by omega,t1:=by omega,tB:=by omega,v0:=by omega,vB:=by omega,u0:=by omega,uB:=by omega,h0:=by omega,lt:=by rw[hTY];omega }
  obtain⟨Q2,hQn2⟩:∃ Q2:Nat,(v1*4294967296+un0)/Y=Q2:=⟨_,rfl⟩
  have hQ2:((v1:Int)*4294967296+un0)/((yn1:Int)*4294967296+yn0)=(Q2:Int):=by rw[hTY,← hQn2,Int.natCast_ediv,Int.natCast_add,jiL];rfl
  have T2:Tq 4294967296 (yn1:Int) yn0 v1 un0 Q2:=⟨T2,hQ2⟩
  have hQ2l:Q2<4294967296:=by have:=T2.lt;omega
  obtain⟨m2,hm2⟩:∃ m2:Nat,Q2*Y=m2:=⟨_,rfl⟩
  obtain⟨v2,hv2⟩:∃ v2:Nat,(v1*4294967296+un0)%Y=v2:=⟨_,rfl⟩
  have hdm2:=Nat.div_add_mod (v1*4294967296+un0) Y
  have hml2:=jiF (v1*4294967296+un0) (show Y>0 by omega)
  rw[hQn2,hv2,Nat.mul_comm,hm2] at hdm2
  rw[hv2] at hml2
  obtain⟨W3,hW3⟩:∃ W3:Nat,v1*4294967296%18446744073709551616=W3:=⟨_,rfl⟩
  have s5:IntKind.u64.wrap ((v1:Int)*4294967296)=(W3:Int):=by rw[IntKind.wrap_u64];omega
  have s6:(Q2:Int)*(Y:Int)=(m2:Int):=by rw[← hm2,jiL]
  obtain⟨W4,hW4⟩:∃ W4:Nat,m2%18446744073709551616=W4:=⟨_,rfl⟩
  have s7:IntKind.u64.wrap (m2:Int)=(W4:Int):=by rw[IntKind.wrap_u64];omega
  have s8:IntKind.u64.wrap ((W3:Int)+un0-W4)=(v2:Int):=by rw[IntKind.wrap_u64];omega
  have hps:0<2^s:=Nat.pow_pos (by omega)
  have hN:(un32*4294967296+un1)*4294967296+un0=(hi*18446744073709551616+lo)*2^s:=by
   have e1:(hi*18446744073709551616+lo)*2^s=18446744073709551616*(hi*2^s)+lo*2^s:=by rw[Nat.add_mul];congr 1;ac_rfl
   rw[e1] at u32e ⊢
   generalize lo*2^s=z at *
   generalize hi*2^s=x at *
   omega
  have td:=two_digits (B:=4294967296) (V:=Y) (u1:=un1) (u0:=un0) (h:=un32) (by omega) (by omega)
  rw[hN,Ye,Nat.mul_div_mul_right _ _ hps,Nat.mul_mod_mul_right,← Ye,hQn1,hv1,hQn2,hv2] at td
  have fin1:(((hi*18446744073709551616+lo)/y:Nat):Int)=(Q1:Int)*4294967296+Q2:=by rw[td.1];omega
  have fin2:(((hi*18446744073709551616+lo)%y:Nat):Int)=(v2:Int)/2^s:=by
   rw[← td.2,jiL,jiU]
   exact(Int.mul_ediv_cancel _ (Int.ne_of_gt (Int.pow_pos (by decide)))).symm
  obtain⟨K1,hK1⟩:∃ K1:Nat,Q1*4294967296=K1:=⟨_,rfl⟩
  have s9:(Q1:Int)*4294967296=(K1:Int):=by omega
  have b3:K1+Q2<18446744073709551616:=by omega
  have fin1':(((hi*18446744073709551616+lo)/y:Nat):Int)=(K1:Int)+Q2:=by rw[fin1,s9]
  have b1:W1+un1<18446744073709551616:=by omega
  have b2:W3+un0<18446744073709551616:=by omega
  refine V.en tbOk Tryz.func230 ?_
  (conv=>whnf)
  refine V.st ?_
  refine V.br (fun g1=>?_) (fun g1=>?_)
  ·rw[decide_eq_true_eq] at g1;omega
  (conv=>whnf)
  refine V.st ?_
  refine V.br (fun g2=>?_) (fun g2=>?_)
  ·rw[decide_eq_true_eq] at g2;omega
  (conv=>whnf)
  refine V.st ?_
  refine V.br (fun g3=>?_) (fun g3=>?_)
  ·rw[decide_eq_true_eq] at g3;omega
  clear g1 g2 g3 hK1 fin1 hQ1 hQ2 hTY hdm1 hdm2 hW1 hW2 hW3 hW4 hs hsl hsu Ye Ae Ce u32 u32e u10 hQn1 hv1 hm1 hQn2 hv2 hm2 hp0 hp1 hq0 hq1 hN td hps
  refine V.r1 (V.a2 @jiA @r1) kl ?_
  refine And.intro (fun _ _=>⟨by omega,by show _≤(64:Int);omega⟩) ?_
  (conv=>whnf)
  (try simp only[jiA,Int.reduceToNat,Int.reducePow,r1,r2,r3,r4])
  repeat ((first|refine V.s1 ?_);(try simp only[jiA,Int.reduceToNat,Int.reducePow,r1,r2,r3,r4]))
  refine And.intro (fun _ _=>⟨by omega,by show _≤(64:Int);omega⟩) ?_
  (conv=>whnf)
  (try simp only[jiA,Int.reduceToNat,Int.reducePow,r1,r2,r3,r4,ht,r5,r6,r7])
  repeat ((first|refine V.s1 ?_);(try simp only[jiA,Int.reduceToNat,Int.reducePow,r1,r2,r3,r4,ht,r5,r6,r7]))
  refine And.intro (fun _ _=>⟨by omega,by show _≤(64:Int);omega⟩) ?_
  (conv=>whnf)
  (try simp only[jiA,Int.reduceToNat,Int.reducePow,r1,r2,r3,r4,ht,r5,r6,r7])
  repeat ((first|refine V.s1 ?_);(try simp only[jiA,Int.reduceToNat,Int.reducePow,r1,r2,r3,r4,ht,r5,r6,r7]))
  refine And.intro (fun _ _=>⟨by omega,by show _≤(64:Int);omega⟩) ?_
  (conv=>whnf)
  (try simp only[jiA,Int.reduceToNat,Int.reducePow,r1,r2,r3,r4,ht,r5,r6,r7,r8,r9,r10,r11])
  repeat ((first|refine V.s1 ?_);(try simp only[jiA,Int.reduceToNat,Int.reducePow,r1,r2,r3,r4,ht,r5,r6,r7,r8,r9,r10,r11]))
  refine And.intro (fun _ _=>⟨by omega,by show _≤(64:Int);omega⟩) ?_
  (conv=>whnf)
  (try simp only[jiA,Int.reduceToNat,Int.reducePow,r1,r2,r3,r4,ht,r5,r6,r7,r8,r9,r10,r11])
  repeat ((first|refine V.s1 ?_);(try simp only[jiA,Int.reduceToNat,Int.reducePow,r1,r2,r3,r4,ht,r5,r6,r7,r8,r9,r10,r11]))
  refine And.intro (fun _ _=>⟨by omega,by show _≤(64:Int);omega⟩) ?_
  (conv=>whnf)
  (try simp only[jiA,Int.reduceToNat,Int.reducePow,r1,r2,r3,r4,ht,r5,r6,r7,r8,r9,r10,r11])
  repeat ((first|refine V.s1 ?_);(try simp only[jiA,Int.reduceToNat,Int.reducePow,r1,r2,r3,r4,ht,r5,r6,r7,r8,r9,r10,r11]))
  refine jgm (β:=Int) 0 (fun _=>True) (fun y=>[(15,.int .u64 (Q1:Int)),(16,.int .u64 y)]) (fun _=>[]) ?_ ?_
  ·refine jaf (((q0:Int),(un32:Int)-(p0:Int)):Int×Int) (fun y=>(un32:Int)=y.1*(yn1:Int)+y.2∧(0≤y.2∧y.2<4294967296)∧(Q1:Int)≤y.1∧y.1<18446744073709551616) (fun y=>y.1.toNat) (fun y=>[(15,.int .u64 y.1),(16,.int .u64 y.2)]) (fun _=>[]) ?_ ?_ ?_
   ·exact V.wk
   ·have hin:=(T1).init
    exact⟨by dsimp only;omega,by dsimp only;omega,by dsimp only;omega,by dsimp only;omega⟩
   rintro⟨q,r⟩ ⟨i1,i2,i3,i4⟩
   dsimp only at i1 i2 i3 i4 ⊢
   have hqv:q<4294967296→0≤q*yn0∧q*yn0≤4294967295*4294967295:=fun h=>⟨jiw (by omega) (by omega),Int.mul_le_mul (by omega) (by omega) (by omega) (by omega)⟩
   refine V.r0 @jiA ?_
   refine Or.inl (And.intro (fun h _ _=>?_) ?_)
   ·have h9:=hqv (by simpa using h)
    exact⟨by simp only[V.lo];omega,by simp only[V.hi];omega⟩
   refine V.r0 @jiA ?_
   refine V.br (fun hq5=>?_) (fun hq5=>?_)
   ·rw[jiJ,decide_eq_true_eq,decide_eq_true_eq] at hq5
    have hst:=(T1).step (q:=q) (r:=r) i3 i1 (by omega)
    refine V.r0 @jiA ?_
    refine V.br (fun hq6=>?_) (fun hq6=>?_)
    ·rw[decide_eq_true_eq] at hq6
     have ho:=((T1).exit2 (q:=q-1) (r:=r+yn1) hst.1 hst.2 hq6)
     refine V.r0 @jiA ?_
     refine⟨r+yn1,trivial,?_⟩
     rw[ho]
     exact V.wk
    ·rw[decide_eq_false_iff_not] at hq6
     refine V.r0 @jiA ?_
     exact⟨(q-1,r+yn1),⟨hst.2,by dsimp only;omega,hst.1,by dsimp only;omega⟩,by dsimp only;omega,V.wk⟩
   ·rw[jiK,decide_eq_false_iff_not,decide_eq_false_iff_not] at hq5
    have ho:=(T1).exit1 (q:=q) (r:=r) i3 i1 (by omega)
    refine V.r0 @jiA ?_
    refine⟨r,trivial,?_⟩
    rw[ho]
    exact V.wk
  ·rintro y -
   try dsimp only
   refine V.r0 (V.a3 @jiA sv1 s2) ?_
   refine Or.inr ?_
   refine V.r0 (V.a4 @jiA sv1 s2 s3) ?_
   refine Or.inr ?_
   refine V.r0 (V.a4 @jiA sv1 s2 s3) ?_
   refine Or.inr ?_
   refine V.r0 (V.a7 @jiA sv1 s2 s3 s4 r12 r13) ?_
   refine jgm (β:=Int) 2 (fun _=>True) (fun y=>[(18,.int .u64 (Q2:Int)),(16,.int .u64 y)]) (fun _=>[]) ?_ ?_
   ·refine jaf (((q1:Int),(v1:Int)-(p1:Int)):Int×Int) (fun y=>(v1:Int)=y.1*(yn1:Int)+y.2∧(0≤y.2∧y.2<4294967296)∧(Q2:Int)≤y.1∧y.1<18446744073709551616) (fun y=>y.1.toNat) (fun y=>[(18,.int .u64 y.1),(16,.int .u64 y.2)]) (fun _=>[]) ?_ ?_ ?_
    ·exact V.wk
    ·have hin:=(T2).init
     exact⟨by dsimp only;omega,by dsimp only;omega,by dsimp only;omega,by dsimp only;omega⟩
    rintro⟨q,r⟩ ⟨i1,i2,i3,i4⟩
    dsimp only at i1 i2 i3 i4 ⊢
    have hqv:q<4294967296→0≤q*yn0∧q*yn0≤4294967295*4294967295:=fun h=>⟨jiw (by omega) (by omega),Int.mul_le_mul (by omega) (by omega) (by omega) (by omega)⟩
    refine V.r0 @jiA ?_
    refine Or.inl (And.intro (fun h _ _=>?_) ?_)
    ·have h9:=hqv (by simpa using h)
     exact⟨by simp only[V.lo];omega,by simp only[V.hi];omega⟩
    refine V.r0 @jiA ?_
    refine V.br (fun hq5=>?_) (fun hq5=>?_)
    ·rw[jiJ,decide_eq_true_eq,decide_eq_true_eq] at hq5
     have hst:=(T2).step (q:=q) (r:=r) i3 i1 (by omega)
     refine V.r0 @jiA ?_
     refine V.br (fun hq6=>?_) (fun hq6=>?_)
     ·rw[decide_eq_true_eq] at hq6
      have ho:=((T2).exit2 (q:=q-1) (r:=r+yn1) hst.1 hst.2 hq6)
      refine V.r0 @jiA ?_
      refine⟨r+yn1,trivial,?_⟩
      rw[ho]
      exact V.wk
     ·rw[decide_eq_false_iff_not] at hq6
      refine V.r0 @jiA ?_
      exact⟨(q-1,r+yn1),⟨hst.2,by dsimp only;omega,hst.1,by dsimp only;omega⟩,by dsimp only;omega,V.wk⟩
    ·rw[jiK,decide_eq_false_iff_not,decide_eq_false_iff_not] at hq5
     have ho:=(T2).exit1 (q:=q) (r:=r) i3 i1 (by omega)
     refine V.r0 @jiA ?_
     refine⟨r,trivial,?_⟩
     rw[ho]
     exact V.wk
   ·rintro y -
    try dsimp only
    refine V.r0 (V.a4 @jiA s9 s5 s6) ?_
    refine Or.inr ?_
    refine V.r0 (V.a5 @jiA s9 s5 s6 s7) ?_
    refine Or.inr ?_
    refine V.r0 (V.a5 @jiA s9 s5 s6 s7) ?_
    refine Or.inr ?_
    refine V.r0 (V.a6 @jiA s9 s5 s6 s7 s8) ?_
    refine And.intro (fun _ _=>⟨by omega,by show _≤(64:Int);omega⟩) ?_
    refine V.r0 (V.a6 @jiA s9 s5 s6 s7 s8) ?_
    exact Fin.of (by rw[fin1',fin2])
end Go.Proofs.YtpkdedncgclblaaGreatDoor
end
section
namespace Go.Proofs.YtpkdedncgclblaaGreatDoor
open Go Go.V Go.Nb
theorem sprR (p q p2 q2 : Int) (a b c : Int → Int → Int) (h : ∀ x y, (x = p ∨ x = q) → (y = p2 ∨ y = q2) → c x y ≠ 0) :
    (if (qok (a p p2) (b p p2) (c p p2) false && qok (a p p2) (b p p2) (c p p2) true && qok (a p q2) (b p q2) (c p q2) false && qok (a p q2) (b p q2) (c p q2) true && qok (a q p2) (b q p2) (c q p2) false && qok (a q p2) (b q p2) (c q p2) true && qok (a q q2) (b q q2) (c q q2) false && qok (a q q2) (b q q2) (c q q2) true) = true
      then mk (min (min (min (qval (a p p2) (b p p2) (c p p2) false) (qval (a p q2) (b p q2) (c p q2) false)) (qval (a q p2) (b q p2) (c q p2) false)) (qval (a q q2) (b q q2) (c q q2) false)) (max (max (max (qval (a p p2) (b p p2) (c p p2) true) (qval (a p q2) (b p q2) (c p q2) true)) (qval (a q p2) (b q p2) (c q p2) true)) (qval (a q q2) (b q q2) (c q q2) true)) else (0, 0, 6)) =
    mk (mn4 (flo (a p p2 * b p p2) (c p p2)) (flo (a p q2 * b p q2) (c p q2)) (flo (a q p2 * b q p2) (c q p2)) (flo (a q q2 * b q q2) (c q q2))) (mx4 (cei (a p p2 * b p p2) (c p p2)) (cei (a p q2 * b p q2) (c p q2)) (cei (a q p2 * b q p2) (c q p2)) (cei (a q q2 * b q q2) (c q q2))) := by
  have h1 := h p p2 (.inl rfl) (.inl rfl)
  have h2 := h p q2 (.inl rfl) (.inr rfl)
  have h3 := h q p2 (.inr rfl) (.inl rfl)
  have h4 := h q q2 (.inr rfl) (.inr rfl)
  refine fits4 (jc5 _ _ h1) (jc5 _ _ h2) (jc5 _ _ h3) (jc5 _ _ h4) ?_ ?_
  · rw [← jf8 _ _ _ h1, ← jf9 _ _ _ h1, ← jf8 _ _ _ h2, ← jf9 _ _ _ h2, ← jf8 _ _ _ h3, ← jf9 _ _ _ h3, ← jf8 _ _ _ h4, ← jf9 _ _ _ h4]
    simp only [jir, and_assoc]
  · intro ho
    simp only [jir] at ho
    obtain ⟨⟨⟨⟨⟨⟨⟨a1, a2⟩, a3⟩, a4⟩, a5⟩, a6⟩, a7⟩, a8⟩ := ho
    exact ⟨jel _ _ _ h1 a1, jel _ _ _ h2 a3, jel _ _ _ h3 a5, jel _ _ _ h4 a7, jem _ _ _ h1 a2, jem _ _ _ h2 a4, jem _ _ _ h3 a6, jem _ _ _ h4 a8⟩
def mulR (p q p2 q2:Int):Int×Int×Int:=mk (mn4 (flo (p*p2) 1000000000000) (flo (p*q2) 1000000000000) (flo (q*p2) 1000000000000) (flo (q*q2) 1000000000000)) (mx4 (cei (p*p2) 1000000000000) (cei (p*q2) 1000000000000) (cei (q*p2) 1000000000000) (cei (q*q2) 1000000000000))
theorem mul_b (p q p2 q2:Int):Cl 102 [bA p q,bA p2 q2] (bD (if vb p q=true∧vb p2 q2=true then mulR p q p2 q2 else (0,0,30))):=by
 by_cases hv:vb p q=true∧vb p2 q2=true
 ·rw[if_pos hv]
  have hb:=jaz.1 hv.1
  have hb2:=jaz.1 hv.2
  have hin:∀ x y u,(x=p∨x=q)→(y=p2∨y=q2)→Cl 187 ([.int .i64 x,.int .i64 y,.bool u]++[]) (.tup [.int .i64 (qval x y 1000000000000 u),.bool (qok x y 1000000000000 u)]):=by
   intro x y u hx hy
   have k:=quotient_c div64_c x y 1000000000000 u (by omega) (by omega) (by omega) (by omega)
   generalize qval x y 1000000000000 u=v at *
   generalize qok x y 1000000000000 u=o at *
   refine V.en tbOk Tryz.func187 ?_
   (conv=>whnf)
   refine V.st ?_
   repeat ((try ((with_reducible refine .ext ?_);(conv=>whnf)));(with_reducible refine jaa (r:=?_) ?_ ?_);rotate_left;(focus (first|exact(k)));(conv=>whnf);refine V.st ?_)
   exact Fin.of rfl
  have hs:=spread_0 p q p2 q2 187 (fun x y u=>qval x y 1000000000000 u) (fun x y u=>qok x y 1000000000000 u) hin
  try dsimp only at hs
  rw[sprR p q p2 q2 (fun x _=>x) (fun _ y=>y) (fun _ _=>1000000000000) (fun _ _ _ _=>by omega)] at hs
  have hc:Cl 185 [.ref [.int .i64 p,.int .i64 q],.ref [.int .i64 p2,.int .i64 q2]] (bD (mulR p q p2 q2)):=by
   unfold mulR
   generalize mk _ _=r at *
   clear hin
   refine V.en tbOk Tryz.func185 ?_
   (conv=>whnf)
   refine V.st ?_
   repeat ((try ((with_reducible refine .ext ?_);(conv=>whnf)));(with_reducible refine jaa (r:=?_) ?_ ?_);rotate_left;(focus (first|exact(hs)));(conv=>whnf);refine V.st ?_)
   exact Fin.of rfl
  have hk:=jh5 185 p q p2 q2 (mulR p q p2 q2).1 (mulR p q p2 q2).2.1 (mulR p q p2 q2).2.2 2 (l2 p q p2 q2) (sel_o p p2) (sel_o q q2) (l2_c p q p2 q2) (by omega) (jfA hv.1 hv.2) hc
  clear hs hc hin
  generalize mulR p q p2 q2=r at *
  refine V.en tbOk Tryz.func102 ?_
  (conv=>whnf)
  refine V.st ?_
  repeat ((try ((with_reducible refine .ext ?_);(conv=>whnf)));(with_reducible refine jaa (r:=?_) ?_ ?_);rotate_left;(focus (first|exact(hk)));(conv=>whnf);refine V.st ?_)
  exact Fin.of rfl
 ·rw[if_neg hv]
  have hk:=jh6 185 p q p2 q2 0 0 0 2 (l2 p q p2 q2) (sel_o p p2) (sel_o q q2) (l2_c p q p2 q2) (by omega) (jfB hv)
  refine V.en tbOk Tryz.func102 ?_
  (conv=>whnf)
  refine V.st ?_
  repeat ((try ((with_reducible refine .ext ?_);(conv=>whnf)));(with_reducible refine jaa (r:=?_) ?_ ?_);rotate_left;(focus (first|exact(hk)));(conv=>whnf);refine V.st ?_)
  exact Fin.of rfl
theorem clamp_b (p q lo hi:Int):Cl 111 [bA p q,.int .i64 lo,.int .i64 hi] (bD (if vb p q=true then (if vb lo hi=true then mk (min (max p lo) hi) (min (max q lo) hi) else (0,0,2)) else (0,0,30))):=by
 by_cases hv:vb p q=true
 ·rw[if_pos hv]
  have hc:Cl 194 [.ref [.int .i64 lo],.ref [.int .i64 hi],.ref [.int .i64 p,.int .i64 q]] (bD (if vb lo hi=true then mk (min (max p lo) hi) (min (max q lo) hi) else (0,0,2))):=by
   have hvl:=jbL lo hi
   have hm:=jeR (min (max p lo) hi) (min (max q lo) hi)
   generalize vb lo hi=v at *
   generalize mk (min (max p lo) hi) (min (max q lo) hi)=r at *
   refine V.en tbOk Tryz.func194 ?_
   (conv=>whnf)
   refine V.st ?_
   repeat ((try ((with_reducible refine .ext ?_);(conv=>whnf)));(with_reducible refine jaa (r:=?_) ?_ ?_);rotate_left;(focus (first|exact(hvl)));(conv=>whnf);refine V.st ?_)
   refine V.br (fun hq=>?_) (fun hq=>?_)
   ·simp at hq
    subst hq
    (conv=>whnf)
    refine V.st ?_
    exact Fin.of rfl
   ·simp at hq
    subst hq
    (conv=>whnf)
    refine V.st ?_
    repeat ((try ((with_reducible refine .ext ?_);(conv=>whnf)));(with_reducible refine jaa (r:=?_) ?_ ?_);rotate_left;(focus (first|exact(hm)));(conv=>whnf);refine V.st ?_)
    exact Fin.of rfl
  generalize (if vb lo hi=true then mk (min (max p lo) hi) (min (max q lo) hi) else (0,0,2))=r at *
  have hk:=ckb3_ok 194 p q lo hi r.1 r.2.1 r.2.2 1 (l1 p q) (fun _=>p) (fun _=>q) (l1_c p q) (by omega) (fun _ _=>hv) hc
  refine V.en tbOk Tryz.func111 ?_
  (conv=>whnf)
  refine V.st ?_
  repeat ((try ((with_reducible refine .ext ?_);(conv=>whnf)));(with_reducible refine jaa (r:=?_) ?_ ?_);rotate_left;(focus (first|exact(hk)));(conv=>whnf);refine V.st ?_)
  exact Fin.of rfl
 ·rw[if_neg hv]
  have hk:=ckb3_no 194 p q lo hi 0 0 0 1 (l1 p q) (fun _=>p) (fun _=>q) (l1_c p q) (by omega) (one_no hv)
  refine V.en tbOk Tryz.func111 ?_
  (conv=>whnf)
  refine V.st ?_
  repeat ((try ((with_reducible refine .ext ?_);(conv=>whnf)));(with_reducible refine jaa (r:=?_) ?_ ?_);rotate_left;(focus (first|exact(hk)));(conv=>whnf);refine V.st ?_)
  exact Fin.of rfl
theorem min_b (p q p2 q2:Int):Cl 103 [bA p q,bA p2 q2] (bD (if vb p q=true∧vb p2 q2=true then (if p=p2∧q=q2 then (p,q,0) else if min q q2<min p p2 then (0,0,4) else (min p p2,min q q2,0)) else (0,0,30))):=by
 have ch:Cl 189 [.int .i64 0,bA p q,bA p2 q2] (bD (if vb p q=true∧vb p2 q2=true then (if p=p2∧q=q2 then (p,q,0) else if min q q2<min p p2 then (0,0,4) else (min p p2,min q q2,0)) else (0,0,30))):=by
  by_cases hv:vb p q=true∧vb p2 q2=true
  ·rw[if_pos hv]
   have hc:Cl 231 [.ref [.int .i64 p,.int .i64 q],.ref [.int .i64 p2,.int .i64 q2],.ref [.int .i64 0]] (bD (if p=p2∧q=q2 then (p,q,0) else if min q q2<min p p2 then (0,0,4) else (min p p2,min q q2,0))):=by
    have k1:=jgn p [p2] (by simp)
    have k2:=jgn q [q2] (by simp)
    rw[show [p2].foldl min p=min p p2 from rfl] at k1
    rw[show [q2].foldl min q=min q q2 from rfl] at k2
    generalize min p p2=lo at *
    generalize min q q2=hi at *
    refine V.en tbOk Tryz.func231 ?_
    (conv=>whnf)
    refine V.st ?_
    refine V.br (fun h1=>?_) (fun h1=>?_)
    ·simp only[Bool.and_true,jir,decide_eq_true_eq] at h1
     rw[if_pos h1]
     (conv=>whnf)
     refine V.st ?_
     exact Fin.of rfl
    ·rw[if_neg (fun h=>by simp only[Bool.and_true,jiW,decide_eq_false_iff_not] at h1;omega)]
     (conv=>whnf)
     refine V.st ?_
     refine⟨Pq19z,[],V.pok,?_⟩
     refine jas [(7,.int .i64 lo),(8,.int .i64 hi)] [] ?_ ?_
     ·exact V.d2 @jiy k1 k2
     (conv=>whnf)
     refine V.st ?_
     refine V.br (fun h2=>?_) (fun h2=>?_)
     ·rw[decide_eq_true_eq] at h2
      rw[if_pos h2]
      (conv=>whnf)
      refine V.st ?_
      exact Fin.of rfl
     ·rw[decide_eq_false_iff_not] at h2
      rw[if_neg h2]
      (conv=>whnf)
      refine V.st ?_
      exact Fin.of rfl
   generalize (if p=p2∧q=q2 then (p,q,(0:Int)) else if min q q2<min p p2 then (0,0,4) else (min p p2,min q q2,0))=r at *
   have hk:=jh3 231 p q p2 q2 0 r.1 r.2.1 r.2.2 2 (l2 p q p2 q2) (sel_o p p2) (sel_o q q2) (l2_c p q p2 q2) (by omega) (jfA hv.1 hv.2) hc
   refine V.en tbOk Tryz.func189 ?_
   (conv=>whnf)
   refine V.st ?_
   repeat ((try ((with_reducible refine .ext ?_);(conv=>whnf)));(with_reducible refine jaa (r:=?_) ?_ ?_);rotate_left;(focus (first|exact(hk)));(conv=>whnf);refine V.st ?_)
   exact Fin.of rfl
  ·rw[if_neg hv]
   have hk:=jh4 231 p q p2 q2 0 0 0 0 2 (l2 p q p2 q2) (sel_o p p2) (sel_o q q2) (l2_c p q p2 q2) (by omega) (jfB hv)
   refine V.en tbOk Tryz.func189 ?_
   (conv=>whnf)
   refine V.st ?_
   repeat ((try ((with_reducible refine .ext ?_);(conv=>whnf)));(with_reducible refine jaa (r:=?_) ?_ ?_);rotate_left;(focus (first|exact(hk)));(conv=>whnf);refine V.st ?_)
   exact Fin.of rfl
 generalize (if vb p q=true∧vb p2 q2=true then (if p=p2∧q=q2 then (p,q,(0:Int)) else if min q q2<min p p2 then (0,0,4) else (min p p2,min q q2,0)) else (0,0,30))=r at *
 refine V.en tbOk Tryz.func103 ?_
 (conv=>whnf)
 refine V.st ?_
 repeat ((try ((with_reducible refine .ext ?_);(conv=>whnf)));(with_reducible refine jaa (r:=?_) ?_ ?_);rotate_left;(focus (first|exact(ch)));(conv=>whnf);refine V.st ?_)
 exact Fin.of rfl
theorem max_b (p q p2 q2:Int):Cl 104 [bA p q,bA p2 q2] (bD (if vb p q=true∧vb p2 q2=true then (if p=p2∧q=q2 then (p,q,0) else if max q q2<max p p2 then (0,0,4) else (max p p2,max q q2,0)) else (0,0,30))):=by
 have ch:Cl 189 [.int .i64 1,bA p q,bA p2 q2] (bD (if vb p q=true∧vb p2 q2=true then (if p=p2∧q=q2 then (p,q,0) else if max q q2<max p p2 then (0,0,4) else (max p p2,max q q2,0)) else (0,0,30))):=by
  by_cases hv:vb p q=true∧vb p2 q2=true
  ·rw[if_pos hv]
   have hc:Cl 231 [.ref [.int .i64 p,.int .i64 q],.ref [.int .i64 p2,.int .i64 q2],.ref [.int .i64 1]] (bD (if p=p2∧q=q2 then (p,q,0) else if max q q2<max p p2 then (0,0,4) else (max p p2,max q q2,0))):=by
    have k1:=jbZ p [p2] (by simp)
    have k2:=jbZ q [q2] (by simp)
    rw[show [p2].foldl max p=max p p2 from rfl] at k1
    rw[show [q2].foldl max q=max q q2 from rfl] at k2
    generalize max p p2=lo at *
    generalize max q q2=hi at *
    refine V.en tbOk Tryz.func231 ?_
    (conv=>whnf)
    refine V.st ?_
    refine V.br (fun h1=>?_) (fun h1=>?_)
    ·simp only[Bool.and_true,jir,decide_eq_true_eq] at h1
     rw[if_pos h1]
     (conv=>whnf)
     refine V.st ?_
     exact Fin.of rfl
    ·rw[if_neg (fun h=>by simp only[Bool.and_true,jiW,decide_eq_false_iff_not] at h1;omega)]
     (conv=>whnf)
     refine V.st ?_
     refine⟨Pq19z,[],V.pok,?_⟩
     refine jas [(7,.int .i64 lo),(8,.int .i64 hi)] [] ?_ ?_
     ·exact V.d2 @jiy k1 k2
     (conv=>whnf)
     refine V.st ?_
     refine V.br (fun h2=>?_) (fun h2=>?_)
     ·rw[decide_eq_true_eq] at h2
      rw[if_pos h2]
      (conv=>whnf)
      refine V.st ?_
      exact Fin.of rfl
     ·rw[decide_eq_false_iff_not] at h2
      rw[if_neg h2]
      (conv=>whnf)
      refine V.st ?_
      exact Fin.of rfl
   generalize (if p=p2∧q=q2 then (p,q,(0:Int)) else if max q q2<max p p2 then (0,0,4) else (max p p2,max q q2,0))=r at *
   have hk:=jh3 231 p q p2 q2 1 r.1 r.2.1 r.2.2 2 (l2 p q p2 q2) (sel_o p p2) (sel_o q q2) (l2_c p q p2 q2) (by omega) (jfA hv.1 hv.2) hc
   refine V.en tbOk Tryz.func189 ?_
   (conv=>whnf)
   refine V.st ?_
   repeat ((try ((with_reducible refine .ext ?_);(conv=>whnf)));(with_reducible refine jaa (r:=?_) ?_ ?_);rotate_left;(focus (first|exact(hk)));(conv=>whnf);refine V.st ?_)
   exact Fin.of rfl
  ·rw[if_neg hv]
   have hk:=jh4 231 p q p2 q2 1 0 0 0 2 (l2 p q p2 q2) (sel_o p p2) (sel_o q q2) (l2_c p q p2 q2) (by omega) (jfB hv)
   refine V.en tbOk Tryz.func189 ?_
   (conv=>whnf)
   refine V.st ?_
   repeat ((try ((with_reducible refine .ext ?_);(conv=>whnf)));(with_reducible refine jaa (r:=?_) ?_ ?_);rotate_left;(focus (first|exact(hk)));(conv=>whnf);refine V.st ?_)
   exact Fin.of rfl
 generalize (if vb p q=true∧vb p2 q2=true then (if p=p2∧q=q2 then (p,q,(0:Int)) else if max q q2<max p p2 then (0,0,4) else (max p p2,max q q2,0)) else (0,0,30))=r at *
 refine V.en tbOk Tryz.func104 ?_
 (conv=>whnf)
 refine V.st ?_
 repeat ((try ((with_reducible refine .ext ?_);(conv=>whnf)));(with_reducible refine jaa (r:=?_) ?_ ?_);rotate_left;(focus (first|exact(ch)));(conv=>whnf);refine V.st ?_)
 exact Fin.of rfl
theorem hull_b (p q p2 q2:Int):Cl 109 [bA p q,bA p2 q2] (bD (if vb p q=true∧vb p2 q2=true then (if p=p2∧q=q2 then (p,q,0) else if max q q2<min p p2 then (0,0,4) else (min p p2,max q q2,0)) else (0,0,30))):=by
 have ch:Cl 189 [.int .i64 2,bA p q,bA p2 q2] (bD (if vb p q=true∧vb p2 q2=true then (if p=p2∧q=q2 then (p,q,0) else if max q q2<min p p2 then (0,0,4) else (min p p2,max q q2,0)) else (0,0,30))):=by
  by_cases hv:vb p q=true∧vb p2 q2=true
  ·rw[if_pos hv]
   have hc:Cl 231 [.ref [.int .i64 p,.int .i64 q],.ref [.int .i64 p2,.int .i64 q2],.ref [.int .i64 2]] (bD (if p=p2∧q=q2 then (p,q,0) else if max q q2<min p p2 then (0,0,4) else (min p p2,max q q2,0))):=by
    have k1:=jgn p [p2] (by simp)
    have k2:=jbZ q [q2] (by simp)
    rw[show [p2].foldl min p=min p p2 from rfl] at k1
    rw[show [q2].foldl max q=max q q2 from rfl] at k2
    generalize min p p2=lo at *
    generalize max q q2=hi at *
    refine V.en tbOk Tryz.func231 ?_
    (conv=>whnf)
    refine V.st ?_
    refine V.br (fun h1=>?_) (fun h1=>?_)
    ·simp only[Bool.and_true,jir,decide_eq_true_eq] at h1
     rw[if_pos h1]
     (conv=>whnf)
     refine V.st ?_
     exact Fin.of rfl
    ·rw[if_neg (fun h=>by simp only[Bool.and_true,jiW,decide_eq_false_iff_not] at h1;omega)]
     (conv=>whnf)
     refine V.st ?_
     refine⟨Pq19z,[],V.pok,?_⟩
     refine jas [(7,.int .i64 lo),(8,.int .i64 hi)] [] ?_ ?_
     ·exact V.d2 @jiy k1 k2
     (conv=>whnf)
     refine V.st ?_
     refine V.br (fun h2=>?_) (fun h2=>?_)
     ·rw[decide_eq_true_eq] at h2
      rw[if_pos h2]
      (conv=>whnf)
      refine V.st ?_
      exact Fin.of rfl
     ·rw[decide_eq_false_iff_not] at h2
      rw[if_neg h2]
      (conv=>whnf)
      refine V.st ?_
      exact Fin.of rfl
   generalize (if p=p2∧q=q2 then (p,q,(0:Int)) else if max q q2<min p p2 then (0,0,4) else (min p p2,max q q2,0))=r at *
   have hk:=jh3 231 p q p2 q2 2 r.1 r.2.1 r.2.2 2 (l2 p q p2 q2) (sel_o p p2) (sel_o q q2) (l2_c p q p2 q2) (by omega) (jfA hv.1 hv.2) hc
   refine V.en tbOk Tryz.func189 ?_
   (conv=>whnf)
   refine V.st ?_
   repeat ((try ((with_reducible refine .ext ?_);(conv=>whnf)));(with_reducible refine jaa (r:=?_) ?_ ?_);rotate_left;(focus (first|exact(hk)));(conv=>whnf);refine V.st ?_)
   exact Fin.of rfl
  ·rw[if_neg hv]
   have hk:=jh4 231 p q p2 q2 2 0 0 0 2 (l2 p q p2 q2) (sel_o p p2) (sel_o q q2) (l2_c p q p2 q2) (by omega) (jfB hv)
   refine V.en tbOk Tryz.func189 ?_
   (conv=>whnf)
   refine V.st ?_
   repeat ((try ((with_reducible refine .ext ?_);(conv=>whnf)));(with_reducible refine jaa (r:=?_) ?_ ?_);rotate_left;(focus (first|exact(hk)));(conv=>whnf);refine V.st ?_)
   exact Fin.of rfl
 generalize (if vb p q=true∧vb p2 q2=true then (if p=p2∧q=q2 then (p,q,(0:Int)) else if max q q2<min p p2 then (0,0,4) else (min p p2,max q q2,0)) else (0,0,30))=r at *
 refine V.en tbOk Tryz.func109 ?_
 (conv=>whnf)
 refine V.st ?_
 repeat ((try ((with_reducible refine .ext ?_);(conv=>whnf)));(with_reducible refine jaa (r:=?_) ?_ ?_);rotate_left;(focus (first|exact(ch)));(conv=>whnf);refine V.st ?_)
 exact Fin.of rfl
end Go.Proofs.YtpkdedncgclblaaGreatDoor
end
section
namespace Go.Proofs.YtpkdedncgclblaaGreatDoor
open Go Go.V Go.Nb Go.RowKit
def i64L:List Lf:=[.int .i64]
theorem i64_den {w:World}{v:Value}(h:leavesOk w i64L [v]):∃ n,Den Env.dummy (pubOf w) (.int .i64 n) v∧(-9223372036854775808≤n∧n≤9223372036854775807):=by
 obtain⟨v0,r0,e0,⟨n,h0,h0'⟩,e1⟩:=h
 subst e1
 simp only[List.cons.injEq,and_true] at e0
 subst e0 h0
 exact⟨n,⟨rfl,h0'⟩,by simpa [InR,V.lo,V.hi] using h0'⟩
theorem okWide_arr {P:Program}{w:World}{r:Reach}{base:Nat}{t n e:Nat}{v:Value}(ht:P.underlying t=some (.array n e))(h:Value.okWide P w r base t v):∃ cs,v = .agg cs∧cs.size=P.cellsOf t:=by
 simp only[Value.okWide,ht] at h
 obtain⟨cs,h1,h2,_⟩:=h
 exact⟨cs,h1,h2⟩
theorem okWide_one {P : Program} {w : World} {r : Reach} {base : Nat} {t : TypeId} {v : Value} (ht : (match P.underlying t with | some (.struct _) => false | some (.array _ _) => false | _ => true) = true) (h : Value.okWide P w r base t v) : v.cells.toList = [v] := by
  unfold Value.okWide at h
  split at h
  · rename_i e
    rw [e] at ht
    cases ht
  · rename_i e
    rw [e] at ht
    cases ht
  · cases v <;> first | rfl | skip
    exfalso
    unfold Cell.okWide at h
    split at h
    all_goals first
      | (rename_i h1; simp at h1; done)
      | skip
    unfold Cell.ok at h
    split at h <;> simp_all
theorem glW_of_tab {w:World}(h:Lib.TabIs Tryz.prog w "internal/strconv.uint64pow10" .u64 Lib.pow10Tab){tp:TypeId}{p:Value}(h2:w.var? Tryz.prog "strconv.ErrRange" = some #[.iface tp p]):GlW w:=by
 refine⟨?_,?_⟩
 rotate_left
 ·intro g hg
  simp only[glbE,ji5,jjr,or_false] at hg
  subst hg
  unfold World.var? at h2
  have hn:Tryz.prog.globalNamed "strconv.ErrRange" = some 4:=by kernel_rfl
  rw[hn] at h2
  simp only[Option.bind_some] at h2
  split at h2
  ·rename_i cs T f he
   cases h2
   exact⟨tp,p,T,f,he⟩
  ·cases h2
 intro g vs hg
 simp only[glb,ji5,jjr,or_false,Prod.mk.injEq] at hg
 obtain⟨rfl,rfl⟩:=hg
 refine⟨by simp,?_⟩
 unfold Lib.TabIs World.var? at h
 have hg:Tryz.prog.globalNamed "internal/strconv.uint64pow10" = some 2:=by kernel_rfl
 rw[hg] at h
 simp only[Option.bind_some] at h
 split at h
 ·rename_i cs T f he
  cases h
  exact⟨T,f,he⟩
 ·cases h
def repI (k:IntKind):Nat→List Lf
 | 0=>[]
 | n+1 => .int k::repI k n
theorem jgO {w:World}{k:IntKind} : ∀ {n:Nat} {vs:List Value},leavesOk w (repI k n) vs → ∃ xs:List Int,vs=xs.map (Value.int k)∧xs.length=n ∧ ∀ x∈xs,InR k x
 | 0,vs,h=>⟨[],h,rfl,fun x hx=>by simp at hx⟩
 | n+1,vs,⟨v,vs',e,⟨m,h1,h2⟩,h3⟩=>by
  subst e h1
  obtain⟨xs,e1,e2,e3⟩:=jgO h3
  refine⟨m::xs,by rw[e1];rfl,by simp[e2],fun x hx=>?_⟩
  rcases ji5.1 hx with rfl|hx
  ·exact h2
  ·exact e3 x hx
theorem iarr_den12 {w:World}{k:IntKind}{n:Nat}{cs:Array Value}(h:leavesOk w (repI k n) cs.toList):∃ xs:List Int,Den Env.dummy (pubOf w) (.iarr k xs) (.agg cs)∧xs.length=n ∧ ∀ x∈xs,InR k x:=by
 obtain⟨xs,e1,e2,e3⟩:=jgO h
 refine⟨xs,⟨?_,e3⟩,e2,e3⟩
 rw[← e1]
def i16x4L:List Lf:=repI .i16 4
def pdraftL:List Lf:=[.int .u8,.int .u8,.recs [.int .u8,.int .i16]]
theorem steps_of {n:Nat}{f:Nat→List D}(h:∀ j,j<n→l0sD [.int .u8,.int .i16] (f j)):∃ l:List (Int×Int),l.length=n∧(∀ j,j<n→f j=[.int .u8 (l.getD j (0,0)).1,.int .i16 (l.getD j (0,0)).2]) ∧ ∀ s∈l,(0≤s.1∧s.1≤255) ∧ -32768≤s.2∧s.2≤32767:=by
 induction n with
 | zero=>exact⟨[],rfl,fun j hj=>absurd hj (Nat.not_lt_zero _),fun s hs=>by simp at hs⟩
 | succ n ih=>
  obtain⟨l,h1,h2,h3⟩:=ih (fun j hj=>h j (by omega))
  obtain⟨d,ds,e1,⟨a,ea,ha⟩,d2,ds2,e2,⟨b,eb,hb⟩,e3⟩:=h n (by omega)
  subst e3 e2 ea eb
  refine⟨l++[(a,b)],by simp[h1],fun j hj=>?_,fun s hs=>?_⟩
  ·rcases jiI j n with g|g
   ·rw[h2 j g]
    simp only[ji3,jjc (show j<l.length by omega)]
   ·obtain rfl:j=n:=by omega
    rw[e1]
    simp only[ji3,jjm (show l.length≤j by omega),show j-l.length=0 by omega]
    rfl
  ·rcases jjh.1 hs with g|g
   ·exact h3 s g
   ·rw[List.mem_singleton.1 g]
    simp only[InR,V.lo,V.hi] at ha hb
    exact⟨ha,hb⟩
theorem jgK {h:Pub}{e n:Nat}{f g:Nat→List D}{v:Value}(hf:∀ j,j<n→f j=g j)(H:Den Env.dummy h (.slf e n f) v):Den Env.dummy h (.slf e n g) v:=by
 simp only[Den] at H ⊢
 obtain⟨a,cap,h1,h2,h3,h4⟩:=H
 refine⟨a,cap,h1,h2,h3,?_⟩
 cases a with
 | none=>exact h4
 | some ad=>
  refine⟨h4.1,fun j hj=>?_⟩
  have:=h4.2 j hj
  rw[hf j hj] at this
  exact this
theorem pdraft_den {w:World}{cs:Array Value}(h:leavesOk w pdraftL cs.toList):∃ (I O:Int) (l:List (Int×Int)),Den Env.dummy (pubOf w) (.agg [.int .u8 I,.int .u8 O,.slf 2 l.length (fun j=>[.int .u8 (l.getD j (0,0)).1,.int .i16 (l.getD j (0,0)).2])]) (.agg cs)∧(0≤I∧I≤255)∧(0≤O∧O≤255)∧(∀ s∈l,(0≤s.1∧s.1≤255) ∧ -32768≤s.2∧s.2≤32767)∧l.length≤140737488355328:=by
 obtain⟨v0,r0,e0,⟨I,h0,h0'⟩,v1,r1,e1,⟨O,h1,h1'⟩,v2,r2,e2,⟨n,f,hd,hn,hf⟩,e3⟩:=h
 subst e3 e2 e1
 obtain rfl:cs = #[v0,v1,v2]:=by cases cs;simp_all
 subst h0 h1
 obtain⟨l,l1,l2,l3⟩:=steps_of hf
 subst l1
 refine⟨I,O,l,⟨_,rfl,⟨_,_,rfl,⟨rfl,h0'⟩,_,_,rfl,⟨rfl,h1'⟩,_,_,rfl,jgK l2 hd,rfl⟩,?_⟩,by simpa [InR,V.lo,V.hi] using h0',by simpa [InR,V.lo,V.hi] using h1',l3,hn⟩
 intro v hv
 simp only[ji5,jjr,or_false] at hv
 rcases hv with rfl|rfl|rfl
 ·rfl
 ·rfl
 ·simp only[Den] at hd
  obtain⟨a,cap,e,_⟩:=hd
  rw[e]
  rfl
def sixL:List Lf:=[.bool,.ints .u16,.int .u16,.bool,.ints .u16,.int .u16]
def x4L:List Lf:=rep sixL 4
def sixD (b:Bool)(x:List Int)(z:Int)(b2:Bool)(x2:List Int)(z2:Int):List D:=[.bool b,.ints .u16 x,.int .u16 z,.bool b2,.ints .u16 x2,.int .u16 z2]
theorem jf0 {w:World}{r:List Lf}{vs:List Value}(h:leavesOk w (sixL++r) vs):∃ b x z b2 x2 z2 us rest,vs=us++rest∧DenL Env.dummy (pubOf w) (sixD b x z b2 x2 z2) us∧(∀ v∈us,v.oneCell'=true)∧((0≤z∧z≤65535)∧0≤z2∧z2≤65535)∧leavesOk w r rest:=by
 obtain⟨v0,r0,e0,⟨b,h0⟩,v1,r1,e1,⟨xs,h1⟩,v2,r2,e2,⟨z,h2,h2'⟩,v3,r3,e3,⟨b2,h3⟩,v4,r4,e4,⟨xs2,h4⟩,v5,r5,e5,⟨z2,h5,h5'⟩,e6⟩:=h
 subst e5 e4 e3 e2 e1 e0
 subst h0 h2 h3 h5
 have g1:=h1
 have g4:=h4
 obtain⟨a1,c1,x1,_,y1,z1,_⟩:=g1
 obtain⟨a4,c4,x4,_,y4,z4,_⟩:=g4
 refine⟨b,xs,z,b2,xs2,z2,[.bool b,v1,.int .u16 z,.bool b2,v4,.int .u16 z2],r5,rfl,⟨_,_,rfl,rfl,v1,_,rfl,h1,_,_,rfl,⟨rfl,h2'⟩,_,_,rfl,rfl,v4,_,rfl,h4,_,_,rfl,⟨rfl,h5'⟩,rfl⟩,?_,⟨by simpa [InR,V.lo,V.hi] using h2',by simpa [InR,V.lo,V.hi] using h5'⟩,e6⟩
 subst x1 x4
 intro v hv
 simp only[ji5,jjr,or_false] at hv
 rcases hv with rfl|rfl|rfl|rfl|rfl|rfl<;>rfl
def sel4 {α:Type}(a b c d:α):Nat→α
 | 0=>a
 | 1=>b
 | 2=>c
 | _=>d
theorem sel4_all {α:Type}{P:α→Prop}{a b c d:α}(h0:P a)(h1:P b)(h2:P c)(h3:P d)(i:Nat):P (sel4 a b c d i):=by
 rcases i with _|_|_|i<;>assumption
theorem x4_den {w:World}{cs:Array Value}(h:leavesOk w x4L cs.toList):∃ (b:Nat→Bool) (x:Nat→List Int) (z:Nat→Int) (b2:Nat→Bool) (x2:Nat→List Int) (z2:Nat→Int),
  Den Env.dummy (pubOf w) (.agg (sixD (b 0) (x 0) (z 0) (b2 0) (x2 0) (z2 0)++(sixD (b 1) (x 1) (z 1) (b2 1) (x2 1) (z2 1)++(sixD (b 2) (x 2) (z 2) (b2 2) (x2 2) (z2 2)++sixD (b 3) (x 3) (z 3) (b2 3) (x2 3) (z2 3))))) (.agg cs)∧(∀ i,0≤z i∧z i≤65535) ∧ ∀ i,0≤z2 i∧z2 i≤65535:=by
 obtain⟨b0,x0,z0,c0,y0,k0,us0,r0,e0,d0,o0,m0,h⟩:=jf0 (r:=rep sixL 3) h
 obtain⟨b1,x1,z1,c1,y1,k1,us1,r1,e1,d1,o1,m1,h⟩:=jf0 (r:=rep sixL 2) h
 obtain⟨b2,x2,z2,c2,y2,k2,us2,r2,e2,d2,o2,m2,h⟩:=jf0 (r:=rep sixL 1) h
 obtain⟨b3,x3,z3,c3,y3,k3,us3,r3,e3,d3,o3,m3,h⟩:=jf0 (r:=rep sixL 0) h
 have h:r3=[]:=h
 subst h
 rw[jjk] at e3
 refine⟨sel4 b0 b1 b2 b3,sel4 x0 x1 x2 x3,sel4 z0 z1 z2 z3,sel4 c0 c1 c2 c3,sel4 y0 y1 y2 y3,sel4 k0 k1 k2 k3,⟨us0++(us1++(us2++us3)),?_,d0.append (d1.append (d2.append d3)),?_⟩,sel4_all (P:=fun z:Int=>0≤z∧z≤65535) m0.1 m1.1 m2.1 m3.1,sel4_all (P:=fun z:Int=>0≤z∧z≤65535) m0.2 m1.2 m2.2 m3.2⟩
 ·have:cs.toList=us0++(us1++(us2++us3)):=by rw[e0,e1,e2,e3]
  rw[← this]
 ·intro v hv
  rcases jjh.1 hv with hv|hv
  ·exact o0 v hv
  rcases jjh.1 hv with hv|hv
  ·exact o1 v hv
  rcases jjh.1 hv with hv|hv
  ·exact o2 v hv
  ·exact o3 v hv
end Go.Proofs.YtpkdedncgclblaaGreatDoor
end
section
namespace Go.Proofs.YtpkdedncgclblaaGreatDoor
open Go Go.V
def tkn (c:Int):Int:=if c=1∨c=2∨c=11 then 0 else if c=8∨c=9∨c=12 then 1 else if c=3∨c=4∨c=5∨c=6∨c=7 then 2 else if c=10 then 3 else 0
def tkb (c:Int):Bool:=decide (1≤c∧c≤12)
def loA (c:Int):Int:=if c=2 then -1000000000 else 0
def hiA (c i n:Int):Int:=if c=1 then i-1 else if c=2 then 1000000000 else if c=11 then n-1 else 0
def svS (i:Int)(s:Int×Int)(o:Int×Int):Option (Int×Int):=
 if tkb o.1=true∧tkn o.1≤s.1∧loA o.1≤o.2∧o.2≤hiA o.1 i s.1∧s.1+(1-tkn o.1)≤16 then some (s.1+(1-tkn o.1),max s.2 (s.1+(1-tkn o.1))) else none
def svL (i:Int)(s:Int×Int):List (Int×Int)→Option (Int×Int)
 | []=>some s
 | o::p=>match svS i s o with|some s'=>svL i s' p|none=>none
def surv (p:List (Int×Int))(i o:Int):Option Int:=
 if 1≤i∧i≤4∧1≤o∧o≤4∧p.length≤40 then match svL i (0,0) p with|some (n,d)=>if n=o then some d else none|none=>none else none
theorem jhp (i:Int)(s:Int×Int)(p q:List (Int×Int)):svL i s (p++q)=match svL i s p with|some s'=>svL i s' q|none=>none:=by
 induction p generalizing s with
 | nil=>rfl
 | cons o p ih=>
  simp only[ji1,svL]
  cases svS i s o with
  | none=>rfl
  | some s'=>exact ih s'
theorem jbF {α:Type}(p:List α)(k:Nat)(d:α)(h:k<p.length):p.take (k+1)=p.take k++[p.getD k d]:=by
 rw[List.take_add_one,ji3,ji6 h];rfl
theorem jek (i:Int)(p:List (Int×Int))(k:Nat)(h:k<p.length):svL i (0,0) (p.take (k+1))=match svL i (0,0) (p.take k) with|some s=>svS i s (p.getD k (0,0))|none=>none:=by
 rw[jbF p k (0,0) h,jhp]
 cases svL i (0,0) (p.take k) with
 | none=>rfl
 | some s=>simp only[svL];cases svS i s (p.getD k (0,0))<;>rfl
theorem jdo {i:Int}{p:List (Int×Int)}{k:Nat}(h:svL i (0,0) (p.take k)=none):svL i (0,0) p=none:=by
 rw[← jjb k p,jhp,h]
theorem jeB (c:Int):0≤tkn c∧tkn c≤3:=by
 unfold tkn;split<;>(try split)<;>(try split)<;>(try split)<;>omega
theorem svS_bd {i:Int}{s s':Int×Int}{o:Int×Int}(h:svS i s o=some s')(h1:0≤s.1∧s.1≤16∧0≤s.2∧s.2≤16):0≤s'.1∧s'.1≤16∧0≤s'.2∧s'.2≤16:=by
 unfold svS at h
 split at h
 ·cases h
  have:=jeB o.1
  simp only
  omega
 ·cases h
theorem jgE {i:Int} : ∀ {p:List (Int×Int)} {s s':Int×Int},svL i s p=some s'→0≤s.1∧s.1≤16∧0≤s.2∧s.2≤16→0≤s'.1∧s'.1≤16∧0≤s'.2∧s'.2≤16
 | [],s,s',h,h1=>by cases h;exact h1
 | o::p,s,s',h,h1=>by
  simp only[svL] at h
  cases hs:svS i s o with
  | none=>rw[hs] at h;cases h
  | some t=>rw[hs] at h;exact jgE h (svS_bd hs h1)
structure Mc (α:Type) where
 num:Int→α
 op:Int→List α→α×Int
def putM {α:Type}(l:List α)(r:α×Int):Except Int (List α):=if r.2=0 then .ok (l++[r.1]) else .error r.2
def stM {α:Type}[Inhabited α](M:Mc α)(x:List α)(o:Int×Int)(l:List α):Except Int (List α):=
 if o.1=1 then .ok (l++[x.getD o.2.toNat default])
 else if o.1=2 then .ok (l++[M.num o.2])
 else if o.1=11 then .ok (l++[l.getD (l.length-1-o.2.toNat) default])
 else putM (l.take (l.length-(tkn o.1).toNat)) (M.op o.1 (l.drop (l.length-(tkn o.1).toNat)))
def rnM {α:Type}[Inhabited α](M:Mc α)(x:List α):List (Int×Int)→List α→Except Int (List α)
 | [],l => .ok l
 | o::p,l=>match stM M x o l with | .ok l'=>rnM M x p l' | .error e => .error e
theorem rnM_app {α:Type}[Inhabited α](M:Mc α)(x:List α)(p q:List (Int×Int))(l:List α):rnM M x (p++q) l=match rnM M x p l with | .ok l'=>rnM M x q l' | .error e => .error e:=by
 induction p generalizing l with
 | nil=>rfl
 | cons o p ih=>
  simp only[ji1,rnM]
  cases stM M x o l with
  | error e=>rfl
  | ok l'=>exact ih l'
theorem jf4 {α:Type}[Inhabited α](M:Mc α)(x:List α)(p:List (Int×Int))(k:Nat)(h:k<p.length):rnM M x (p.take (k+1)) []=match rnM M x (p.take k) [] with | .ok l=>stM M x (p.getD k (0,0)) l | .error e => .error e:=by
 rw[jbF p k (0,0) h,rnM_app]
 cases rnM M x (p.take k) [] with
 | error e=>rfl
 | ok l=>simp only[rnM];cases stM M x (p.getD k (0,0)) l<;>rfl
theorem jhy {α:Type}[Inhabited α]{M:Mc α}{x:List α}{p:List (Int×Int)}{k:Nat}{e:Int}(h:rnM M x (p.take k) [] = .error e):rnM M x p [] = .error e:=by
 rw[← jjb k p,rnM_app,h]
theorem jfZ {α:Type}[Inhabited α]{M:Mc α}{x:List α}{i:Int}{s s':Int×Int}{o:Int×Int}{l l':List α}(hs:svS i s o=some s')(hl:s.1=(l.length:Int))(h:stM M x o l = .ok l'):s'.1=(l'.length:Int):=by
 unfold svS at hs
 split at hs
 case isFalse=>cases hs
 rename_i hc
 cases hs
 obtain⟨h1,h2,h3,h4,h5⟩:=hc
 have t0:0≤tkn o.1:=by unfold tkn;split<;>(try split)<;>(try split)<;>(try split)<;>omega
 unfold stM at h
 split at h
 ·rename_i e;cases h;simp only[e,tkn,ji8,jji,List.length_nil,true_or,if_true];omega
 split at h
 ·rename_i e;cases h;simp only[e,tkn,ji8,jji,List.length_nil];simp;omega
 split at h
 ·rename_i e;cases h;simp only[e,tkn,ji8,jji,List.length_nil];simp;omega
 unfold putM at h
 split at h
 ·cases h
  simp only[ji8,ji9,jji,List.length_nil]
  omega
 ·cases h
theorem jbl (c:Int):Cl 120 [.int .i64 c] (.tup [.int .i64 (tkn c),.bool (tkb c)]):=by
 by_cases e1:c=1
 ·subst e1
  refine V.en tbOk Tryz.func120 ?_
  (conv=>whnf)
  refine V.st ?_
  exact Fin.of rfl
 by_cases e2:c=2
 ·subst e2
  refine V.en tbOk Tryz.func120 ?_
  (conv=>whnf)
  refine V.st ?_
  exact Fin.of rfl
 by_cases e11:c=11
 ·subst e11
  refine V.en tbOk Tryz.func120 ?_
  (conv=>whnf)
  refine V.st ?_
  exact Fin.of rfl
 by_cases e8:c=8
 ·subst e8
  refine V.en tbOk Tryz.func120 ?_
  (conv=>whnf)
  refine V.st ?_
  exact Fin.of rfl
 by_cases e9:c=9
 ·subst e9
  refine V.en tbOk Tryz.func120 ?_
  (conv=>whnf)
  refine V.st ?_
  exact Fin.of rfl
 by_cases e12:c=12
 ·subst e12
  refine V.en tbOk Tryz.func120 ?_
  (conv=>whnf)
  refine V.st ?_
  exact Fin.of rfl
 by_cases e3:c=3
 ·subst e3
  refine V.en tbOk Tryz.func120 ?_
  (conv=>whnf)
  refine V.st ?_
  exact Fin.of rfl
 by_cases e4:c=4
 ·subst e4
  refine V.en tbOk Tryz.func120 ?_
  (conv=>whnf)
  refine V.st ?_
  exact Fin.of rfl
 by_cases e5:c=5
 ·subst e5
  refine V.en tbOk Tryz.func120 ?_
  (conv=>whnf)
  refine V.st ?_
  exact Fin.of rfl
 by_cases e6:c=6
 ·subst e6
  refine V.en tbOk Tryz.func120 ?_
  (conv=>whnf)
  refine V.st ?_
  exact Fin.of rfl
 by_cases e7:c=7
 ·subst e7
  refine V.en tbOk Tryz.func120 ?_
  (conv=>whnf)
  refine V.st ?_
  exact Fin.of rfl
 by_cases e10:c=10
 ·subst e10
  refine V.en tbOk Tryz.func120 ?_
  (conv=>whnf)
  refine V.st ?_
  exact Fin.of rfl
 have h1:tkn c=0:=by unfold tkn;simp[e1,e2,e3,e4,e5,e6,e7,e8,e9,e10,e11,e12]
 have h2:tkb c=false:=decide_eq_false (by omega)
 rw[h1,h2]
 have f1:=decide_eq_false e1
 have f2:=decide_eq_false e2
 have f3:=decide_eq_false e3
 have f4:=decide_eq_false e4
 have f5:=decide_eq_false e5
 have f6:=decide_eq_false e6
 have f7:=decide_eq_false e7
 have f8:=decide_eq_false e8
 have f9:=decide_eq_false e9
 have f10:=decide_eq_false e10
 have f11:=decide_eq_false e11
 have f12:=decide_eq_false e12
 refine V.en tbOk Tryz.func120 ?_
 (conv=>whnf)
 (conv=>whnf)
 (try simp only[f1,f2,f3,f4,f5,f6,f7,f8,f9,f10,f11,f12])
 repeat ((first|refine V.s1 ?_);(try simp only[f1,f2,f3,f4,f5,f6,f7,f8,f9,f10,f11,f12]))
 exact Fin.of rfl
theorem need_y:Cl 119 [.bool true] (.tup []):=by
 refine V.en tbOk Tryz.func119 ?_
 (conv=>whnf)
 refine V.st ?_
 exact Fin.of rfl
theorem need_n:Panics Tryz.prog 119 [.bool false] (.iface 155 (.agg #[.int .i64 120])):=by
 refine jge tbOk 6 ⟨Tryz.func119,rfl,rfl,jis rfl⟩ ?_
 (conv=>whnf)
 refine Cnd.split (CondB.mk (fun _=>?_) (fun h=>absurd h (by decide)))
 (conv=>whnf)
theorem argument_c (c a i n:Int)(hi:0≤i∧i≤100)(hn:0≤n∧n≤100):Cl 121 [.agg [.int .i64 c,.int .i64 a],.int .i64 i,.int .i64 n] (.bool (decide (loA c≤a) && decide (a≤hiA c i n))):=by
 by_cases e1:c=1
 ·subst e1
  refine V.en tbOk Tryz.func121 ?_
  (conv=>whnf)
  refine V.st ?_
  exact Fin.of rfl
 by_cases e2:c=2
 ·subst e2
  refine V.en tbOk Tryz.func121 ?_
  (conv=>whnf)
  refine V.st ?_
  exact Fin.of rfl
 by_cases e11:c=11
 ·subst e11
  refine V.en tbOk Tryz.func121 ?_
  (conv=>whnf)
  refine V.st ?_
  exact Fin.of rfl
 have h1:loA c=0:=if_neg e2
 have h2:hiA c i n=0:=by unfold hiA;rw[if_neg e1,if_neg e2,if_neg e11]
 rw[h1,h2]
 have f1:=decide_eq_false e1
 have f2:=decide_eq_false e2
 have f11:=decide_eq_false e11
 refine V.en tbOk Tryz.func121 ?_
 refine V.r0 (V.a3 f1 f2 f11) ?_
 exact Fin.of rfl
end Go.Proofs.YtpkdedncgclblaaGreatDoor
end
section
namespace Go.Proofs.YtpkdedncgclblaaGreatDoor
open Go Go.V Go.RowKit
theorem jgp (y:Int)(w:World):(Instr.typeAssert (.iface 155 (.agg #[.int .i64 y])) 20 155 true).run Tryz.prog w = .ok (.tuple #[.agg #[.int .i64 y],.bool true]) w:=by
 simp[Instr.typeAssert,run_underlying Tryz.underlying155,go_sem,Result.andThen]
theorem jhK (w:World):(Instr.typeAssert .nilIface 20 155 true).run Tryz.prog w = .ok (.tuple #[.agg #[.int .i64 0],.bool false]) w:=by
 simp[Instr.typeAssert,run_underlying Tryz.underlying155,go_sem,Result.andThen]
theorem jfF {W:World}{B j:Nat}{cs:Array Value}{T:TypeId}{fr:Nat×Nat}(v:Value)(h:W.heap[B]? = some (.cells cs T fr)):(W.setCell ⟨B,j,none⟩ v).heap[B]? = some (.cells (cs.setIfInBounds j v) T fr):=by
 obtain⟨hlt,hk⟩:=Array.getElem?_eq_some_iff.1 h
 show (W.heap.modify B _)[B]? = _
 rw[Array.getElem?_eq_getElem (by rw[Array.size_modify];exact hlt),Array.getElem_modify_self,hk]
 rfl
theorem jeA {w W:World}{b q:Nat}{A B:Array Value}{T T':TypeId}(x y:Value)(hne:b≠q)(hbel:Below (min b q) w W)(ko:∀ k,k<w.heap.size→W.heap[k]? = w.heap[k]?)(hb:W.heap[b]? = some (.cells A T (0,0)))(hq:W.heap[q]? = some (.cells B T' (0,0))) :
  Below (min b q) w ((W.setCell ⟨b,0,none⟩ x).setCell ⟨q,0,none⟩ y).drew∧(∀ k,k<w.heap.size→k≠b→k≠q→((W.setCell ⟨b,0,none⟩ x).setCell ⟨q,0,none⟩ y).drew.heap[k]? = w.heap[k]?) ∧
   ((W.setCell ⟨b,0,none⟩ x).setCell ⟨q,0,none⟩ y).drew.heap[b]? = some (.cells (A.setIfInBounds 0 x) T (0,0))∧((W.setCell ⟨b,0,none⟩ x).setCell ⟨q,0,none⟩ y).drew.heap[q]? = some (.cells (B.setIfInBounds 0 y) T' (0,0)):=by
 have o1:∀ k,k≠b→(W.setCell ⟨b,0,none⟩ x).heap[k]? = W.heap[k]? := fun k hk=>Below.heap_setCell _ _ _ _ hk
 have o2:∀ k,k≠q→((W.setCell ⟨b,0,none⟩ x).setCell ⟨q,0,none⟩ y).heap[k]? = (W.setCell ⟨b,0,none⟩ x).heap[k]? := fun k hk=>Below.heap_setCell _ _ _ _ hk
 refine⟨((hbel.setCell (Nat.min_le_left _ _) _).setCell (Nat.min_le_right _ _) _).drew,fun k hk h1 h2=>?_,?_,?_⟩
 ·show ((W.setCell ⟨b,0,none⟩ x).setCell ⟨q,0,none⟩ y).heap[k]? = _
  rw[o2 k h2,o1 k h1,ko k hk]
 ·show ((W.setCell ⟨b,0,none⟩ x).setCell ⟨q,0,none⟩ y).heap[b]? = _
  rw[o2 b hne];exact jfF _ hb
 ·show ((W.setCell ⟨b,0,none⟩ x).setCell ⟨q,0,none⟩ y).heap[q]? = _
  exact jfF _ ((o1 q hne.symm).trans hq)
theorem tm12 (a b x y z n t:Value) : #[a,b]++((((((((Array.replicate 10 Go.undef).setIfInBounds 3 x).setIfInBounds 4 y).setIfInBounds 2 y).setIfInBounds 5 z).setIfInBounds 6 t).setIfInBounds 0 n).setIfInBounds 1 t).setIfInBounds 7 t = #[a,b,n,t,y,x,y,z,t,t,Go.undef,Go.undef]:=by
 apply Array.toList_inj.1
 simp[Array.toList_setIfInBounds,List.replicate]
theorem idle_S:Idles Tryz.prog 118:=by
 refine⟨jaw Tryz.func118 rfl rfl,fun w b q=>?_⟩
 refine callsDIn_of_wpSIn Tryz.func118 rfl trivial fun c₀ cs hu=>?_
 apply wpSIn_seq
 apply wpSIn_region
 simp[wpOpsSIn,go_sem,recoverD,hu,Tryz.ntmps118,Exit.thenS,jhK]
 apply wpSIn_seq
 apply wpSIn_region
 simp[wpOpsSIn,go_sem,Exit.thenS]
 refine wpSIn_cond (t:=false) (by simp[Act.eval,Array.replicate]) ?_
 simp only[Bool.false_eq_true,if_false]
 refine wpSIn_of_wpIn rfl (wpIn_skip ?_)
 cases c₀
 simp_all [Exit.thenS,bodyPostS,results]
 exact(RowKit.Below.refl _ w).alloc (jiB _) _
theorem jgx (e:Int):Catches Tryz.prog 118 (.iface 155 (.agg #[.int .i64 e])) (.int .i64 0) (.int .i64 e):=by
 refine⟨fun w b q A B T T' hne hb hq hA hB hcA hcB=>?_,rfl,rfl⟩
 refine callsDIn_of_wpSIn Tryz.func118 rfl trivial fun c₀ cs hu=>?_
 apply wpSIn_seq
 apply wpSIn_region
 simp[wpOpsSIn,go_sem,recoverD,hu,Tryz.ntmps118,Exit.thenS,jgp]
 apply wpSIn_seq
 apply wpSIn_region
 simp[wpOpsSIn,go_sem,Exit.thenS]
 refine wpSIn_cond (t:=true) (by simp[Act.eval,Array.replicate]) ?_
 simp only[if_true]
 refine wpSIn_of_wpIn rfl (wpIn_wide.2 ?_)
 rw[tm12]
 obtain⟨u,hu0,hu1⟩:=hcA
 obtain⟨v,hv0,hv1⟩:=hcB
 have hlb:b<w.heap.size:=(Array.getElem?_eq_some_iff.1 hb).1
 have hlq:q<w.heap.size:=(Array.getElem?_eq_some_iff.1 hq).1
 have hbel:Below (min b q) w (w.alloc (Obj.cells #[Value.int .i64 e] 155)):=(Below.refl _ w).alloc (by omega) _
 have kn:=World.alloc_heap_new w (Obj.cells #[Value.int .i64 e] 155)
 have ko:∀ k,k<w.heap.size→(w.alloc (Obj.cells #[Value.int .i64 e] 155)).heap[k]? = w.heap[k]? := fun k hk=>Below.heap_alloc w _ k (by omega)
 have hsz:(w.alloc (Obj.cells #[Value.int .i64 e] 155)).heap.size=w.heap.size+1:=by rw[World.size_alloc]
 generalize w.alloc (Obj.cells #[Value.int .i64 e] 155)=W at *
 have kb:=(ko b hlb).trans hb
 have kq:=(ko q hlq).trans hq
 have cb:W.cell? ⟨b,0,none⟩=some u:=by rw[Lib.cell_of_heap kb];exact hu0
 have cq:W.cell? ⟨q,0,none⟩=some v:=by rw[Lib.cell_of_heap kq];exact hv0
 have cn:W.cell? ⟨w.heap.size,0,none⟩=some (.int .i64 e):=by rw[Lib.cell_of_heap kn];rfl
 have fb:W.frozen? ⟨b,0,none⟩=false:=Lib.frozen_of_heap kb 0
 have fq:W.frozen? ⟨q,0,none⟩=false:=Lib.frozen_of_heap kq 0
 have fin:=Nonempty.intro (PLift.up (jeA (.int .i64 0) (.int .i64 e) hne hbel ko kb kq))
 have hne':¬ q=b:=fun e=>hne e.symm
 have hn1:¬ b=w.heap.size:=by omega
 have hn2:¬ q=w.heap.size:=by omega
 have hn3:¬ w.heap.size=b:=by omega
 have hn4:¬ w.heap.size=q:=by omega
 clear hb hq hA hB hu0 hu1 hv0 hv1 hlb hlq ko kn kb kq hsz hbel
 generalize hn:w.heap.size=n at cn hn1 hn2 hn3 hn4 ⊢
 go_region
 obtain⟨⟨fin⟩⟩:=fin
 subst hn
 exact⟨rfl,_,rfl,.tuple #[],by simp[results,Tryz.results118],rfl,rfl,fin⟩
theorem idle_F:Idles Tryz.prog 91:=by
 refine⟨jaw Tryz.func91 rfl rfl,fun w b q=>?_⟩
 refine callsDIn_of_wpSIn Tryz.func91 rfl trivial fun c₀ cs hu=>?_
 apply wpSIn_seq
 apply wpSIn_region
 simp[wpOpsSIn,go_sem,recoverD,hu,Tryz.ntmps91,Exit.thenS,jhK]
 apply wpSIn_seq
 apply wpSIn_region
 simp[wpOpsSIn,go_sem,Exit.thenS]
 refine wpSIn_cond (t:=false) (by simp[Act.eval,Array.replicate]) ?_
 simp only[Bool.false_eq_true,if_false]
 refine wpSIn_of_wpIn rfl (wpIn_skip ?_)
 cases c₀
 simp_all [Exit.thenS,bodyPostS,results]
 exact(RowKit.Below.refl _ w).alloc (jiB _) _
theorem catch_F (e:Int):Catches Tryz.prog 91 (.iface 155 (.agg #[.int .i64 e])) (.slice none 0 0) (.int .i64 e):=by
 refine⟨fun w b q A B T T' hne hb hq hA hB hcA hcB=>?_,rfl,rfl⟩
 refine callsDIn_of_wpSIn Tryz.func91 rfl trivial fun c₀ cs hu=>?_
 apply wpSIn_seq
 apply wpSIn_region
 simp[wpOpsSIn,go_sem,recoverD,hu,Tryz.ntmps91,Exit.thenS,jgp]
 apply wpSIn_seq
 apply wpSIn_region
 simp[wpOpsSIn,go_sem,Exit.thenS]
 refine wpSIn_cond (t:=true) (by simp[Act.eval,Array.replicate]) ?_
 simp only[if_true]
 refine wpSIn_of_wpIn rfl (wpIn_wide.2 ?_)
 rw[tm12]
 obtain⟨u,hu0,hu1⟩:=hcA
 obtain⟨v,hv0,hv1⟩:=hcB
 have hlb:b<w.heap.size:=(Array.getElem?_eq_some_iff.1 hb).1
 have hlq:q<w.heap.size:=(Array.getElem?_eq_some_iff.1 hq).1
 have hbel:Below (min b q) w (w.alloc (Obj.cells #[Value.int .i64 e] 155)):=(Below.refl _ w).alloc (by omega) _
 have kn:=World.alloc_heap_new w (Obj.cells #[Value.int .i64 e] 155)
 have ko:∀ k,k<w.heap.size→(w.alloc (Obj.cells #[Value.int .i64 e] 155)).heap[k]? = w.heap[k]? := fun k hk=>Below.heap_alloc w _ k (by omega)
 have hsz:(w.alloc (Obj.cells #[Value.int .i64 e] 155)).heap.size=w.heap.size+1:=by rw[World.size_alloc]
 generalize w.alloc (Obj.cells #[Value.int .i64 e] 155)=W at *
 have kb:=(ko b hlb).trans hb
 have kq:=(ko q hlq).trans hq
 have cb:W.cell? ⟨b,0,none⟩=some u:=by rw[Lib.cell_of_heap kb];exact hu0
 have cq:W.cell? ⟨q,0,none⟩=some v:=by rw[Lib.cell_of_heap kq];exact hv0
 have cn:W.cell? ⟨w.heap.size,0,none⟩=some (.int .i64 e):=by rw[Lib.cell_of_heap kn];rfl
 have fb:W.frozen? ⟨b,0,none⟩=false:=Lib.frozen_of_heap kb 0
 have fq:W.frozen? ⟨q,0,none⟩=false:=Lib.frozen_of_heap kq 0
 have fin:=Nonempty.intro (PLift.up (jeA (.slice none 0 0) (.int .i64 e) hne hbel ko kb kq))
 have hne':¬ q=b:=fun e=>hne e.symm
 have hn1:¬ b=w.heap.size:=by omega
 have hn2:¬ q=w.heap.size:=by omega
 have hn3:¬ w.heap.size=b:=by omega
 have hn4:¬ w.heap.size=q:=by omega
 clear hb hq hA hB hu0 hu1 hv0 hv1 hlb hlq ko kn kb kq hsz hbel
 generalize hn:w.heap.size=n at cn hn1 hn2 hn3 hn4 ⊢
 go_region
 obtain⟨⟨fin⟩⟩:=fin
 subst hn
 exact⟨rfl,_,rfl,.tuple #[],by simp[results,Tryz.results91],rfl,rfl,fin⟩
theorem idle_B:Idles Tryz.prog 112:=by
 refine⟨jaw Tryz.func112 rfl rfl,fun w b q=>?_⟩
 refine callsDIn_of_wpSIn Tryz.func112 rfl trivial fun c₀ cs hu=>?_
 apply wpSIn_seq
 apply wpSIn_region
 simp[wpOpsSIn,go_sem,recoverD,hu,Tryz.ntmps112,Exit.thenS,jhK]
 apply wpSIn_seq
 apply wpSIn_region
 simp[wpOpsSIn,go_sem,Exit.thenS]
 refine wpSIn_cond (t:=false) (by simp[Act.eval,Array.replicate]) ?_
 simp only[Bool.false_eq_true,if_false]
 refine wpSIn_of_wpIn rfl (wpIn_skip ?_)
 cases c₀
 simp_all [Exit.thenS,bodyPostS,results]
 exact(RowKit.Below.refl _ w).alloc (jiB _) _
theorem catch_B (e:Int):Catches Tryz.prog 112 (.iface 155 (.agg #[.int .i64 e])) (.slice none 0 0) (.int .i64 e):=by
 refine⟨fun w b q A B T T' hne hb hq hA hB hcA hcB=>?_,rfl,rfl⟩
 refine callsDIn_of_wpSIn Tryz.func112 rfl trivial fun c₀ cs hu=>?_
 apply wpSIn_seq
 apply wpSIn_region
 simp[wpOpsSIn,go_sem,recoverD,hu,Tryz.ntmps112,Exit.thenS,jgp]
 apply wpSIn_seq
 apply wpSIn_region
 simp[wpOpsSIn,go_sem,Exit.thenS]
 refine wpSIn_cond (t:=true) (by simp[Act.eval,Array.replicate]) ?_
 simp only[if_true]
 refine wpSIn_of_wpIn rfl (wpIn_wide.2 ?_)
 rw[tm12]
 obtain⟨u,hu0,hu1⟩:=hcA
 obtain⟨v,hv0,hv1⟩:=hcB
 have hlb:b<w.heap.size:=(Array.getElem?_eq_some_iff.1 hb).1
 have hlq:q<w.heap.size:=(Array.getElem?_eq_some_iff.1 hq).1
 have hbel:Below (min b q) w (w.alloc (Obj.cells #[Value.int .i64 e] 155)):=(Below.refl _ w).alloc (by omega) _
 have kn:=World.alloc_heap_new w (Obj.cells #[Value.int .i64 e] 155)
 have ko:∀ k,k<w.heap.size→(w.alloc (Obj.cells #[Value.int .i64 e] 155)).heap[k]? = w.heap[k]? := fun k hk=>Below.heap_alloc w _ k (by omega)
 have hsz:(w.alloc (Obj.cells #[Value.int .i64 e] 155)).heap.size=w.heap.size+1:=by rw[World.size_alloc]
 generalize w.alloc (Obj.cells #[Value.int .i64 e] 155)=W at *
 have kb:=(ko b hlb).trans hb
 have kq:=(ko q hlq).trans hq
 have cb:W.cell? ⟨b,0,none⟩=some u:=by rw[Lib.cell_of_heap kb];exact hu0
 have cq:W.cell? ⟨q,0,none⟩=some v:=by rw[Lib.cell_of_heap kq];exact hv0
 have cn:W.cell? ⟨w.heap.size,0,none⟩=some (.int .i64 e):=by rw[Lib.cell_of_heap kn];rfl
 have fb:W.frozen? ⟨b,0,none⟩=false:=Lib.frozen_of_heap kb 0
 have fq:W.frozen? ⟨q,0,none⟩=false:=Lib.frozen_of_heap kq 0
 have fin:=Nonempty.intro (PLift.up (jeA (.slice none 0 0) (.int .i64 e) hne hbel ko kb kq))
 have hne':¬ q=b:=fun e=>hne e.symm
 have hn1:¬ b=w.heap.size:=by omega
 have hn2:¬ q=w.heap.size:=by omega
 have hn3:¬ w.heap.size=b:=by omega
 have hn4:¬ w.heap.size=q:=by omega
 clear hb hq hA hB hu0 hu1 hv0 hv1 hlb hlq ko kn kb kq hsz hbel
 generalize hn:w.heap.size=n at cn hn1 hn2 hn3 hn4 ⊢
 go_region
 obtain⟨⟨fin⟩⟩:=fin
 subst hn
 exact⟨rfl,_,rfl,.tuple #[],by simp[results,Tryz.results112],rfl,rfl,fin⟩
end Go.Proofs.YtpkdedncgclblaaGreatDoor
end
section
namespace Go.Proofs.YtpkdedncgclblaaGreatDoor
open Go Go.V
abbrev opsD (p:List (Int×Int)):D := .slf 2 p.length (fun j=>[.int .i64 (p.getD j (0,0)).1,.int .i64 (p.getD j (0,0)).2])
theorem jim:type_of% @jiA∧type_of% @jiy:=⟨@jiA,@jiy⟩
theorem survey_c (p:List (Int×Int))(i o:Int):Cl 56 [opsD p,.int .i64 i,.int .i64 o] (.tup [.int .i64 ((surv p i o).getD 0),.int .i64 (if (surv p i o).isSome then 0 else 120)]):=by
 refine jbr (inlD_ok tbOk (jdg tbOk 6)) (jaw Tryz.func56 rfl rfl) ⟨_,_,⟨Tryz.func56,rfl,rfl,jis rfl⟩,_,_,_,_,_,false,_,_,_,_,rfl,⟨rfl,rfl,rfl,⟨_,rfl⟩,rfl,rfl⟩,?_⟩
 (conv=>whnf)
 refine V.st ?_
 refine DefK.mk 6 7 rfl rfl (by decide) (by decide) (by decide) (by decide) idle_S ?_
 cases hL:(decide (1≤i) && decide (i≤4) && decide (1≤o) && decide (o≤4) && decide ((p.length:Int)≤40)) with
 | false=>
  have hs:surv p i o=none:=by
   unfold surv
   rw[if_neg]
   intro h
   simp at hL
   omega
  rw[hs]
  refine V.r0 hL ?_
  refine .pan ?_
  (conv=>whnf)
  refine⟨_,need_n,?_⟩
  (conv=>whnf)
  refine CatchK.mk _ _ (.int .i64 0) (.int .i64 120) (jgx 120) (fun _ _=>by simp[Den,InR,V.lo,V.hi]) (fun _ _=>by simp[Den,InR,V.lo,V.hi]) ?_
  (conv=>whnf)
  exact Fin.of rfl
 | true=>
  have ny:=need_y
  have hb:1≤i∧i≤4∧1≤o∧o≤4∧p.length≤40:=by simp at hL;omega
  have hsv:surv p i o=match svL i (0,0) p with|some (n,d)=>if n=o then some d else none|none=>none:=by unfold surv;rw[if_pos hb]<;>rfl
  refine V.r1 (V.a2 hL @jiy) ny ?_
  refine jaf (((0:Nat),(0:Int),(0:Int))) (fun k=>k.1≤p.length∧svL i (0,0) (p.take k.1)=some (k.2.1,k.2.2)) (fun k=>p.length-k.1) (fun k=>[(9,.int .i64 k.2.1),(38,.int .i64 k.1)]) (fun k=>[(6,.box [.int .i64 k.2.2])]) ?_ ?_ ?_
  ·exact V.wk
  ·exact⟨jit _,rfl⟩
  rintro⟨k,n,d⟩ ⟨hk,hs⟩
  dsimp only at hk hs ⊢
  have hbd:=jgE hs (by simp)
  dsimp only at hbd
  have hkc:((k:Int)+1)=((k+1:Nat):Int):=by omega
  (conv=>whnf)
  refine V.st ?_
  refine V.br (fun hq=>?_) (fun hq=>?_)
  ·simp only[decide_eq_true_eq] at hq
   have hk2:k<p.length:=by omega
   have hsn:=jek i p k hk2
   rw[hs] at hsn
   obtain⟨c,a,hca⟩:∃ c a,p.getD k (0,0)=(c,a):=⟨_,_,rfl⟩
   rw[hca] at hsn
   dsimp only at hsn
   have tk:=jbl c
   have ag:=argument_c c a i n (by omega) (by omega)
   have tb:=jeB c
   cases h1:(tkb c && decide (tkn c≤n) && (decide (loA c≤a) && decide (a≤hiA c i n))) with
   | false=>
    have hn:svS i (n,d) (c,a)=none:=by
     unfold svS
     rw[if_neg]
     rintro⟨g1,g2,g3,g4,g5⟩
     dsimp only at g1 g2 g3 g4
     rw[g1,decide_eq_true g2,decide_eq_true g3,decide_eq_true g4] at h1
     cases h1
    rw[hn] at hsn
    rw[hsv,jdo hsn]
    (conv=>whnf)
    (try simp only[jim,hca,h1])
    repeat ((first|refine V.s1 ?_|((try ((with_reducible refine .ext ?_);(conv=>whnf);(try simp only[jim,hca,h1])));(with_reducible refine jaa (r:=?_) ?_ ?_);rotate_left;(focus (first|exact(tk)));(conv=>whnf))|((refine⟨_,fun _=>ag,?_⟩);(conv=>whnf)));(try simp only[jim,hca,h1]))
    refine .pan ?_
    (conv=>whnf)
    refine⟨_,need_n,?_⟩
    (conv=>whnf)
    refine CatchK.mk _ _ (.int .i64 0) (.int .i64 120) (jgx 120) (fun _ _=>by simp[Den,InR,V.lo,V.hi]) (fun _ _=>by simp[Den,InR,V.lo,V.hi]) ?_
    (conv=>whnf)
    exact Fin.of rfl
   | true=>
    have g:tkb c=true∧tkn c≤n∧loA c≤a∧a≤hiA c i n:=by simpa [and_assoc] using h1
    cases h2:decide (n+(1-tkn c)≤16) with
    | false=>
     have hn:svS i (n,d) (c,a)=none:=by
      unfold svS
      rw[if_neg]
      rintro⟨g1,g2,g3,g4,g5⟩
      dsimp only at g5
      rw[decide_eq_true g5] at h2
      cases h2
     rw[hn] at hsn
     rw[hsv,jdo hsn]
     (conv=>whnf)
     (try simp only[jim,hca,h1,h2])
     repeat ((first|refine V.s1 ?_|((try ((with_reducible refine .ext ?_);(conv=>whnf);(try simp only[jim,hca,h1,h2])));(with_reducible refine jaa (r:=?_) ?_ ?_);rotate_left;(focus (first|exact(tk)|exact(ny)));(conv=>whnf))|((refine⟨_,fun _=>ag,?_⟩);(conv=>whnf)));(try simp only[jim,hca,h1,h2]))
     refine .pan ?_
     (conv=>whnf)
     refine⟨_,need_n,?_⟩
     (conv=>whnf)
     refine CatchK.mk _ _ (.int .i64 0) (.int .i64 120) (jgx 120) (fun _ _=>by simp[Den,InR,V.lo,V.hi]) (fun _ _=>by simp[Den,InR,V.lo,V.hi]) ?_
     (conv=>whnf)
     exact Fin.of rfl
    | true=>
     have hn:svS i (n,d) (c,a)=some (n+(1-tkn c),max d (n+(1-tkn c))):=by
      unfold svS
      exact if_pos ⟨g.1,g.2.1,g.2.2.1,g.2.2.2,of_decide_eq_true h2⟩
     rw[hn] at hsn
     have h2':=of_decide_eq_true h2
     (conv=>whnf)
     (try simp only[jim,hca,h1,h2,hkc])
     repeat ((first|refine V.s1 ?_|((try ((with_reducible refine .ext ?_);(conv=>whnf);(try simp only[jim,hca,h1,h2,hkc])));(with_reducible refine jaa (r:=?_) ?_ ?_);rotate_left;(focus (first|exact(tk)|exact(ny)));(conv=>whnf))|((refine⟨_,fun _=>ag,?_⟩);(conv=>whnf)));(try simp only[jim,hca,h1,h2,hkc]))
     exact⟨(k+1,n+(1-tkn c),max d (n+(1-tkn c))),⟨by dsimp only;omega,hsn⟩,by dsimp only;omega,V.wk⟩
  ·simp only[decide_eq_false_iff_not] at hq
   have hke:k=p.length:=by omega
   rw[hke,jjs] at hs
   rw[hs] at hsv
   dsimp only at hsv
   cases h3:decide (n=o) with
   | false=>
    rw[if_neg (of_decide_eq_false h3)] at hsv
    rw[hsv]
    refine V.r0 h3 ?_
    refine .pan ?_
    (conv=>whnf)
    refine⟨_,need_n,?_⟩
    (conv=>whnf)
    refine CatchK.mk _ _ (.int .i64 0) (.int .i64 120) (jgx 120) (fun _ _=>by simp[Den,InR,V.lo,V.hi]) (fun _ _=>by simp[Den,InR,V.lo,V.hi]) ?_
    (conv=>whnf)
    exact Fin.of rfl
   | true=>
    rw[if_pos (of_decide_eq_true h3)] at hsv
    rw[hsv]
    refine V.r1 h3 ny ?_
    exact Fin.of rfl
end Go.Proofs.YtpkdedncgclblaaGreatDoor
end
