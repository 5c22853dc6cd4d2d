/- What functions of the program answer at given values, part 17. Conditions: those that each theorem names. -/
import Derived.Test.YtgjgpdceghjajaaGreatDoorSimplexWithinH16
import Derived.Test.YtgjgpdceghjajaaGreatDoorSimplexWithinH13
import Derived.Test.YtgjgpdceghjajaaGreatDoorSimplexWithinH15
import Derived.Test.YtgjgpdceghjajaaGreatDoorSimplexWithinH11
import Derived.Test.YtgjgpdceghjajaaGreatDoorSimplexWithinH10
import Derived.Test.YtgjgpdceghjajaaGreatDoorSimplexWithinH6
set_option linter.unusedSimpArgs false
set_option linter.unusedVariables false
set_option maxHeartbeats 8000000
set_option maxRecDepth 100000
section
namespace Go.Proofs.YtgjgpdceghjajaaGreatDoor
open Go Go.V Go.Nb
theorem dv_at {q o r:Int}(ho:0<o)(hr:0≤r∧r<o):(q*o+r)/o=q∧(q*o+r)%o=r:=by
 have h1:(q*o+r)%o=r:=by rw[Int.add_comm,Int.add_mul_emod_self_right];exact Int.emod_eq_of_lt hr.1 hr.2
 have h2:(q*o+r)/o=q:=by
  rw[Int.add_comm,Int.add_mul_ediv_right _ _ (by omega),Int.ediv_eq_zero_of_lt hr.1 hr.2,Int.zero_add]
 exact⟨h2,h1⟩
theorem dv_mul {a o z:Int}(ho:0≤o):a/(o*z)=a/o/z:=Int.ediv_mul_of_nonneg ho
theorem slot_get {data:List Int}{p out:Int}{r:Nat}(hr:r<out.toNat):(slot data p out).getD r 0=data.getD (p.toNat+r) 0:=by
 unfold slot
 simp[ji5,List.getElem?_take,hr,List.getElem?_drop]
theorem pos_at {q out:Int}{data:List Int}{N:Int}(ho:1≤out)(hl:(data.length:Int)=N*out)(hq:0≤q∧q<N){r:Nat}(hr:r<out.toNat) :
  ∃ a:Nat,(a:Int)=q*out+r∧a<data.length∧(a:Int)%out=r∧(a:Int)/out=q∧(slot data (q*out) out).getD r 0=data.getD a 0:=by
 have h0:0≤q*out:=jiz hq.1 (by omega)
 have h1:q*out+out≤N*out:=by
  have:=jiH (show q+1≤N by omega) (show 0≤out by omega)
  rw[jiX,jiY] at this
  exact this
 have d:=dv_at (q:=q) (o:=out) (r:=(r:Int)) (by omega) (by omega)
 have e:(((q*out).toNat+r:Nat):Int)=q*out+r:=by omega
 refine⟨(q*out).toNat+r,e,by omega,by rw[e];exact d.2,by rw[e];exact d.1,slot_get hr⟩
theorem grd_le {data:List Int}{s z T:Int}{a b:Nat}(hb:(b:Int)=a+s)(hz:2≤z)(h:grd data s z a≤T):(z-1)*(data.getD b 0-data.getD a 0)≤T∧(z-1)*(data.getD a 0-data.getD b 0)≤T:=by
 unfold grd at h
 rw[← hb,jiC] at h
 constructor
 ·exact ji2 (jiQ (by omega) (by omega)) h
 ·exact ji2 (jiQ (by omega) (by omega)) h
theorem jcW {zs data:List Int}{out:Int}(ho:1≤out){k:Nat}(hk:k<zs.length){q m z N:Int}(hz:zs.getD (zs.length-1-k) 0=z)(hz2:2≤z)(hl:(data.length:Int)=N*out)(hs:strd zs out k=out*m)(hm:0<m)(hq:0≤q∧q+m<N)(hc:q/m%z≠z-1){r:Nat}(hr:r<out.toNat) :
  (z-1)*((slot data ((q+m)*out) out).getD r 0-(slot data (q*out) out).getD r 0)≤(outS zs data out zs.length r).getD (zs.length-1-k) 0∧(z-1)*((slot data (q*out) out).getD r 0-(slot data ((q+m)*out) out).getD r 0)≤(outS zs data out zs.length r).getD (zs.length-1-k) 0:=by
 obtain⟨a,a1,a2,a3,a4,a5⟩:=pos_at ho hl (q:=q) (by omega) hr
 obtain⟨b,b1,b2,b3,b4,b5⟩:=pos_at ho hl (q:=q+m) (by omega) hr
 have hab:(b:Int)=a+strd zs out k:=by rw[b1,a1,hs,jiX,jiO m out];omega
 have g:=steep_ge (zs:=zs) (data:=data) (out:=out) hk a2 (by rw[hz,hs,dv_mul (by omega),a4];exact hc) a3
 rw[hz] at g
 rw[a5,b5]
 exact grd_le hab hz2 g
theorem jdV {z T u v:Int}(hz:2≤z)(h1:(z-1)*(v-u)≤T)(h2:(z-1)*(u-v)≤T):(v:Rat)-(u:Rat)≤(T:Rat)/((z-1:Int):Rat)∧(u:Rat)-(v:Rat)≤(T:Rat)/((z-1:Int):Rat):=by
 have hp:(0:Rat)<((z-1:Int):Rat):=by exact_mod_cast (show (0:Int)<z-1 by omega)
 have r1:=Rat.intCast_le_intCast.2 h1
 have r2:=Rat.intCast_le_intCast.2 h2
 rw[Rat.intCast_mul,Rat.intCast_sub] at r1 r2
 have e:((z-1:Int):Rat)*((T:Rat)/((z-1:Int):Rat))=(T:Rat):=by grind
 constructor
 ·refine Rat.le_of_mul_le_mul_left (c:=((z-1:Int):Rat)) ?_ hp
  rw[e]
  rw[← Rat.intCast_sub] at *
  exact r1
 ·refine Rat.le_of_mul_le_mul_left (c:=((z-1:Int):Rat)) ?_ hp
  rw[e]
  rw[← Rat.intCast_sub] at *
  exact r2
theorem adj1_0 {z0 out:Int}{data:List Int}(hg:jaj [z0] out data=true){i:Int}(hi:0≤i∧i+1≤z0-1){r:Nat}(hr:r<out.toNat) :
  ((((slot data (pz ([z0].zip [(i+1)])*out) out).getD r 0:Int):Rat)-(((slot data (pz ([z0].zip [i])*out) out).getD r 0:Int):Rat)≤(((outS [z0] data out 1 r).getD 0 0:Int):Rat)/((z0-1:Int):Rat))∧((((slot data (pz ([z0].zip [i])*out) out).getD r 0:Int):Rat)-(((slot data (pz ([z0].zip [(i+1)])*out) out).getD r 0:Int):Rat)≤(((outS [z0] data out 1 r).getD 0 0:Int):Rat)/((z0-1:Int):Rat)):=by
 have og:=jap hg
 have s0:=og.2.1 z0 (by simp)
 have b0:=pz_bd (z:=[z0].zip [i]) (by intro a ha;simp at ha;subst ha<;>dsimp only<;>omega)
 have b1:=pz_bd (z:=[z0].zip [(i+1)]) (by intro a ha;simp at ha;subst ha<;>dsimp only<;>omega)
 have e0:pz ([z0].zip [i])=i:=by simp[pz]
 have e1:pz ([z0].zip [(i+1)])=i+(1:Int):=by simp[pz]
 have ez:([z0].zip [i]).map (·.1)=[z0]:=rfl
 have ez1:([z0].zip [(i+1)]).map (·.1)=[z0]:=rfl
 rw[ez,e0] at b0
 rw[ez1,e1] at b1
 rw[e0,e1]
 have mp:0<(1:Int):=by decide
 have hc:i/(1:Int)%z0≠z0-1:=by
  rw[Int.ediv_one]
  rw[Int.emod_eq_of_lt (by omega) (by omega)]
  omega
 have hs:strd [z0] out 0=out*(1:Int):=by simp[strd]
 have a:=jcW (zs:=[z0]) (data:=data) (by omega) (k:=0) (by simp) (q:=i) (m:=(1:Int)) (z:=z0) (N:=prod [z0]) rfl (by omega) og.2.2.1.2 hs mp (by omega) hc hr
 exact jdV (by omega) a.1 a.2
theorem adj2_0 {z0 z1 out:Int}{data:List Int}(hg:jaj [z0,z1] out data=true){i j:Int}(hi:0≤i∧i+1≤z0-1)(hj:0≤j∧j≤z1-1){r:Nat}(hr:r<out.toNat) :
  ((((slot data (pz ([z0,z1].zip [(i+1),j])*out) out).getD r 0:Int):Rat)-(((slot data (pz ([z0,z1].zip [i,j])*out) out).getD r 0:Int):Rat)≤(((outS [z0,z1] data out 2 r).getD 0 0:Int):Rat)/((z0-1:Int):Rat))∧((((slot data (pz ([z0,z1].zip [i,j])*out) out).getD r 0:Int):Rat)-(((slot data (pz ([z0,z1].zip [(i+1),j])*out) out).getD r 0:Int):Rat)≤(((outS [z0,z1] data out 2 r).getD 0 0:Int):Rat)/((z0-1:Int):Rat)):=by
 have og:=jap hg
 have s0:=og.2.1 z0 (by simp)
 have s1:=og.2.1 z1 (by simp)
 have b0:=pz_bd (z:=[z0,z1].zip [i,j]) (by intro a ha;simp at ha;rcases ha with rfl|rfl<;>dsimp only<;>omega)
 have b1:=pz_bd (z:=[z0,z1].zip [(i+1),j]) (by intro a ha;simp at ha;rcases ha with rfl|rfl<;>dsimp only<;>omega)
 have e0:pz ([z0,z1].zip [i,j])=(i*z1+j):=by simp[pz]
 have e1:pz ([z0,z1].zip [(i+1),j])=(i*z1+j)+z1:=by simp[pz];grind
 have ez:([z0,z1].zip [i,j]).map (·.1)=[z0,z1]:=rfl
 have ez1:([z0,z1].zip [(i+1),j]).map (·.1)=[z0,z1]:=rfl
 rw[ez,e0] at b0
 rw[ez1,e1] at b1
 rw[e0,e1]
 have mp:0<z1:=by omega
 have hc:(i*z1+j)/z1%z0≠z0-1:=by
  rw[(dv_at (by omega) (by omega)).1]
  rw[Int.emod_eq_of_lt (by omega) (by omega)]
  omega
 have hs:strd [z0,z1] out 1=out*z1:=by simp[strd]
 have a:=jcW (zs:=[z0,z1]) (data:=data) (by omega) (k:=1) (by simp) (q:=(i*z1+j)) (m:=z1) (z:=z0) (N:=prod [z0,z1]) rfl (by omega) og.2.2.1.2 hs mp (by omega) hc hr
 exact jdV (by omega) a.1 a.2
theorem adj2_1 {z0 z1 out:Int}{data:List Int}(hg:jaj [z0,z1] out data=true){i j:Int}(hi:0≤i∧i≤z0-1)(hj:0≤j∧j+1≤z1-1){r:Nat}(hr:r<out.toNat) :
  ((((slot data (pz ([z0,z1].zip [i,(j+1)])*out) out).getD r 0:Int):Rat)-(((slot data (pz ([z0,z1].zip [i,j])*out) out).getD r 0:Int):Rat)≤(((outS [z0,z1] data out 2 r).getD 1 0:Int):Rat)/((z1-1:Int):Rat))∧((((slot data (pz ([z0,z1].zip [i,j])*out) out).getD r 0:Int):Rat)-(((slot data (pz ([z0,z1].zip [i,(j+1)])*out) out).getD r 0:Int):Rat)≤(((outS [z0,z1] data out 2 r).getD 1 0:Int):Rat)/((z1-1:Int):Rat)):=by
 have og:=jap hg
 have s0:=og.2.1 z0 (by simp)
 have s1:=og.2.1 z1 (by simp)
 have b0:=pz_bd (z:=[z0,z1].zip [i,j]) (by intro a ha;simp at ha;rcases ha with rfl|rfl<;>dsimp only<;>omega)
 have b1:=pz_bd (z:=[z0,z1].zip [i,(j+1)]) (by intro a ha;simp at ha;rcases ha with rfl|rfl<;>dsimp only<;>omega)
 have e0:pz ([z0,z1].zip [i,j])=(i*z1+j):=by simp[pz]
 have e1:pz ([z0,z1].zip [i,(j+1)])=(i*z1+j)+(1:Int):=by simp[pz];omega
 have ez:([z0,z1].zip [i,j]).map (·.1)=[z0,z1]:=rfl
 have ez1:([z0,z1].zip [i,(j+1)]).map (·.1)=[z0,z1]:=rfl
 rw[ez,e0] at b0
 rw[ez1,e1] at b1
 rw[e0,e1]
 have mp:0<(1:Int):=by decide
 have hc:(i*z1+j)/(1:Int)%z1≠z1-1:=by
  rw[Int.ediv_one]
  rw[(dv_at (by omega) (by omega)).2]
  omega
 have hs:strd [z0,z1] out 0=out*(1:Int):=by simp[strd]
 have a:=jcW (zs:=[z0,z1]) (data:=data) (by omega) (k:=0) (by simp) (q:=(i*z1+j)) (m:=(1:Int)) (z:=z1) (N:=prod [z0,z1]) rfl (by omega) og.2.2.1.2 hs mp (by omega) hc hr
 exact jdV (by omega) a.1 a.2
theorem adj3_0 {z0 z1 z2 out:Int}{data:List Int}(hg:jaj [z0,z1,z2] out data=true){i j k:Int}(hi:0≤i∧i+1≤z0-1)(hj:0≤j∧j≤z1-1)(hk:0≤k∧k≤z2-1){r:Nat}(hr:r<out.toNat) :
  ((((slot data (pz ([z0,z1,z2].zip [(i+1),j,k])*out) out).getD r 0:Int):Rat)-(((slot data (pz ([z0,z1,z2].zip [i,j,k])*out) out).getD r 0:Int):Rat)≤(((outS [z0,z1,z2] data out 3 r).getD 0 0:Int):Rat)/((z0-1:Int):Rat))∧((((slot data (pz ([z0,z1,z2].zip [i,j,k])*out) out).getD r 0:Int):Rat)-(((slot data (pz ([z0,z1,z2].zip [(i+1),j,k])*out) out).getD r 0:Int):Rat)≤(((outS [z0,z1,z2] data out 3 r).getD 0 0:Int):Rat)/((z0-1:Int):Rat)):=by
 have og:=jap hg
 have s0:=og.2.1 z0 (by simp)
 have s1:=og.2.1 z1 (by simp)
 have s2:=og.2.1 z2 (by simp)
 have b0:=pz_bd (z:=[z0,z1,z2].zip [i,j,k]) (by intro a ha;simp at ha;rcases ha with rfl|rfl|rfl<;>dsimp only<;>omega)
 have b1:=pz_bd (z:=[z0,z1,z2].zip [(i+1),j,k]) (by intro a ha;simp at ha;rcases ha with rfl|rfl|rfl<;>dsimp only<;>omega)
 have e0:pz ([z0,z1,z2].zip [i,j,k])=((i*z1+j)*z2+k):=by simp[pz]
 have e1:pz ([z0,z1,z2].zip [(i+1),j,k])=((i*z1+j)*z2+k)+(z2*z1):=by simp[pz];grind
 have ez:([z0,z1,z2].zip [i,j,k]).map (·.1)=[z0,z1,z2]:=rfl
 have ez1:([z0,z1,z2].zip [(i+1),j,k]).map (·.1)=[z0,z1,z2]:=rfl
 rw[ez,e0] at b0
 rw[ez1,e1] at b1
 rw[e0,e1]
 have mp:0<(z2*z1):=Int.mul_pos (by omega) (by omega)
 have hc:((i*z1+j)*z2+k)/(z2*z1)%z0≠z0-1:=by
  rw[dv_mul (by omega),(dv_at (q:=i*z1+j) (by omega) (by omega)).1,(dv_at (by omega) (by omega)).1,Int.emod_eq_of_lt (by omega) (by omega)]
  omega
 have hs:strd [z0,z1,z2] out 2=out*(z2*z1):=by simp[strd,jiP]
 have a:=jcW (zs:=[z0,z1,z2]) (data:=data) (by omega) (k:=2) (by simp) (q:=((i*z1+j)*z2+k)) (m:=(z2*z1)) (z:=z0) (N:=prod [z0,z1,z2]) rfl (by omega) og.2.2.1.2 hs mp (by omega) hc hr
 exact jdV (by omega) a.1 a.2
theorem adj3_1 {z0 z1 z2 out:Int}{data:List Int}(hg:jaj [z0,z1,z2] out data=true){i j k:Int}(hi:0≤i∧i≤z0-1)(hj:0≤j∧j+1≤z1-1)(hk:0≤k∧k≤z2-1){r:Nat}(hr:r<out.toNat) :
  ((((slot data (pz ([z0,z1,z2].zip [i,(j+1),k])*out) out).getD r 0:Int):Rat)-(((slot data (pz ([z0,z1,z2].zip [i,j,k])*out) out).getD r 0:Int):Rat)≤(((outS [z0,z1,z2] data out 3 r).getD 1 0:Int):Rat)/((z1-1:Int):Rat))∧((((slot data (pz ([z0,z1,z2].zip [i,j,k])*out) out).getD r 0:Int):Rat)-(((slot data (pz ([z0,z1,z2].zip [i,(j+1),k])*out) out).getD r 0:Int):Rat)≤(((outS [z0,z1,z2] data out 3 r).getD 1 0:Int):Rat)/((z1-1:Int):Rat)):=by
 have og:=jap hg
 have s0:=og.2.1 z0 (by simp)
 have s1:=og.2.1 z1 (by simp)
 have s2:=og.2.1 z2 (by simp)
 have b0:=pz_bd (z:=[z0,z1,z2].zip [i,j,k]) (by intro a ha;simp at ha;rcases ha with rfl|rfl|rfl<;>dsimp only<;>omega)
 have b1:=pz_bd (z:=[z0,z1,z2].zip [i,(j+1),k]) (by intro a ha;simp at ha;rcases ha with rfl|rfl|rfl<;>dsimp only<;>omega)
 have e0:pz ([z0,z1,z2].zip [i,j,k])=((i*z1+j)*z2+k):=by simp[pz]
 have e1:pz ([z0,z1,z2].zip [i,(j+1),k])=((i*z1+j)*z2+k)+z2:=by simp[pz];grind
 have ez:([z0,z1,z2].zip [i,j,k]).map (·.1)=[z0,z1,z2]:=rfl
 have ez1:([z0,z1,z2].zip [i,(j+1),k]).map (·.1)=[z0,z1,z2]:=rfl
 rw[ez,e0] at b0
 rw[ez1,e1] at b1
 rw[e0,e1]
 have mp:0<z2:=by omega
 have hc:((i*z1+j)*z2+k)/z2%z1≠z1-1:=by
  rw[(dv_at (by omega) (by omega)).1]
  rw[(dv_at (by omega) (by omega)).2]
  omega
 have hs:strd [z0,z1,z2] out 1=out*z2:=by simp[strd]
 have a:=jcW (zs:=[z0,z1,z2]) (data:=data) (by omega) (k:=1) (by simp) (q:=((i*z1+j)*z2+k)) (m:=z2) (z:=z1) (N:=prod [z0,z1,z2]) rfl (by omega) og.2.2.1.2 hs mp (by omega) hc hr
 exact jdV (by omega) a.1 a.2
theorem adj3_2 {z0 z1 z2 out:Int}{data:List Int}(hg:jaj [z0,z1,z2] out data=true){i j k:Int}(hi:0≤i∧i≤z0-1)(hj:0≤j∧j≤z1-1)(hk:0≤k∧k+1≤z2-1){r:Nat}(hr:r<out.toNat) :
  ((((slot data (pz ([z0,z1,z2].zip [i,j,(k+1)])*out) out).getD r 0:Int):Rat)-(((slot data (pz ([z0,z1,z2].zip [i,j,k])*out) out).getD r 0:Int):Rat)≤(((outS [z0,z1,z2] data out 3 r).getD 2 0:Int):Rat)/((z2-1:Int):Rat))∧((((slot data (pz ([z0,z1,z2].zip [i,j,k])*out) out).getD r 0:Int):Rat)-(((slot data (pz ([z0,z1,z2].zip [i,j,(k+1)])*out) out).getD r 0:Int):Rat)≤(((outS [z0,z1,z2] data out 3 r).getD 2 0:Int):Rat)/((z2-1:Int):Rat)):=by
 have og:=jap hg
 have s0:=og.2.1 z0 (by simp)
 have s1:=og.2.1 z1 (by simp)
 have s2:=og.2.1 z2 (by simp)
 have b0:=pz_bd (z:=[z0,z1,z2].zip [i,j,k]) (by intro a ha;simp at ha;rcases ha with rfl|rfl|rfl<;>dsimp only<;>omega)
 have b1:=pz_bd (z:=[z0,z1,z2].zip [i,j,(k+1)]) (by intro a ha;simp at ha;rcases ha with rfl|rfl|rfl<;>dsimp only<;>omega)
 have e0:pz ([z0,z1,z2].zip [i,j,k])=((i*z1+j)*z2+k):=by simp[pz]
 have e1:pz ([z0,z1,z2].zip [i,j,(k+1)])=((i*z1+j)*z2+k)+(1:Int):=by simp[pz];omega
 have ez:([z0,z1,z2].zip [i,j,k]).map (·.1)=[z0,z1,z2]:=rfl
 have ez1:([z0,z1,z2].zip [i,j,(k+1)]).map (·.1)=[z0,z1,z2]:=rfl
 rw[ez,e0] at b0
 rw[ez1,e1] at b1
 rw[e0,e1]
 have mp:0<(1:Int):=by decide
 have hc:((i*z1+j)*z2+k)/(1:Int)%z2≠z2-1:=by
  rw[Int.ediv_one]
  rw[(dv_at (by omega) (by omega)).2]
  omega
 have hs:strd [z0,z1,z2] out 0=out*(1:Int):=by simp[strd]
 have a:=jcW (zs:=[z0,z1,z2]) (data:=data) (by omega) (k:=0) (by simp) (q:=((i*z1+j)*z2+k)) (m:=(1:Int)) (z:=z2) (N:=prod [z0,z1,z2]) rfl (by omega) og.2.2.1.2 hs mp (by omega) hc hr
 exact jdV (by omega) a.1 a.2
theorem ds_gp {s:Int}(hs:2≤s)(T x y:Rat):T/((s-1:Int):Rat)*dsQ (gp s x) (gp s y)=T*dsQ (clQ x) (clQ y):=by
 have hp:(0:Rat)<((s-1:Int):Rat):=by exact_mod_cast (show (0:Int)<s-1 by omega)
 have e:dsQ (gp s x) (gp s y)=dsQ (clQ x) (clQ y)*((s-1:Int):Rat):=by
  unfold dsQ gp
  by_cases h:clQ x≤clQ y
  ·rw[if_pos h,if_pos (Rat.mul_le_mul_of_nonneg_right h (Rat.le_of_lt hp))]
   grind
  ·have h2:¬ clQ x*((s-1:Int):Rat)≤clQ y*((s-1:Int):Rat):=fun g=>h (Rat.le_of_mul_le_mul_right g hp)
   rw[if_neg h,if_neg h2]
   grind
 rw[e]
 grind
theorem jb5 (q:Rat):q-q≤0:=by grind
theorem ds_self (x:Rat):dsQ x x=0:=by
 unfold dsQ
 rw[if_pos Rat.le_refl]
 grind
theorem lip1 {z0 out:Int}{data:List Int}(hg:jaj [z0] out data=true){r:Nat}(hr:r<out.toNat)(x0 y0:Rat):evQ [z0] out data y0 0 0 r-evQ [z0] out data x0 0 0 r≤((((outS [z0] data out 1 r).getD 0 0:Int):Rat)*dsQ (clQ x0) (clQ y0))/65535:=by
 have og:=jap hg
 have s0:=og.2.1 z0 (by simp)
 have a0:Adj z0 2 2 (gvF [z0] out data r) ((((outS [z0] data out 1 r).getD 0 0:Int):Rat)/((z0-1:Int):Rat)):=fun i j k hi hj hk=>by
  exact adj1_0 hg hi hr
 have a1:Adj 2 z0 2 ((fun i j k=>gvF [z0] out data r j i k)) (0):=fun i j k hi hj hk=>by
  exact⟨jb5 _,jb5 _⟩
 have a2:Adj 2 2 z0 ((fun i j k=>gvF [z0] out data r k j i)) (0):=fun i j k hi hj hk=>by
  exact⟨jb5 _,jb5 _⟩
 have l:=ev_lip (s0:=z0) (s1:=2) (s2:=2) (by omega) a0 a1 a2 x0 0 0 y0 0 0
 rw[ds_gp s0.1] at l
 simp only[ds_self] at l
 show evF z0 2 2 (gvF [z0] out data r) y0 0 0/65535-evF z0 2 2 (gvF [z0] out data r) x0 0 0/65535≤_
 grind
theorem lip2 {z0 z1 out:Int}{data:List Int}(hg:jaj [z0,z1] out data=true){r:Nat}(hr:r<out.toNat)(x0 x1 y0 y1:Rat):evQ [z0,z1] out data y0 y1 0 r-evQ [z0,z1] out data x0 x1 0 r≤((((outS [z0,z1] data out 2 r).getD 0 0:Int):Rat)*dsQ (clQ x0) (clQ y0)+(((outS [z0,z1] data out 2 r).getD 1 0:Int):Rat)*dsQ (clQ x1) (clQ y1))/65535:=by
 have og:=jap hg
 have s0:=og.2.1 z0 (by simp)
 have s1:=og.2.1 z1 (by simp)
 have a0:Adj z0 z1 2 (gvF [z0,z1] out data r) ((((outS [z0,z1] data out 2 r).getD 0 0:Int):Rat)/((z0-1:Int):Rat)):=fun i j k hi hj hk=>by
  exact adj2_0 hg hi hj hr
 have a1:Adj z1 z0 2 ((fun i j k=>gvF [z0,z1] out data r j i k)) ((((outS [z0,z1] data out 2 r).getD 1 0:Int):Rat)/((z1-1:Int):Rat)):=fun i j k hi hj hk=>by
  exact adj2_1 hg hj hi hr
 have a2:Adj 2 z1 z0 ((fun i j k=>gvF [z0,z1] out data r k j i)) (0):=fun i j k hi hj hk=>by
  exact⟨jb5 _,jb5 _⟩
 have l:=ev_lip (s0:=z0) (s1:=z1) (s2:=2) (by omega) a0 a1 a2 x0 x1 0 y0 y1 0
 rw[ds_gp s0.1,ds_gp s1.1] at l
 simp only[ds_self] at l
 show evF z0 z1 2 (gvF [z0,z1] out data r) y0 y1 0/65535-evF z0 z1 2 (gvF [z0,z1] out data r) x0 x1 0/65535≤_
 grind
theorem lip3 {z0 z1 z2 out:Int}{data:List Int}(hg:jaj [z0,z1,z2] out data=true){r:Nat}(hr:r<out.toNat)(x0 x1 x2 y0 y1 y2:Rat):evQ [z0,z1,z2] out data y0 y1 y2 r-evQ [z0,z1,z2] out data x0 x1 x2 r≤((((outS [z0,z1,z2] data out 3 r).getD 0 0:Int):Rat)*dsQ (clQ x0) (clQ y0)+(((outS [z0,z1,z2] data out 3 r).getD 1 0:Int):Rat)*dsQ (clQ x1) (clQ y1)+(((outS [z0,z1,z2] data out 3 r).getD 2 0:Int):Rat)*dsQ (clQ x2) (clQ y2))/65535:=by
 have og:=jap hg
 have s0:=og.2.1 z0 (by simp)
 have s1:=og.2.1 z1 (by simp)
 have s2:=og.2.1 z2 (by simp)
 have a0:Adj z0 z1 z2 (gvF [z0,z1,z2] out data r) ((((outS [z0,z1,z2] data out 3 r).getD 0 0:Int):Rat)/((z0-1:Int):Rat)):=fun i j k hi hj hk=>by
  exact adj3_0 hg hi hj hk hr
 have a1:Adj z1 z0 z2 ((fun i j k=>gvF [z0,z1,z2] out data r j i k)) ((((outS [z0,z1,z2] data out 3 r).getD 1 0:Int):Rat)/((z1-1:Int):Rat)):=fun i j k hi hj hk=>by
  exact adj3_1 hg hj hi hk hr
 have a2:Adj z2 z1 z0 ((fun i j k=>gvF [z0,z1,z2] out data r k j i)) ((((outS [z0,z1,z2] data out 3 r).getD 2 0:Int):Rat)/((z2-1:Int):Rat)):=fun i j k hi hj hk=>by
  exact adj3_2 hg hk hj hi hr
 have l:=ev_lip (s0:=z0) (s1:=z1) (s2:=z2) (by omega) a0 a1 a2 x0 x1 x2 y0 y1 y2
 rw[ds_gp s0.1,ds_gp s1.1,ds_gp s2.1] at l
 show evF z0 z1 z2 (gvF [z0,z1,z2] out data r) y0 y1 y2/65535-evF z0 z1 z2 (gvF [z0,z1,z2] out data r) x0 x1 x2/65535≤_
 grind
theorem wthn1 {z0 out:Int}{data:List Int}(hg:jaj [z0] out data=true){r:Nat}(hr:r<out.toNat)(S W:Nat→Int×Int)(h:∀ i,i<1→(W i).1≤(S i).1∧(S i).2≤(W i).2):evQ [z0] out data (midB (W 0)) 0 0 r-sprQ [z0] data out 1 W r≤evQ [z0] out data (midB (S 0)) 0 0 r-sprQ [z0] data out 1 S r∧evQ [z0] out data (midB (S 0)) 0 0 r+sprQ [z0] data out 1 S r≤evQ [z0] out data (midB (W 0)) 0 0 r+sprQ [z0] data out 1 W r:=by
 have og:=jap hg
 have so:=jbb (out:=out) og.2.2.2 og.2.1 1 (jiD _) r
 have t0:(0:Rat)≤(((outS [z0] data out 1 r).getD 0 0:Int):Rat):=by exact_mod_cast (so.2 0).1
 have l1:=lip1 hg hr (midB (W 0)) (midB (S 0))
 have l2:=lip1 hg hr (midB (S 0)) (midB (W 0))
 simp only[jdU] at l1 l2
 have m0:=jfH (s:=S 0) (w:=W 0) (h 0 (by decide)).1 (h 0 (by decide)).2
 have u0:=ji3 m0 t0
 have v0:=u0
 rw[ja7] at v0
 have eS:sprQ [z0] data out 1 S r=((((outS [z0] data out 1 r).getD 0 0:Int):Rat)*halB (S 0))/65535:=rfl
 have eW:sprQ [z0] data out 1 W r=((((outS [z0] data out 1 r).getD 0 0:Int):Rat)*halB (W 0))/65535:=rfl
 rw[eS,eW]
 constructor<;>grind
theorem vlin1 {z0 out:Int}{data:List Int}(hg:jaj [z0] out data=true){r:Nat}(hr:r<out.toNat)(S:Nat→Int×Int)(v:Nat→Int)(h:∀ i,i<1→(S i).1≤v i∧v i≤(S i).2):evQ [z0] out data (midB (S 0)) 0 0 r-sprQ [z0] data out 1 S r≤evQ [z0] out data (Rat.divInt (v 0) 1000000000000) 0 0 r∧evQ [z0] out data (Rat.divInt (v 0) 1000000000000) 0 0 r≤evQ [z0] out data (midB (S 0)) 0 0 r+sprQ [z0] data out 1 S r:=by
 have og:=jap hg
 have so:=jbb (out:=out) og.2.2.2 og.2.1 1 (jiD _) r
 have t0:(0:Rat)≤(((outS [z0] data out 1 r).getD 0 0:Int):Rat):=by exact_mod_cast (so.2 0).1
 have l1:=lip1 hg hr (Rat.divInt (v 0) 1000000000000) (midB (S 0))
 have l2:=lip1 hg hr (midB (S 0)) (Rat.divInt (v 0) 1000000000000)
 simp only[jdU] at l1 l2
 have m0:=jdG (s:=S 0) (v:=v 0) (h 0 (by decide)).1 (h 0 (by decide)).2
 have u0:=ji3 m0 t0
 have w0:=u0
 rw[ja7] at w0
 have eS:sprQ [z0] data out 1 S r=((((outS [z0] data out 1 r).getD 0 0:Int):Rat)*halB (S 0))/65535:=rfl
 rw[eS]
 constructor<;>grind
theorem wthn2 {z0 z1 out:Int}{data:List Int}(hg:jaj [z0,z1] out data=true){r:Nat}(hr:r<out.toNat)(S W:Nat→Int×Int)(h:∀ i,i<2→(W i).1≤(S i).1∧(S i).2≤(W i).2):evQ [z0,z1] out data (midB (W 0)) (midB (W 1)) 0 r-sprQ [z0,z1] data out 2 W r≤evQ [z0,z1] out data (midB (S 0)) (midB (S 1)) 0 r-sprQ [z0,z1] data out 2 S r∧evQ [z0,z1] out data (midB (S 0)) (midB (S 1)) 0 r+sprQ [z0,z1] data out 2 S r≤evQ [z0,z1] out data (midB (W 0)) (midB (W 1)) 0 r+sprQ [z0,z1] data out 2 W r:=by
 have og:=jap hg
 have so:=jbb (out:=out) og.2.2.2 og.2.1 2 (jiD _) r
 have t0:(0:Rat)≤(((outS [z0,z1] data out 2 r).getD 0 0:Int):Rat):=by exact_mod_cast (so.2 0).1
 have t1:(0:Rat)≤(((outS [z0,z1] data out 2 r).getD 1 0:Int):Rat):=by exact_mod_cast (so.2 1).1
 have l1:=lip2 hg hr (midB (W 0)) (midB (W 1)) (midB (S 0)) (midB (S 1))
 have l2:=lip2 hg hr (midB (S 0)) (midB (S 1)) (midB (W 0)) (midB (W 1))
 simp only[jdU] at l1 l2
 have m0:=jfH (s:=S 0) (w:=W 0) (h 0 (by decide)).1 (h 0 (by decide)).2
 have u0:=ji3 m0 t0
 have v0:=u0
 rw[ja7] at v0
 have m1:=jfH (s:=S 1) (w:=W 1) (h 1 (by decide)).1 (h 1 (by decide)).2
 have u1:=ji3 m1 t1
 have v1:=u1
 rw[ja7] at v1
 have eS:sprQ [z0,z1] data out 2 S r=((((outS [z0,z1] data out 2 r).getD 0 0:Int):Rat)*halB (S 0)+(((outS [z0,z1] data out 2 r).getD 1 0:Int):Rat)*halB (S 1))/65535:=rfl
 have eW:sprQ [z0,z1] data out 2 W r=((((outS [z0,z1] data out 2 r).getD 0 0:Int):Rat)*halB (W 0)+(((outS [z0,z1] data out 2 r).getD 1 0:Int):Rat)*halB (W 1))/65535:=rfl
 rw[eS,eW]
 constructor<;>grind
theorem vlin2 {z0 z1 out:Int}{data:List Int}(hg:jaj [z0,z1] out data=true){r:Nat}(hr:r<out.toNat)(S:Nat→Int×Int)(v:Nat→Int)(h:∀ i,i<2→(S i).1≤v i∧v i≤(S i).2):evQ [z0,z1] out data (midB (S 0)) (midB (S 1)) 0 r-sprQ [z0,z1] data out 2 S r≤evQ [z0,z1] out data (Rat.divInt (v 0) 1000000000000) (Rat.divInt (v 1) 1000000000000) 0 r∧evQ [z0,z1] out data (Rat.divInt (v 0) 1000000000000) (Rat.divInt (v 1) 1000000000000) 0 r≤evQ [z0,z1] out data (midB (S 0)) (midB (S 1)) 0 r+sprQ [z0,z1] data out 2 S r:=by
 have og:=jap hg
 have so:=jbb (out:=out) og.2.2.2 og.2.1 2 (jiD _) r
 have t0:(0:Rat)≤(((outS [z0,z1] data out 2 r).getD 0 0:Int):Rat):=by exact_mod_cast (so.2 0).1
 have t1:(0:Rat)≤(((outS [z0,z1] data out 2 r).getD 1 0:Int):Rat):=by exact_mod_cast (so.2 1).1
 have l1:=lip2 hg hr (Rat.divInt (v 0) 1000000000000) (Rat.divInt (v 1) 1000000000000) (midB (S 0)) (midB (S 1))
 have l2:=lip2 hg hr (midB (S 0)) (midB (S 1)) (Rat.divInt (v 0) 1000000000000) (Rat.divInt (v 1) 1000000000000)
 simp only[jdU] at l1 l2
 have m0:=jdG (s:=S 0) (v:=v 0) (h 0 (by decide)).1 (h 0 (by decide)).2
 have u0:=ji3 m0 t0
 have w0:=u0
 rw[ja7] at w0
 have m1:=jdG (s:=S 1) (v:=v 1) (h 1 (by decide)).1 (h 1 (by decide)).2
 have u1:=ji3 m1 t1
 have w1:=u1
 rw[ja7] at w1
 have eS:sprQ [z0,z1] data out 2 S r=((((outS [z0,z1] data out 2 r).getD 0 0:Int):Rat)*halB (S 0)+(((outS [z0,z1] data out 2 r).getD 1 0:Int):Rat)*halB (S 1))/65535:=rfl
 rw[eS]
 constructor<;>grind
theorem wthn3 {z0 z1 z2 out:Int}{data:List Int}(hg:jaj [z0,z1,z2] out data=true){r:Nat}(hr:r<out.toNat)(S W:Nat→Int×Int)(h:∀ i,i<3→(W i).1≤(S i).1∧(S i).2≤(W i).2):evQ [z0,z1,z2] out data (midB (W 0)) (midB (W 1)) (midB (W 2)) r-sprQ [z0,z1,z2] data out 3 W r≤evQ [z0,z1,z2] out data (midB (S 0)) (midB (S 1)) (midB (S 2)) r-sprQ [z0,z1,z2] data out 3 S r∧evQ [z0,z1,z2] out data (midB (S 0)) (midB (S 1)) (midB (S 2)) r+sprQ [z0,z1,z2] data out 3 S r≤evQ [z0,z1,z2] out data (midB (W 0)) (midB (W 1)) (midB (W 2)) r+sprQ [z0,z1,z2] data out 3 W r:=by
 have og:=jap hg
 have so:=jbb (out:=out) og.2.2.2 og.2.1 3 (jiD _) r
 have t0:(0:Rat)≤(((outS [z0,z1,z2] data out 3 r).getD 0 0:Int):Rat):=by exact_mod_cast (so.2 0).1
 have t1:(0:Rat)≤(((outS [z0,z1,z2] data out 3 r).getD 1 0:Int):Rat):=by exact_mod_cast (so.2 1).1
 have t2:(0:Rat)≤(((outS [z0,z1,z2] data out 3 r).getD 2 0:Int):Rat):=by exact_mod_cast (so.2 2).1
 have l1:=lip3 hg hr (midB (W 0)) (midB (W 1)) (midB (W 2)) (midB (S 0)) (midB (S 1)) (midB (S 2))
 have l2:=lip3 hg hr (midB (S 0)) (midB (S 1)) (midB (S 2)) (midB (W 0)) (midB (W 1)) (midB (W 2))
 simp only[jdU] at l1 l2
 have m0:=jfH (s:=S 0) (w:=W 0) (h 0 (by decide)).1 (h 0 (by decide)).2
 have u0:=ji3 m0 t0
 have v0:=u0
 rw[ja7] at v0
 have m1:=jfH (s:=S 1) (w:=W 1) (h 1 (by decide)).1 (h 1 (by decide)).2
 have u1:=ji3 m1 t1
 have v1:=u1
 rw[ja7] at v1
 have m2:=jfH (s:=S 2) (w:=W 2) (h 2 (by decide)).1 (h 2 (by decide)).2
 have u2:=ji3 m2 t2
 have v2:=u2
 rw[ja7] at v2
 have eS:sprQ [z0,z1,z2] data out 3 S r=((((outS [z0,z1,z2] data out 3 r).getD 0 0:Int):Rat)*halB (S 0)+(((outS [z0,z1,z2] data out 3 r).getD 1 0:Int):Rat)*halB (S 1)+(((outS [z0,z1,z2] data out 3 r).getD 2 0:Int):Rat)*halB (S 2))/65535:=rfl
 have eW:sprQ [z0,z1,z2] data out 3 W r=((((outS [z0,z1,z2] data out 3 r).getD 0 0:Int):Rat)*halB (W 0)+(((outS [z0,z1,z2] data out 3 r).getD 1 0:Int):Rat)*halB (W 1)+(((outS [z0,z1,z2] data out 3 r).getD 2 0:Int):Rat)*halB (W 2))/65535:=rfl
 rw[eS,eW]
 constructor<;>grind
theorem vlin3 {z0 z1 z2 out:Int}{data:List Int}(hg:jaj [z0,z1,z2] out data=true){r:Nat}(hr:r<out.toNat)(S:Nat→Int×Int)(v:Nat→Int)(h:∀ i,i<3→(S i).1≤v i∧v i≤(S i).2):evQ [z0,z1,z2] out data (midB (S 0)) (midB (S 1)) (midB (S 2)) r-sprQ [z0,z1,z2] data out 3 S r≤evQ [z0,z1,z2] out data (Rat.divInt (v 0) 1000000000000) (Rat.divInt (v 1) 1000000000000) (Rat.divInt (v 2) 1000000000000) r∧evQ [z0,z1,z2] out data (Rat.divInt (v 0) 1000000000000) (Rat.divInt (v 1) 1000000000000) (Rat.divInt (v 2) 1000000000000) r≤evQ [z0,z1,z2] out data (midB (S 0)) (midB (S 1)) (midB (S 2)) r+sprQ [z0,z1,z2] data out 3 S r:=by
 have og:=jap hg
 have so:=jbb (out:=out) og.2.2.2 og.2.1 3 (jiD _) r
 have t0:(0:Rat)≤(((outS [z0,z1,z2] data out 3 r).getD 0 0:Int):Rat):=by exact_mod_cast (so.2 0).1
 have t1:(0:Rat)≤(((outS [z0,z1,z2] data out 3 r).getD 1 0:Int):Rat):=by exact_mod_cast (so.2 1).1
 have t2:(0:Rat)≤(((outS [z0,z1,z2] data out 3 r).getD 2 0:Int):Rat):=by exact_mod_cast (so.2 2).1
 have l1:=lip3 hg hr (Rat.divInt (v 0) 1000000000000) (Rat.divInt (v 1) 1000000000000) (Rat.divInt (v 2) 1000000000000) (midB (S 0)) (midB (S 1)) (midB (S 2))
 have l2:=lip3 hg hr (midB (S 0)) (midB (S 1)) (midB (S 2)) (Rat.divInt (v 0) 1000000000000) (Rat.divInt (v 1) 1000000000000) (Rat.divInt (v 2) 1000000000000)
 simp only[jdU] at l1 l2
 have m0:=jdG (s:=S 0) (v:=v 0) (h 0 (by decide)).1 (h 0 (by decide)).2
 have u0:=ji3 m0 t0
 have w0:=u0
 rw[ja7] at w0
 have m1:=jdG (s:=S 1) (v:=v 1) (h 1 (by decide)).1 (h 1 (by decide)).2
 have u1:=ji3 m1 t1
 have w1:=u1
 rw[ja7] at w1
 have m2:=jdG (s:=S 2) (v:=v 2) (h 2 (by decide)).1 (h 2 (by decide)).2
 have u2:=ji3 m2 t2
 have w2:=u2
 rw[ja7] at w2
 have eS:sprQ [z0,z1,z2] data out 3 S r=((((outS [z0,z1,z2] data out 3 r).getD 0 0:Int):Rat)*halB (S 0)+(((outS [z0,z1,z2] data out 3 r).getD 1 0:Int):Rat)*halB (S 1)+(((outS [z0,z1,z2] data out 3 r).getD 2 0:Int):Rat)*halB (S 2))/65535:=rfl
 rw[eS]
 constructor<;>grind
theorem jgx {y d y2 d2 l h:Rat}(h1:y2-d2≤y-d)(h2:y+d≤y2+d2):(confB y2 d2 l h).1≤(confB y d l h).1∧(confB y d l h).2≤(confB y2 d2 l h).2:=by
 have a:=jen h1
 have b:=jep h2
 unfold confB
 exact⟨by show max _ _≤max _ _;omega,by show min _ _≤min _ _;omega⟩
theorem jfh {y d l h v:Rat}(h1:y-d≤v)(h2:v≤y+d)(h3:l≤v)(h4:v≤h):(((confB y d l h).1:Int):Rat)≤v*1000000000000∧v*1000000000000≤(((confB y d l h).2:Int):Rat):=by
 have a:=jen h1
 have b:=jep h2
 have c:=jen h3
 have e:=jep h4
 have g1:(confB y d l h).1≤flU v:=by unfold confB;show max _ _≤_;omega
 have g2:clU v≤(confB y d l h).2:=by unfold confB;show _≤min _ _;omega
 exact⟨je1.1 g1,jfi.1 g2⟩
end Go.Proofs.YtgjgpdceghjajaaGreatDoor
end
section
namespace Go.Proofs.YtgjgpdceghjajaaGreatDoor
open Go Go.V Go.Nb Go.Gr
theorem jih:type_of% @jiA∧type_of% @tn0∧type_of% @tn1∧type_of% @tn2∧type_of% @tn3∧type_of% @xt4:=⟨@jiA,@tn0,@tn1,@tn2,@tn3,@xt4⟩
theorem wakes_t (Q:Nat→Tx)
  (o0:Cl 18 [.int .i64 1,.int .i64 2] (.agg [.str (Q 0).1,.str (Q 0).2]))
  (o1:Cl 18 [.int .i64 1,.int .i64 4] (.agg [.str (Q 1).1,.str (Q 1).2]))
  (o2:Cl 18 [.int .i64 7,.int .i64 20] (.agg [.str (Q 2).1,.str (Q 2).2]))
  (o3:Cl 18 [.int .i64 3,.int .i64 10] (.agg [.str (Q 3).1,.str (Q 3).2]))
  (o4:Cl 18 [.int .i64 1,.int .i64 1] (.agg [.str (Q 4).1,.str (Q 4).2]))
  (o5:Cl 18 [.int .i64 2,.int .i64 1] (.agg [.str (Q 5).1,.str (Q 5).2]))
  (fo:Cl 31 [] (.agg [.ints .i64 [2,2],.int .i64 1,.ints .i64 [0,13107,26214,65535]]))
  (ce:Cl 17 [.agg [.ints .i64 [2,2],.int .i64 1,.ints .i64 [0,13107,26214,65535]],V.sl2 2 [.str (Q 0).1,.str (Q 0).2,.str (Q 1).1,.str (Q 1).2]] (.tup [.ints .i64 [0,0],.ints .i64 [0,1],V.sl2 3 [.str (Q 0).1,.str (Q 0).2,.str (Q 1).1,.str (Q 1).2,.str (Q 1).1,.str (Q 1).2],.int .i64 0]))
  (st:Cl 32 [.agg [.ints .i64 [2,2],.int .i64 1,.ints .i64 [0,13107,26214,65535]]] (.tup [.slf 1 1 (fun j=>List.take 1 (List.drop (j*1) [.ints .i64 [52428,39321]])),.int .i64 0]))
  (b1:Cl 29 [.agg [.ints .i64 [2,2],.int .i64 1,.ints .i64 [0,13107,26214,65535]],V.sl2 2 [.int .i64 500000000000,.int .i64 500000000000,.int .i64 250000000000,.int .i64 250000000000]] (.tup [V.sl2 1 [.int .i64 350000000000,.int .i64 350000000000],.int .i64 0]))
  (b2:Cl 29 [.agg [.ints .i64 [2,2],.int .i64 1,.ints .i64 [0,13107,26214,65535]],V.sl2 2 [.int .i64 250000000000,.int .i64 750000000000,.int .i64 250000000000,.int .i64 250000000000]] (.tup [V.sl2 1 [.int .i64 150000000000,.int .i64 550000000000],.int .i64 0]))
  (re:Cl 33 [.agg [.ints .i64 [2,2],.int .i64 1,.ints .i64 [0,13107,26214,65535]],.ints .i64 [3,2]] (.tup [.agg [.ints .i64 [3,2],.int .i64 1,.ints .i64 [0,13107,13107,39321,26214,65535]],.int .i64 0]))
  (ee:Cl 15 [.agg [.ints .i64 [2,2],.int .i64 1,.ints .i64 [0,13107,26214,65535]],V.sl2 1 [.str (Q 0).1,.str (Q 0).2]] (.tup [.nil,.int .i64 2]))
  (v0:Cl 26 [.agg [.ints .i64 [2,2],.int .i64 1,.ints .i64 [0,13107,26214,65535]],.agg [.str (Q 2).1,.str (Q 2).2],V.sl2 2 [.str (Q 0).1,.str (Q 0).2,.str (Q 1).1,.str (Q 1).2]] (.bool true))
  (v1:Cl 26 [.agg [.ints .i64 [2,2],.int .i64 1,.ints .i64 [0,13107,26214,65535]],.agg [.str (Q 3).1,.str (Q 3).2],V.sl2 2 [.str (Q 1).1,.str (Q 1).2,.str (Q 0).1,.str (Q 0).2]] (.bool true))
  (v2:Cl 26 [.agg [.ints .i64 [2,2],.int .i64 1,.ints .i64 [0,13107,26214,65535]],.agg [.str (Q 4).1,.str (Q 4).2],V.sl2 2 [.str (Q 5).1,.str (Q 5).2,.str (Q 4).1,.str (Q 4).2]] (.bool true)) :
  Cl 10 [] (.bool true):=by
 have q0:=jgt [0,0] [0,0] (by decide) (by decide)
 have q1:=jgt [0,1] [0,1] (by decide) (by decide)
 have q2:=jgt [52428,39321] [52428,39321] (by decide) (by decide)
 have q3:=jgt [0,13107,13107,39321,26214,65535] [0,13107,13107,39321,26214,65535] (by decide) (by decide)
 have f3:=eqf3 (fun k=>if k=0 then Q 0 else Q 1)
 have g1:=eqb1 (fun _=>(350000000000,350000000000))
 have g2:=eqb1 (fun _=>(150000000000,550000000000))
 refine V.en tbOk Tryz.func10 ?_
 (conv=>whnf)
 (conv=>whnf)
 (try simp only[jih])
 repeat ((first|refine V.s1 ?_|((try ((with_reducible refine .ext ?_);(conv=>whnf);(try simp only[jih])));(with_reducible refine jaa (r:=?_) ?_ ?_);rotate_left;(focus (first|exact(o0)|exact(o1)|exact(o2)|exact(o3)|exact(o4)|exact(o5)|exact(fo)|exact(ce)|exact(st)|exact(b1)|exact(b2)|exact(re)|exact(ee)|exact(v0)|exact(v1)|exact(v2)|exact(q0)|exact(q1)|exact(q2)|exact(q3)|exact(f3)|exact(g1)|exact(g2)));(conv=>whnf)));(try simp only[jih]))
 refine⟨(V.tk [0] (V.e1 1 [0] (V.e1 2 [0] (V.e1 3 [0] (V.e1 4 [] (V.tk [5,6,7,8,9,10,11,12,13] .done)))))),[],V.pok,?_⟩
 refine jab [(2,.ints .i64 [0,0]),(3,.ints .i64 [0,1]),(4,V.sl2 3 [.str (Q 0).1,.str (Q 0).2,.str (Q 1).1,.str (Q 1).2,.str (Q 1).1,.str (Q 1).2]),(5,.int .i64 0)] [] ?_ ?_
 ·exact V.d3 jih o0 o1 ce
 (conv=>whnf)
 (try simp only[jih])
 repeat ((first|refine V.s1 ?_|((try ((with_reducible refine .ext ?_);(conv=>whnf);(try simp only[jih])));(with_reducible refine jaa (r:=?_) ?_ ?_);rotate_left;(focus (first|exact(o0)|exact(o1)|exact(o2)|exact(o3)|exact(o4)|exact(o5)|exact(fo)|exact(ce)|exact(st)|exact(b1)|exact(b2)|exact(re)|exact(ee)|exact(v0)|exact(v1)|exact(v2)|exact(q0)|exact(q1)|exact(q2)|exact(q3)|exact(f3)|exact(g1)|exact(g2)));(conv=>whnf)));(try simp only[jih]))
 refine⟨(V.tk [0] (V.e1 1 [0] (V.e1 2 [0] (V.e1 3 [] (V.tk [4,5,6,7,8] .done))))),[],V.pok,?_⟩
 refine jab [(17,.int .i64 2)] [] ?_ ?_
 ·exact V.d3 jih o0 o1 ee
 (conv=>whnf)
 (try simp only[jih])
 repeat ((first|refine V.s1 ?_|((try ((with_reducible refine .ext ?_);(conv=>whnf);(try simp only[jih])));(with_reducible refine jaa (r:=?_) ?_ ?_);rotate_left;(focus (first|exact(o0)|exact(o1)|exact(o2)|exact(o3)|exact(o4)|exact(o5)|exact(fo)|exact(ce)|exact(st)|exact(b1)|exact(b2)|exact(re)|exact(ee)|exact(v0)|exact(v1)|exact(v2)|exact(q0)|exact(q1)|exact(q2)|exact(q3)|exact(f3)|exact(g1)|exact(g2)));(conv=>whnf)));(try simp only[jih]))
 refine⟨(V.tk [0] (V.e1 1 [0] (V.e1 2 [] (V.tk [3,4] (V.e1 5 [4] (V.e1 6 [] (V.tk [7,8,9] (V.e1 10 [9] (V.e1 11 [9] (V.e1 12 [9] (V.e1 13 [9] (V.e1 14 [] (V.tk [15,16,17] (V.e1 18 [17] (V.e1 19 [17] (V.e1 20 [17] (V.e1 21 [17] (V.e1 22 [] (V.tk [23,24,25] (V.e1 26 [25] (V.e1 27 [25] (V.e1 28 [25] (V.e1 29 [25] (V.e1 30 [] (V.tk [31,32,33] (V.e1 34 [33] (V.e1 35 [33] (V.e1 36 [33] (V.e1 37 [33] (V.e1 38 [] (V.tk [39,40,41,42,43] (V.e1 44 [43,42,41] (V.e1 45 [] (V.tk [46,47,48,49] (V.e1 50 [48] (V.e1 51 [] (V.tk [52,53,54,55] (V.e1 56 [54] (V.e1 57 [] (V.tk [58,59,60,61] (V.e1 62 [61,60] (V.e1 63 [] (V.tk [64,65] .done))))))))))))))))))))))))))))))))))))))))))),[],V.pok,?_⟩
 refine jab [(0,.bool true)] [] ?_ ?_
 ·(conv=>whnf);(try simp only[jih])
  repeat' (first|exact V.wk|((with_reducible refine And.intro ?_ jay);(conv=>whnf);(try simp only[jih]))|((with_reducible first|refine jar ?_ ?_|refine jau ?_ ?_)<;>(conv=>whnf);(try simp only[jih]))|((first|refine V.s1 ?_|((with_reducible refine jan ?_ ?_);(focus ((conv=>whnf);(try simp only[jih]);(repeat ((first|refine V.s1 ?_);(try simp only[jih])));exact⟨rfl⟩));(conv=>whnf))|((try ((with_reducible refine .ext ?_);(conv=>whnf);(try simp only[jih])));(with_reducible refine jaa (r:=?_) ?_ ?_);rotate_left;(focus (first|exact(o0)|exact(o1)|exact(o2)|exact(o3)|exact(o4)|exact(o5)|exact(fo)|exact(ce)|exact(st)|exact(b1)|exact(b2)|exact(re)|exact(ee)|exact(v0)|exact(v1)|exact(v2)|exact(q0)|exact(q1)|exact(q2)|exact(q3)|exact(f3)|exact(g1)|exact(g2)));(conv=>whnf)));(try simp only[jih]))|(refine And.intro ?_ ?_<;>(conv=>whnf);(try simp only[jih])))
 refine V.r0 jih ?_
 exact Fin.of rfl
theorem nearU_bd {x:Rat}(h0:0≤x)(h1:x≤1):0≤nearZ x 65535∧nearZ x 65535≤65535:=by
 have hd:(0:Int)<x.den:=by have:=x.den_pos;omega
 have hn:0≤x.num:=Rat.num_nonneg.2 h0
 have hn1:x.num≤x.den:=by
  have:=Rat.le_iff (a:=x) (b:=1) |>.1 h1
  simpa using this
 unfold nearZ
 have e1:((65535*2:Nat):Int)=131070:=rfl
 have e2:((x.den*2:Nat):Int)=2*(x.den:Int):=by push_cast;omega
 rw[e1,e2]
 refine⟨jiw (by omega) (by omega),?_⟩
 have:(x.num*131070+x.den)/(2*(x.den:Int))<65536:=Int.ediv_lt_of_lt_mul (by omega) (by omega)
 omega
theorem near_q {n:Nat}{x:Rat}(h:Fq n x)(h0:0<n∧n≤600)(hb:0≤x∧x≤1):Cl 68 [frT x,.int .i64 65535] (.tup [.int .i64 (nearZ x 65535),.int .i64 0]):=by
 have o:=jbc (h.ok h0.1 h0.2)
 have b:=nearU_bd hb.1 hb.2
 have c:=near_f (decZ x.num) (dec x.den) 65535 o.1 (by omega) (by omega) (by rw[o.2];omega)
 rw[o.2] at c
 exact c
def xR (ts:List Nat)(m i:Nat):Rat:=Rat.divInt ((pad4 (ixl ts m)).getD i 0) ((nz ts).getD i 0-1)
def rfW (zs:List Int)(out:Int)(data:List Int)(ts:List Nat)(m j:Nat):Int:=nearZ (evQ zs out data (xR ts m 0) (xR ts m 1) (xR ts m 2) j) 65535
def rfD (zs:List Int)(out:Int)(data:List Int)(ts:List Nat):List Int:=flat ts (fun m=>(List.range out.toNat).map (rfW zs out data ts m)) (PR ts)
theorem jeJ (l:List Int)(i:Nat):(pad4 l).getD i 0=l.getD i 0:=by
 unfold pad4
 rw[ji5,ji5]
 rcases jiJ i l.length with h|h
 ·rw[jjd h]
 ·rw[List.getElem?_append_right h,List.getElem?_eq_none h]
  cases e:(List.replicate (4-l.length) (0:Int))[i-l.length]? with
  | none=>rfl
  | some v=>have:=ji9 e;rw[List.mem_replicate] at this;rw[this.2];rfl
theorem xR_off {ts:List Nat}{m i:Nat}(h:ts.length≤i):xR ts m i=0:=by
 unfold xR
 rw[jeJ,ji5,List.getElem?_eq_none (by rw[jat];exact h)]
 simp
theorem xR_at {ts:List Nat}{m i n:Nat}(h2:∀ n∈ts,2≤n∧n≤9)(h:ts[i]? = some n):∃ a:Int,(pad4 (ixl ts m)).getD i 0=a∧(ixl ts m).getD i 0=a∧(0≤a∧a≤(n:Int)-1)∧(nz ts).getD i 0=n∧xR ts m i=Rat.divInt a ((n:Int)-1):=by
 have e:=jgq ts m i n h
 have b:=jeS (m:=m) (fun n hn=>by have:=h2 n hn;omega) h e
 have en:(nz ts).getD i 0=n:=by simp[nz,ji5,h]
 have e1:(ixl ts m).getD i 0=((m/PR (ts.drop (i+1))%n:Nat):Int):=by rw[ji5,e];rfl
 exact⟨_,by rw[jeJ,e1],e1,b,en,by unfold xR;rw[jeJ,e1,en]⟩
theorem xR_fq {ts:List Nat}(h2:∀ n∈ts,2≤n∧n≤9)(m i:Nat):Fq 40 (xR ts m i):=by
 rcases jiJ i ts.length with h|h
 ·have hn:=ji8 h
  have hb:=h2 _ (List.getElem_mem h)
  obtain⟨a,_,_,ha,_,e⟩:=xR_at (m:=m) h2 hn
  rw[e]
  generalize ts[i]=n at *
  obtain⟨d,hd⟩:∃ d:Nat,(n:Int)-1=(d:Int):=⟨n-1,by omega⟩
  rw[hd]
  refine jaM (by omega) ?_ ?_
  ·exact Nat.lt_of_le_of_lt (show a.natAbs≤9 by omega) (by decide)
  ·exact Nat.lt_of_le_of_lt (show d≤9 by omega) (by decide)
 ·rw[xR_off h];exact⟨by decide,by decide⟩
theorem ev_unit2 {z0 z1 out:Int}{data:List Int}(hg:jaj [z0,z1] out data=true)(x0 x1:Rat){j:Nat}(hj:j<out.toNat):0≤evQ [z0,z1] out data x0 x1 0 j∧evQ [z0,z1] out data x0 x1 0 j≤1:=by
 obtain⟨b1,b2⟩:=ev_in2 (x0:=x0) (x1:=x1) hg hj
 obtain⟨r1,r2,_⟩:=jbl hg hj
 rw[divF] at b1
 generalize (loL out data).getD j 0=a at *
 generalize (hiL out data).getD j 0=b at *
 have a0:(0:Rat)≤(a:Rat):=Rat.intCast_le_intCast.2 r1.1
 have b0:(b:Rat)≤65535:=by
  have:=Rat.intCast_le_intCast.2 r2.2
  rwa [show ((65535:Int):Rat)=65535 from by decide +kernel] at this
 rw[divF] at b2
 constructor<;>grind
theorem rfW2 {z0 z1 out:Int}{data:List Int}{ts:List Nat}(ht:ts.length=2)(m j:Nat):rfW [z0,z1] out data ts m j=nearZ (evQ [z0,z1] out data (xR ts m 0) (xR ts m 1) 0 j) 65535:=by
 unfold rfW
 rw[xR_off (i:=2) (by omega)]
theorem refq2 {z0 z1 out:Int}{data:List Int}(hg:jaj [z0,z1] out data=true)(ts:List Nat)(ht:ts.length=2)(h2:∀ n∈ts,2≤n∧n≤9)(hc:cnP out ts 2≤4096):Cl 33 [gridD [z0,z1] out data,.ints .i64 (nz ts)] (.tup [gridD (nz ts) out (rfD [z0,z1] out data ts),.int .i64 0]):=by
 have ho:=(jap hg).1
 have hl:=(jap hg).2.2.1.1
 have fx:=fun m i=>xR_fq h2 m i
 have ck:=Called.cast (jfj [z0,z1] out data (by simp) (by omega)) (by rw[hg];first|done|rfl)
 refine refine2_t [z0,z1] data out ts (fun m i=>txq (xR ts m i)) (fun m j=>txq (evQ [z0,z1] out data (xR ts m 0) (xR ts m 1) 0 j)) (rfW [z0,z1] out data ts) rfl ht h2 ho hc ck (fun m i hm hi=>?_) (fun m hm=>evalq2 hg (fx m 0) (fx m 1)) (fun m j hm hj=>?_)
 ·obtain⟨n,hn⟩:∃ n,ts[i]? = some n:=⟨ts[i],ji8 (by omega)⟩
  obtain⟨a,e1,e2,ha,e3,e4⟩:=xR_at (m:=m) h2 hn
  have hb:=h2 n (ji9 hn)
  have c:=jbo (n:=a) (m:=(n:Int)-1) (by omega) (by omega)
  rw[e1,e3]
  rw[← e4] at c
  exact c
 ·rw[rfW2 ht]
  exact near_q (fq_ev2 hg (fx m 0) (fx m 1) j) (by decide) (ev_unit2 hg (xR ts m 0) (xR ts m 1) hj)
theorem bandq2_1 {z0 z1 out:Int}(ho:out=1){data:List Int}(hg:jaj [z0,z1] out data=true)(X:Nat→Int×Int)(hX:∀ i,i<2→vb (X i).1 (X i).2=true) :
  Cl 29 [gridD [z0,z1] out data,slB X 2] (.tup [slB (fun j=>confB (evQ [z0,z1] out data (midB (X 0)) (midB (X 1)) 0 j) (sprQ [z0,z1] data out 2 X j) (Rat.divInt ((loL out data).getD j 0) 65535) (Rat.divInt ((hiL out data).getD j 0) 65535)) out.toNat,.int .i64 0]):=by
 have og:=jap hg
 have so:=jbb (out:=out) og.2.2.2 og.2.1 2 (jiD _)
 have rl:=jgO hg
 have li:=blist2a (F:=56) (fun i=>(clI (X i).1,clI (X i).2)) (jhc X (clI (X 0).1,clI (X 0).2) (jcM (hX 0 (by decide)))) (jhb X (clI (X 1).1,clI (X 1).2) (jcM (hX 1 (by decide))))
 have fm0:=(jd5 (X 0)).mono (show 14≤40 by decide)
 have fm1:=(jd5 (X 1)).mono (show 14≤40 by decide)
 have om:∀ i,i<2→Cl 58 [.int .i64 (clI (X i).1+clI (X i).2),.int .i64 2000000000000] (frT (midB (X i))):=fun i _=>jbo (by have:=jaq (X i).1;have:=jaq (X i).2;omega) (by decide)
 have oh:∀ i,i<2→Cl 58 [.int .i64 (clI (X i).2-clI (X i).1),.int .i64 2000000000000] (frT (halB (X i))):=fun i _=>jbo (by have:=jaq (X i).1;have:=jaq (X i).2;omega) (by decide)
 have ev:=evalq2 hg fm0 fm1
 have b2:∀ j,j<out.toNat→Cl 61 [frT (evQ [z0,z1] out data (midB (X 0)) (midB (X 1)) 0 j),frT (sprQ [z0,z1] data out 2 X j),frT (Rat.divInt ((loL out data).getD j 0) 65535),frT (Rat.divInt ((hiL out data).getD j 0) 65535)] (.tup [.agg [.int .i64 ((fun j=>confB (evQ [z0,z1] out data (midB (X 0)) (midB (X 1)) 0 j) (sprQ [z0,z1] data out 2 X j) (Rat.divInt ((loL out data).getD j 0) 65535) (Rat.divInt ((hiL out data).getD j 0) 65535)) j).1,.int .i64 ((fun j=>confB (evQ [z0,z1] out data (midB (X 0)) (midB (X 1)) 0 j) (sprQ [z0,z1] data out 2 X j) (Rat.divInt ((loL out data).getD j 0) 65535) (Rat.divInt ((hiL out data).getD j 0) 65535)) j).2],.int .i64 0]):=fun j hj=>by
  have rb:=jbl hg hj
  have ei:=ev_in2 (x0:=midB (X 0)) (x1:=midB (X 1)) hg hj
  have sp:=spr_q2 (so j) (H:=fun i=>halB (X i)) (fun i _=>jd6 (X i))
  have sb:=jgK (P:=fun i=>(((outS [z0,z1] data out [z0,z1].length j).getD i 0:Int):Rat)*halB (X i)) (n:=1) (fun i hi=>jed (so j) (hX i (by omega))) 1 (jiD _)
  have n3:(((1+1:Nat):Int):Rat)≤3:=by decide +kernel
  refine conf_q (fq_ev2 hg fm0 fm1 j) sp.2 (jcI rb.1) (jcI rb.2.1) ?_ ⟨?_,ei.1⟩ ⟨ei.2,?_⟩
  ·show 0≤smF _ _/65535∧smF _ _/65535≤50000
   constructor<;>grind
  ·rw[divF]
   have:(0:Rat)≤(((loL out data).getD j 0:Int):Rat):=by exact_mod_cast rb.1.1
   grind
  ·rw[divF]
   have:(((hiL out data).getD j 0:Int):Rat)≤((65535:Int):Rat):=Rat.intCast_le_intCast.2 rb.2.1.2
   rw[show ((65535:Int):Rat)=65535 from rfl] at this
   grind
 have o1:∀ j,j<out.toNat→Cl 58 [.int .i64 ((loL out data).getD j 0),.int .i64 65535] (frT (Rat.divInt ((loL out data).getD j 0) 65535)):=fun j hj=>jbo (by have:=jbl hg hj;omega) (by decide)
 have o2:∀ j,j<out.toNat→Cl 58 [.int .i64 ((hiL out data).getD j 0),.int .i64 65535] (frT (Rat.divInt ((hiL out data).getD j 0) 65535)):=fun j hj=>jbo (by have:=jbl hg hj;omega) (by decide)
 have sp:∀ j,Cl 60 [.ints .i64 (outS [z0,z1] data out [z0,z1].length j),slQ (fun i=>txq (halB (X i))) 2] (.tup [frT (sprQ [z0,z1] data out 2 X j),.int .i64 0]):=fun j=>(spr_q2 (so j) (H:=fun i=>halB (X i)) (fun i _=>jd6 (X i))).1
 subst ho
 exact jdD [z0,z1] data _ _ 1 X (fun i=>(clI (X i).1,clI (X i).2)) (fun i=>txq (midB (X i))) (fun i=>txq (halB (X i))) _ _ _ _ _ _ rfl (fun i _=>⟨jaq _,jaq _⟩) (jbt hg (by simp)) li om oh ev (jde [z0,z1] data (outS [z0,z1] data 1 [z0,z1].length) hg (by simp) rfl) (blist1c (F:=59) (fun j=>confB (evQ [z0,z1] 1 data (midB (X 0)) (midB (X 1)) 0 j) (sprQ [z0,z1] data 1 2 X j) (Rat.divInt ((loL 1 data).getD j 0) 65535) (Rat.divInt ((hiL 1 data).getD j 0) 65535)) (jfR (outS [z0,z1] data 1 [z0,z1].length) (fun i=>txq (halB (X i))) (fun j=>txq (evQ [z0,z1] 1 data (midB (X 0)) (midB (X 1)) 0 j)) _ _ _ _ _ _ _ _ ((fun j=>confB (evQ [z0,z1] 1 data (midB (X 0)) (midB (X 1)) 0 j) (sprQ [z0,z1] data 1 2 X j) (Rat.divInt ((loL 1 data).getD j 0) 65535) (Rat.divInt ((hiL 1 data).getD j 0) 65535)) 0) rl.2.2.1 rl.2.2.2 (sp 0) (o1 0 (by decide)) (o2 0 (by decide)) (b2 0 (by decide))))
def wkQ:Nat→Rat
 | 0=>Rat.divInt 1 2
 | 1=>Rat.divInt 1 4
 | 2=>Rat.divInt 7 20
 | 3=>Rat.divInt 3 10
 | 4=>Rat.divInt 1 1
 | _=>Rat.divInt 2 1
theorem jdW:∀ k,Fq 40 (wkQ k)
 | 0=>⟨by decide +kernel,by decide +kernel⟩
 | 1=>⟨by decide +kernel,by decide +kernel⟩
 | 2=>⟨by decide +kernel,by decide +kernel⟩
 | 3=>⟨by decide +kernel,by decide +kernel⟩
 | 4=>⟨by decide +kernel,by decide +kernel⟩
 | _+5=>by
  show Fq 40 (Rat.divInt 2 1)
  exact⟨by decide +kernel,by decide +kernel⟩
theorem jdR:jaj [2,2] 1 [0,13107,26214,65535]=true:=by decide +kernel
theorem wk_ev {x0 x1 y:Rat}(h0:Fq 40 x0)(h1:Fq 40 x1)(e:evQ [2,2] 1 [0,13107,26214,65535] x0 x1 0 0=y):Cl 26 [gridD [2,2] 1 [0,13107,26214,65535],frT y,slQ (fun i=>txq (rqN x0 x1 0 i)) 2] (.bool true):=by
 have v:Cl 26 [gridD [2,2] 1 [0,13107,26214,65535],frT (evQ [2,2] 1 [0,13107,26214,65535] x0 x1 0 0),slQ (fun i=>txq (rqN x0 x1 0 i)) 2] (.bool true):=value_t _ _ _ 2 _ (fun j=>txq (evQ [2,2] 1 [0,13107,26214,65535] x0 x1 0 j)) (evalq2 jdR h0 h1)
 rw[e] at v
 exact v
theorem wk_cell:Cl 17 [gridD [2,2] 1 [0,13107,26214,65535],slQ (fun i=>txq (wkQ i)) 2] (.tup [.ints .i64 [0,0],.ints .i64 [0,1],V.sl2 3 [.str (txq (wkQ 0)).1,.str (txq (wkQ 0)).2,.str (txq (wkQ 1)).1,.str (txq (wkQ 1)).2,.str (txq (wkQ 1)).1,.str (txq (wkQ 1)).2],.int .i64 0]):=by
 have c:=cellq2 jdR (jdW 0) (jdW 1)
 have e0:spB 2 (wkQ 0)=0:=by decide +kernel
 have e1:spB 2 (wkQ 1)=0:=by decide +kernel
 have e2:ord2 (spR 2 (wkQ 0)) (spR 2 (wkQ 1))=[0,1]:=by decide +kernel
 rw[e0,e1,e2] at c
 have w0:wqN (rqN (spR 2 (wkQ 0)) (spR 2 (wkQ 1)) 0) [0,1] 2 0=wkQ 0:=by decide +kernel
 have w1:wqN (rqN (spR 2 (wkQ 0)) (spR 2 (wkQ 1)) 0) [0,1] 2 1=wkQ 1:=by decide +kernel
 have w2:wqN (rqN (spR 2 (wkQ 0)) (spR 2 (wkQ 1)) 0) [0,1] 2 2=wkQ 1:=by decide +kernel
 have hw:wce (fun k=>txq (wqN (rqN (spR 2 (wkQ 0)) (spR 2 (wkQ 1)) 0) [0,1] 2 k)) 3=[.str (txq (wkQ 0)).1,.str (txq (wkQ 0)).2,.str (txq (wkQ 1)).1,.str (txq (wkQ 1)).2,.str (txq (wkQ 1)).1,.str (txq (wkQ 1)).2]:=by
  simp only[wce,w0,w1,w2]
  rfl
 unfold slQ at c
 rw[hw] at c
 exact c
theorem wk_steep:Cl 32 [gridD [2,2] 1 [0,13107,26214,65535]] (.tup [.slf 1 1 (fun j=>List.take 1 (List.drop (j*1) [.ints .i64 [52428,39321]])),.int .i64 0]):=by
 have c:=jde [2,2] [0,13107,26214,65535] _ jdR (by decide) rfl
 have e:outS [2,2] [0,13107,26214,65535] 1 ([2,2]:List Int).length 0=[52428,39321]:=by decide +kernel
 rw[e] at c
 exact c
def wkB (a b c d:Int)(k:Nat):Int×Int:=if k=0 then (a,b) else (c,d)
theorem slB1 {B:Nat→Int×Int}{y z:Int}(h:B 0=(y,z)):slB B 1=V.sl2 1 [.int .i64 y,.int .i64 z]:=by
 show V.sl2 1 [.int .i64 (B 0).1,.int .i64 (B 0).2]=_
 rw[h]
theorem wk_bands {a b c d y z:Int}(h:vb a b=true∧vb c d=true)(e:confB (evQ [2,2] 1 [0,13107,26214,65535] (midB (a,b)) (midB (c,d)) 0 0) (sprQ [2,2] [0,13107,26214,65535] 1 2 (wkB a b c d) 0) (Rat.divInt ((loL 1 [0,13107,26214,65535]).getD 0 0) 65535) (Rat.divInt ((hiL 1 [0,13107,26214,65535]).getD 0 0) 65535)=(y,z)) :
  Cl 29 [gridD [2,2] 1 [0,13107,26214,65535],V.sl2 2 [.int .i64 a,.int .i64 b,.int .i64 c,.int .i64 d]] (.tup [V.sl2 1 [.int .i64 y,.int .i64 z],.int .i64 0]):=by
 have q:=bandq2_1 rfl jdR (wkB a b c d) (fun i hi=>by
  have:i=0∨i=1:=by omega
  rcases this with rfl|rfl
  ·exact h.1
  ·exact h.2)
 refine Called.cast q ?_
 rw[show (1:Int).toNat=1 from rfl,slB1 (y:=y) (z:=z)]
 exact e
theorem wk_refine:Cl 33 [gridD [2,2] 1 [0,13107,26214,65535],.ints .i64 [3,2]] (.tup [.agg [.ints .i64 [3,2],.int .i64 1,.ints .i64 [0,13107,13107,39321,26214,65535]],.int .i64 0]):=by
 have c:=refq2 jdR [3,2] rfl (by decide) (by decide)
 have e:rfD [2,2] 1 [0,13107,26214,65535] [3,2]=[0,13107,13107,39321,26214,65535]:=by decide +kernel
 rw[e] at c
 exact c
theorem wk_len (X:Nat→List D):Cl 15 [gridD [2,2] 1 [0,13107,26214,65535],.slf 2 1 X] (.tup [.nil,.int .i64 2]):=by
 have ck:=Called.cast (jfj [2,2] 1 [0,13107,26214,65535] (by decide) (by decide)) (by rw[jdR];first|done|rfl)
 exact eval_e _ _ _ 2 (by decide) 1 X (loc_len _ _ _ 1 X (by decide) ck)
theorem jhg:Cl 10 [] (.bool true):=by
 refine wakes_t (fun k=>txq (wkQ k)) (lof_c (by omega) (by omega)) (lof_c (by omega) (by omega)) (lof_c (by omega) (by omega)) (lof_c (by omega) (by omega)) (lof_c (by omega) (by omega)) (lof_c (by omega) (by omega)) lfour_c wk_cell wk_steep
  (wk_bands (by decide +kernel) (by decide +kernel)) (wk_bands (by decide +kernel) (by decide +kernel)) wk_refine (wk_len _) (wk_ev (y:=wkQ 2) (jdW 0) (jdW 1) (by decide +kernel)) (wk_ev (y:=wkQ 3) (jdW 1) (jdW 0) (by decide +kernel)) (wk_ev (y:=wkQ 4) (jdW 5) (jdW 4) (by decide +kernel))
end Go.Proofs.YtgjgpdceghjajaaGreatDoor
end
section
namespace Go.Proofs.YtgjgpdceghjajaaGreatDoor
open Go Go.V Go.Nb
theorem jeC (s:List UInt8)(hs:s.length≤281474976710656):Cl 105 [.str s] (.bool (okW s)):=by
 obtain⟨d,j,neg,S,e1,_⟩:=sg_of s
 rw[e1]
 exact right01_g s d j neg S hs
theorem jem (s:List UInt8)(h:okW s=true):Cl 73 [.str s] (plD (wval s)):=by
 obtain⟨d,j,neg,S,e1,e2⟩:=sg_of s
 rw[e2]
 rw[e1] at h
 unfold okD at h
 simp only[jit,Bool.not_eq_true',jiL,decide_eq_false_iff_not,ji4] at h
 exact in01_g s d j neg S h.1.2 (by omega) (by have:=S.hl;omega)
theorem jb7 {s:List UInt8}(h:okW s=true):Sm 151 (wval s):=by
 obtain⟨d,j,neg,S,e1,e2⟩:=sg_of s
 rw[e1] at h
 unfold okD at h
 simp only[jit,Bool.not_eq_true',jiL,decide_eq_false_iff_not,ji4] at h
 have hlt:=jeD (s:=d) h.1.2
 have h2:∀ k,d.length≤4*k→rdv d<10000^k:=fun k hk=>by
  refine jiI hlt ?_
  rw[show (10000:Nat)=10^4 from rfl,← Nat.pow_mul]
  exact jiS (by omega) hk
 have e:(wval s).natAbs=rdv d:=by
  rw[e2];split<;>omega
 unfold Sm
 rw[e]
 exact jaw (by omega) (h2 151 (by omega))
theorem jhr (s t : List UInt8) (hs : s.length ≤ 281474976710656) (ht : t.length ≤ 281474976710656) : Cl 63 [.agg [.str s, .str t]] (.bool (okP s t)) := by
  have r1 := jeC s hs
  have r2 := jeC t ht
  by_cases h1 : okW s = true
  · rw [h1] at r1
    by_cases h2 : okW t = true
    · rw [h2] at r2
      have i1 := jem s h1
      have i2 := jem t h2
      have g1 := je8 (wval s) (wval t) ((jb7 h1).mono (by omega)) ((jb7 h2).mono (by omega))
      have hz := jcb (B := 10000) (n := (wval t).natAbs) (by omega)
      have gl : Sm 151 (Int.gcd (wval s) (wval t) : Int) := by
        by_cases h0 : wval t = 0
        · rw [h0, Int.gcd_zero_right]
          exact (jb7 h1).le (by omega)
        · exact (jb7 h2).le (by
            rw [jiR]
            exact Nat.le_of_dvd (by omega) (Int.ofNat_dvd_left.1 (Int.gcd_dvd_right _ _)))
      have x1 := text_c _ (gl.mono (by omega))
      have hp : okP s t = (decide (0 < wval t) && decide (decZ (Int.gcd (wval s) (wval t) : Int) = [49])) := by
        unfold okP
        rw [h1, h2, Bool.true_and, Bool.true_and]
        congr 1
        refine decide_eq_decide.2 ⟨fun h => ?_, fun h => ?_⟩
        · rw [show Int.gcd (wval s) (wval t) = 1 from h]; decide
        · have := jbz (Int.gcd (wval s) (wval t) : Int)
          rw [h] at this
          have e49 : wval [49] = 1 := by decide
          rw [e49] at this
          show Int.gcd (wval s) (wval t) = 1
          omega
      rw [hp]
      clear hp gl
      generalize wval s = x at *
      generalize wval t = y at *
      generalize (Int.gcd x y : Int) = g at *
      generalize decZ g = gt at *
      have hy : (decide (y < 0) || decide ((((mg 10000 y.natAbs).length : Nat) : Int) = 0)) = !decide (0 < y) := by
        rw [Bool.eq_iff_iff]
        simp only [Bool.or_eq_true, decide_eq_true_eq, Bool.not_eq_true', decide_eq_false_iff_not]
        constructor
        · rintro (h | h)
          · omega
          · have : mg 10000 y.natAbs = [] := ji6.1 (by omega)
            have := hz.1 this
            omega
        · intro h
          by_cases h0 : y < 0
          · exact .inl h0
          · right
            have : mg 10000 y.natAbs = [] := hz.2 (by omega)
            rw [this]; rfl
      unfold plD at *
      refine V.en tbOk Tryz.func63 ?_
      (conv => whnf)
      refine V.st ?_
      repeat ((try ((with_reducible refine .ext ?_); (conv => whnf))); (with_reducible refine jaa (r := ?_) ?_ ?_); rotate_left; (focus (first | exact (r1) | exact (r2))); (conv => whnf); refine V.st ?_)
      refine ⟨Pq51z, [], V.pok, ?_⟩
      refine jab [(3, .box 3 0), (4, .box 4 0)] [(3, .box [.bool (decide (x < 0)), .ints .i64 (mg 10000 x.natAbs)]), (4, .box [.bool (decide (y < 0)), .ints .i64 (mg 10000 y.natAbs)])] ?_ ?_
      · exact V.d2 @jiA i1 i2
      refine V.r0 hy ?_
      refine V.br (fun hq => ?_) (fun hq => ?_)
      · simp only [Bool.not_eq_true', decide_eq_false_iff_not] at hq
        rw [decide_eq_false hq, Bool.false_and]
        (conv => whnf)
        refine V.st ?_
        exact Fin.of rfl
      · simp only [Bool.not_eq_false', decide_eq_true_eq] at hq
        rw [decide_eq_true hq, Bool.true_and]
        (conv => whnf)
        refine V.st ?_
        repeat ((try ((with_reducible refine .ext ?_); (conv => whnf))); (with_reducible refine jaa (r := ?_) ?_ ?_); rotate_left; (focus (first | exact (g1) | exact (x1))); (conv => whnf); refine V.st ?_)
        exact Fin.of rfl
    · rw [Bool.eq_false_iff.2 h2] at r2
      have hp : okP s t = false := by unfold okP; rw [Bool.eq_false_iff.2 h2, Bool.and_false, Bool.false_and, Bool.false_and]
      rw [hp]
      refine V.en tbOk Tryz.func63 ?_
      (conv => whnf)
      refine V.st ?_
      repeat ((try ((with_reducible refine .ext ?_); (conv => whnf))); (with_reducible refine jaa (r := ?_) ?_ ?_); rotate_left; (focus (first | exact (r1) | exact (r2))); (conv => whnf); refine V.st ?_)
      exact Fin.of rfl
  · rw [Bool.eq_false_iff.2 h1] at r1
    have hp : okP s t = false := by unfold okP; rw [Bool.eq_false_iff.2 h1, Bool.false_and, Bool.false_and, Bool.false_and]
    rw [hp]
    refine V.en tbOk Tryz.func63 ?_
    (conv => whnf)
    refine V.st ?_
    repeat ((try ((with_reducible refine .ext ?_); (conv => whnf))); (with_reducible refine jaa (r := ?_) ?_ ?_); rotate_left; (focus (first | exact (r1) | exact (r2))); (conv => whnf); refine V.st ?_)
    refine V.br (fun hq => ?_) (fun hq => ?_)
    · (conv => whnf)
      refine V.st ?_
      exact Fin.of rfl
    · simp at hq
def hasA (p q:Int)(s t:List UInt8):Bool×Int:=if vb p q=true then (if okP s t=true then (hasR (qv s t) p q,0) else (false,20)) else (false,30)
theorem has_r (p q:Int)(s t:List UInt8)(hs:s.length≤281474976710656)(ht:t.length≤281474976710656):Cl 30 [bA p q,.agg [.str s,.str t]] (.tup [.bool (hasA p q s t).1,.int .i64 (hasA p q s t).2]):=by
 have r0:=right03_c p q
 have r1:=jhr s t hs ht
 unfold hasA
 by_cases hv:vb p q=true
 ·rw[if_pos hv]
  rw[hv] at r0
  have hb:=jaR.1 hv
  by_cases h:okP s t=true
  ·rw[if_pos h]
   rw[h] at r1
   have i1:=in02_c s t h
   have q1:=q4_qv h
   have v1:=value_c p (by simp only[InR,V.lo,V.hi];omega)
   have v2:=value_c q (by simp only[InR,V.lo,V.hi];omega)
   rw[show ∀ z,Rat.divInt z 1000000000000=unit z from fun _=>rfl] at v1 v2
   have o1:=jgQ (unit p) (qv s t) ((unit_q4 p (by omega)).mono (by omega)) (q1.mono (by omega))
   have o2:=jgQ (qv s t) (unit q) (q1.mono (by omega)) ((unit_q4 q (by omega)).mono (by omega))
   have hr:hasR (qv s t) p q=(decide (ordQ (unit p) (qv s t)≤0) && decide (ordQ (qv s t) (unit q)≤0)):=by
    unfold hasR
    congr 1
    exact decide_eq_decide.2 ((ord_ge _ _).trans (ord_le _ _).symm)
   simp only[hr]
   clear hr
   generalize ordQ (unit p) (qv s t)=x1 at *
   generalize ordQ (qv s t) (unit q)=x2 at *
   generalize qv s t=x at *
   generalize unit p=y1 at *
   generalize unit q=y2 at *
   unfold raD at *
   refine V.en tbOk Tryz.func30 ?_
   (conv=>whnf)
   refine V.st ?_
   repeat ((try ((with_reducible refine .ext ?_);(conv=>whnf)));(with_reducible refine jaa (r:=?_) ?_ ?_);rotate_left;(focus (first|exact(r0)|exact(r1)|exact(i1)));(conv=>whnf);refine V.st ?_)
   refine⟨(V.tk [0,1,3] (V.e1 2 [3] (V.e1 4 [] (V.tk [5,6,7,8,9] (V.e1 10 [7] (V.e1 11 [] (V.tk [12,13,14,15] .done))))))),[],V.pok,.go (jae ?_)⟩
   (conv=>whnf)
   refine V.st ?_
   repeat ((try ((with_reducible refine .ext ?_);(conv=>whnf)));(with_reducible refine jaa (r:=?_) ?_ ?_);rotate_left;(focus (first|exact(v1)|exact(v2)|exact(o1)|exact(o2)));(conv=>whnf);refine V.st ?_)
   exact Fin.of rfl
  ·rw[if_neg h]
   rw[Bool.eq_false_iff.2 h] at r1
   refine V.en tbOk Tryz.func30 ?_
   (conv=>whnf)
   refine V.st ?_
   repeat ((try ((with_reducible refine .ext ?_);(conv=>whnf)));(with_reducible refine jaa (r:=?_) ?_ ?_);rotate_left;(focus (first|exact(r0)|exact(r1)));(conv=>whnf);refine V.st ?_)
   exact Fin.of rfl
 ·rw[if_neg hv]
  rw[Bool.eq_false_iff.2 hv] at r0
  refine V.en tbOk Tryz.func30 ?_
  (conv=>whnf)
  refine V.st ?_
  repeat ((try ((with_reducible refine .ext ?_);(conv=>whnf)));(with_reducible refine jaa (r:=?_) ?_ ?_);rotate_left;(focus (first|exact(r0)));(conv=>whnf);refine V.st ?_)
  exact Fin.of rfl
end Go.Proofs.YtgjgpdceghjajaaGreatDoor
end
section
namespace Go.Proofs.YtgjgpdceghjajaaGreatDoor
open Go Go.V Go.Nb Go.Gr
theorem has_conf {x:Rat}{p q:Int}(h1:(p:Rat)≤x*1000000000000)(h2:x*1000000000000≤(q:Rat)):hasR x p q=true:=by
 have hd:(0:Rat)≤((x.den:Int):Rat):=by exact_mod_cast Int.natCast_nonneg _
 have hn:((x.den:Int):Rat)≠0:=fun h=>x.den_nz (by exact_mod_cast h)
 have e:x*((x.den:Int):Rat)=((x.num:Int):Rat):=by
  conv=>lhs;lhs;rw[← ji1 x,Rat.divInt_eq_div]
  exact Rat.div_mul_cancel hn
 have a:=Rat.mul_le_mul_of_nonneg_right h1 hd
 have b:=Rat.mul_le_mul_of_nonneg_right h2 hd
 have e2:x*1000000000000*((x.den:Int):Rat)=((x.num*1000000000000:Int):Rat):=by
  rw[Rat.intCast_mul,← e,show ((1000000000000:Int):Rat)=1000000000000 from rfl];grind
 rw[e2] at a b
 refine jeY x p q |>.2 ⟨Rat.intCast_le_intCast.1 ?_,Rat.intCast_le_intCast.1 ?_⟩
 ·rw[Rat.intCast_mul p];exact a
 ·rw[Rat.intCast_mul q];exact b
theorem hasT {x:Rat}{p q:Int}(hf:Fq 376 x)(h1:(p:Rat)≤x*1000000000000)(h2:x*1000000000000≤(q:Rat))(hp : -1000000000000000000≤p)(hq:q≤1000000000000000000) :
  Cl 30 [.agg [.int .i64 p,.int .i64 q],frT x] (.tup [.bool true,.int .i64 0]):=by
 have hv:vb p q=true:=jaR.2 ⟨hp,Rat.intCast_le_intCast.1 (Rat.le_trans h1 h2),hq⟩
 have ok:=hf.ok (by decide) (by decide)
 obtain⟨p1,p2⟩:=jgU ok
 have ln:=(jd1 p1)
 have c:=has_r p q (decZ x.num) (dec x.den) (jiK (jb1 ln.1).1 (by decide)) (jiK (jb1 ln.2.1).1 (by decide))
 unfold hasA at c
 rw[if_pos hv,if_pos p1,p2,has_conf h1 h2] at c
 exact c
theorem jdQ {m:Int}(h:0≤m∧m≤65535) : -100000≤Rat.divInt m 65535∧Rat.divInt m 65535≤100000:=by
 rw[divF]
 have h1:(0:Rat)≤((m:Int):Rat):=by exact_mod_cast h.1
 have h2:((m:Int):Rat)≤((65535:Int):Rat):=Rat.intCast_le_intCast.2 h.2
 rw[show ((65535:Int):Rat)=65535 from rfl] at h2
 constructor<;>grind
theorem wmB_in {a b u v:Nat→Int}(ha:∀ i, -32768≤a i∧a i≤32767)(hb:∀ i, -32768≤b i∧b i≤32767)(hu:∀ i,0≤u i∧u i≤65535)(hv:∀ i,0≤v i∧v i≤65535)(i:Nat) :
  ((-100000000000000≤(spnB a b i).1∧(spnB a b i).1≤(spnB a b i).2∧(spnB a b i).2≤100000000000000)∧(spnB a b i).2-(spnB a b i).1≤65535000000000) ∧
  (spnB a b i).1≤(wmB (spnB a b) u v i).1∧(wmB (spnB a b) u v i).1≤(wmB (spnB a b) u v i).2∧(wmB (spnB a b) u v i).2≤(spnB a b i).2:=by
 have h1:=ha i
 have h2:=hb i
 have e:wnN (spnB a b) i=max (a i) (b i)-min (a i) (b i)+1:=by unfold wnN spnB;dsimp only;omega
 have m1:0≤u i%wnN (spnB a b) i∧u i%wnN (spnB a b) i<wnN (spnB a b) i:=⟨jix _ (by omega),jiU _ (by omega)⟩
 have m2:0≤v i%wnN (spnB a b) i∧v i%wnN (spnB a b) i<wnN (spnB a b) i:=⟨jix _ (by omega),jiU _ (by omega)⟩
 unfold wmB
 rw[e] at m1 m2
 rw[e]
 generalize u i%(max (a i) (b i)-min (a i) (b i)+1)=x at *
 generalize v i%(max (a i) (b i)-min (a i) (b i)+1)=y at *
 unfold spnB
 dsimp only
 omega
theorem withinG1 {D0:D}{ds vals:List Int}{oo:Int}{sm:Bool}(hD:D0 = .agg [.ints .u8 ds,.int .u8 oo,.ints .u16 vals,.bool sm]){s0 w:Nat}{data:List Int}(hw:1≤w∧w≤3)(hg:jaj (nz [s0]) w data=true)
  (gd:Cl 11 [D0] (gridD (nz [s0]) w data)) {a b u v:Nat→Int} (ha:∀ i, -32768≤a i∧a i≤32767) (hb:∀ i, -32768≤b i∧b i≤32767) (hu:∀ i,0≤u i∧u i≤65535) (hv:∀ i,0≤v i∧v i≤65535) :
  Cl 7 [D0,.agg [.int .i16 (a 0),.int .i16 (b 0),.int .i16 (a 1),.int .i16 (b 1),.int .i16 (a 2),.int .i16 (b 2),.int .i16 (a 3),.int .i16 (b 3)],.agg [.int .u16 (u 0),.int .u16 (v 0),.int .u16 (u 1),.int .u16 (v 1),.int .u16 (u 2),.int .u16 (v 2),.int .u16 (u 3),.int .u16 (v 3)]] (.bool true):=by
 subst hD
 have hin:=wmB_in ha hb hu hv
 have ba:=bandq1 (out:=w) hg (spnB a b) (fun i _=>jaR.2 (by have:=hin i;omega))
 have bb:=bandq1 (out:=w) hg (wmB (spnB a b) u v) (fun i _=>jaR.2 (by have:=hin i;omega))
 have fx:∀ i,Fq 40 (Rat.divInt (wmB (spnB a b) u v i).1 1000000000000):=fun i=>(jaM (n:=20) (d:=1000000000000) (by decide) (by have:=hin i;omega) (by decide)).mono (by decide)
 have ev:=evalq1 (out:=w) hg (fx 0)
 refine within1_t ds vals data oo w sm a b u v s0 (spnB a b) _ _ (fun i=>txq (Rat.divInt (wmB (spnB a b) u v i).1 1000000000000)) (fun j=>txq (evQ (nz [s0]) w data (Rat.divInt (wmB (spnB a b) u v 0).1 1000000000000) 0 0 j)) (by omega) (fun i=>(hin i).1) hu hv jhg gd (spans1_t a b ha hb) (fun i _=>lof_c (by have:=hin i;omega) (by decide)) ba bb ev (fun j hj=>?_) (fun j hj=>?_)
 ·have vl:=vlin1 (out:=w) hg hj (wmB (spnB a b) u v) (fun i=>(wmB (spnB a b) u v i).1) (fun i _=>by have:=hin i;omega)
  have ei:=ev_in1 (out:=w) (x0:=Rat.divInt (wmB (spnB a b) u v 0).1 1000000000000) hg hj
  have rb:=jbl hg hj
  have c:=jfh vl.1 vl.2 ei.1 ei.2
  have b1:=jc1 (jdQ rb.1)
  have b2:=jc1 (jdQ rb.2.1)
  exact hasT (fq_ev1 (out:=w) hg (fx 0) j) c.1 c.2 (by unfold confB;show _≤max _ _;omega) (by unfold confB;show min _ _≤_;omega)
 ·exact jgx (wthn1 (out:=w) hg hj _ _ (fun i _=>by have:=hin i;omega)).1 (wthn1 (out:=w) hg hj _ _ (fun i _=>by have:=hin i;omega)).2
theorem withinG2 {D0:D}{ds vals:List Int}{oo:Int}{sm:Bool}(hD:D0 = .agg [.ints .u8 ds,.int .u8 oo,.ints .u16 vals,.bool sm]){s0 s1 w:Nat}{data:List Int}(hw:1≤w∧w≤3)(hg:jaj (nz [s0,s1]) w data=true)
  (gd:Cl 11 [D0] (gridD (nz [s0,s1]) w data)) {a b u v:Nat→Int} (ha:∀ i, -32768≤a i∧a i≤32767) (hb:∀ i, -32768≤b i∧b i≤32767) (hu:∀ i,0≤u i∧u i≤65535) (hv:∀ i,0≤v i∧v i≤65535) :
  Cl 7 [D0,.agg [.int .i16 (a 0),.int .i16 (b 0),.int .i16 (a 1),.int .i16 (b 1),.int .i16 (a 2),.int .i16 (b 2),.int .i16 (a 3),.int .i16 (b 3)],.agg [.int .u16 (u 0),.int .u16 (v 0),.int .u16 (u 1),.int .u16 (v 1),.int .u16 (u 2),.int .u16 (v 2),.int .u16 (u 3),.int .u16 (v 3)]] (.bool true):=by
 subst hD
 have hin:=wmB_in ha hb hu hv
 have ba:=bandq2 (out:=w) hg (spnB a b) (fun i _=>jaR.2 (by have:=hin i;omega))
 have bb:=bandq2 (out:=w) hg (wmB (spnB a b) u v) (fun i _=>jaR.2 (by have:=hin i;omega))
 have fx:∀ i,Fq 40 (Rat.divInt (wmB (spnB a b) u v i).1 1000000000000):=fun i=>(jaM (n:=20) (d:=1000000000000) (by decide) (by have:=hin i;omega) (by decide)).mono (by decide)
 have ev:=evalq2 (out:=w) hg (fx 0) (fx 1)
 refine within2_t ds vals data oo w sm a b u v s0 s1 (spnB a b) _ _ (fun i=>txq (Rat.divInt (wmB (spnB a b) u v i).1 1000000000000)) (fun j=>txq (evQ (nz [s0,s1]) w data (Rat.divInt (wmB (spnB a b) u v 0).1 1000000000000) (Rat.divInt (wmB (spnB a b) u v 1).1 1000000000000) 0 j)) (by omega) (fun i=>(hin i).1) hu hv jhg gd (spans2_t a b ha hb) (fun i _=>lof_c (by have:=hin i;omega) (by decide)) ba bb ev (fun j hj=>?_) (fun j hj=>?_)
 ·have vl:=vlin2 (out:=w) hg hj (wmB (spnB a b) u v) (fun i=>(wmB (spnB a b) u v i).1) (fun i _=>by have:=hin i;omega)
  have ei:=ev_in2 (out:=w) (x0:=Rat.divInt (wmB (spnB a b) u v 0).1 1000000000000) (x1:=Rat.divInt (wmB (spnB a b) u v 1).1 1000000000000) hg hj
  have rb:=jbl hg hj
  have c:=jfh vl.1 vl.2 ei.1 ei.2
  have b1:=jc1 (jdQ rb.1)
  have b2:=jc1 (jdQ rb.2.1)
  exact hasT (fq_ev2 (out:=w) hg (fx 0) (fx 1) j) c.1 c.2 (by unfold confB;show _≤max _ _;omega) (by unfold confB;show min _ _≤_;omega)
 ·exact jgx (wthn2 (out:=w) hg hj _ _ (fun i _=>by have:=hin i;omega)).1 (wthn2 (out:=w) hg hj _ _ (fun i _=>by have:=hin i;omega)).2
theorem withinG3 {D0:D}{ds vals:List Int}{oo:Int}{sm:Bool}(hD:D0 = .agg [.ints .u8 ds,.int .u8 oo,.ints .u16 vals,.bool sm]){s0 s1 s2 w:Nat}{data:List Int}(hw:1≤w∧w≤3)(hg:jaj (nz [s0,s1,s2]) w data=true)
  (gd:Cl 11 [D0] (gridD (nz [s0,s1,s2]) w data)) {a b u v:Nat→Int} (ha:∀ i, -32768≤a i∧a i≤32767) (hb:∀ i, -32768≤b i∧b i≤32767) (hu:∀ i,0≤u i∧u i≤65535) (hv:∀ i,0≤v i∧v i≤65535) :
  Cl 7 [D0,.agg [.int .i16 (a 0),.int .i16 (b 0),.int .i16 (a 1),.int .i16 (b 1),.int .i16 (a 2),.int .i16 (b 2),.int .i16 (a 3),.int .i16 (b 3)],.agg [.int .u16 (u 0),.int .u16 (v 0),.int .u16 (u 1),.int .u16 (v 1),.int .u16 (u 2),.int .u16 (v 2),.int .u16 (u 3),.int .u16 (v 3)]] (.bool true):=by
 subst hD
 have hin:=wmB_in ha hb hu hv
 have ba:=bandq3 (out:=w) hg (spnB a b) (fun i _=>jaR.2 (by have:=hin i;omega))
 have bb:=bandq3 (out:=w) hg (wmB (spnB a b) u v) (fun i _=>jaR.2 (by have:=hin i;omega))
 have fx:∀ i,Fq 40 (Rat.divInt (wmB (spnB a b) u v i).1 1000000000000):=fun i=>(jaM (n:=20) (d:=1000000000000) (by decide) (by have:=hin i;omega) (by decide)).mono (by decide)
 have ev:=evalq3 (out:=w) hg (fx 0) (fx 1) (fx 2)
 refine within3_t ds vals data oo w sm a b u v s0 s1 s2 (spnB a b) _ _ (fun i=>txq (Rat.divInt (wmB (spnB a b) u v i).1 1000000000000)) (fun j=>txq (evQ (nz [s0,s1,s2]) w data (Rat.divInt (wmB (spnB a b) u v 0).1 1000000000000) (Rat.divInt (wmB (spnB a b) u v 1).1 1000000000000) (Rat.divInt (wmB (spnB a b) u v 2).1 1000000000000) j)) (by omega) (fun i=>(hin i).1) hu hv jhg gd (spans3_t a b ha hb) (fun i _=>lof_c (by have:=hin i;omega) (by decide)) ba bb ev (fun j hj=>?_) (fun j hj=>?_)
 ·have vl:=vlin3 (out:=w) hg hj (wmB (spnB a b) u v) (fun i=>(wmB (spnB a b) u v i).1) (fun i _=>by have:=hin i;omega)
  have ei:=ev_in3 (out:=w) (x0:=Rat.divInt (wmB (spnB a b) u v 0).1 1000000000000) (x1:=Rat.divInt (wmB (spnB a b) u v 1).1 1000000000000) (x2:=Rat.divInt (wmB (spnB a b) u v 2).1 1000000000000) hg hj
  have rb:=jbl hg hj
  have c:=jfh vl.1 vl.2 ei.1 ei.2
  have b1:=jc1 (jdQ rb.1)
  have b2:=jc1 (jdQ rb.2.1)
  exact hasT (fq_ev3 (out:=w) hg (fx 0) (fx 1) (fx 2) j) c.1 c.2 (by unfold confB;show _≤max _ _;omega) (by unfold confB;show min _ _≤_;omega)
 ·exact jgx (wthn3 (out:=w) hg hj _ _ (fun i _=>by have:=hin i;omega)).1 (wthn3 (out:=w) hg hj _ _ (fun i _=>by have:=hin i;omega)).2
theorem swithin_c (ds:List Int)(o:Int)(vals:List Int)(sm:Bool)(hd:∀ v∈ds,0≤v∧v≤255)(hdl:ds.length≤281474976710656)(ho:0≤o∧o≤255)(hv:∀ v∈vals,0≤v∧v≤65535)(hvl:vals.length≤281474976710656){a b u v:Nat→Int}(ha:∀ i, -32768≤a i∧a i≤32767)(hb:∀ i, -32768≤b i∧b i≤32767)(hu:∀ i,0≤u i∧u i≤65535)(hv':∀ i,0≤v i∧v i≤65535) :
  Cl 7 [.agg [.ints .u8 ds,.int .u8 o,.ints .u16 vals,.bool sm],.agg [.int .i16 (a 0),.int .i16 (b 0),.int .i16 (a 1),.int .i16 (b 1),.int .i16 (a 2),.int .i16 (b 2),.int .i16 (a 3),.int .i16 (b 3)],.agg [.int .u16 (u 0),.int .u16 (v 0),.int .u16 (u 1),.int .u16 (v 1),.int .u16 (u 2),.int .u16 (v 2),.int .u16 (u 3),.int .u16 (v 3)]] (.bool true):=by
 have gd:=draft_c ds o vals sm hd hdl ho hv hvl
 have ok:=draft_ok ds o vals sm hv
 have nb:=nsD_bd ds
 have wb:=wD_bd o
 generalize dData ds o vals sm=data at *
 generalize hns:nsD ds=ns at *
 generalize wD o=w at *
 match ns,nb with
 | [],nb=>exact absurd nb.1.1 (by decide)
 | [s0],nb=>exact withinG1 rfl wb ok gd ha hb hu hv'
 | [s0,s1],nb=>exact withinG2 rfl wb ok gd ha hb hu hv'
 | [s0,s1,s2],nb=>exact withinG3 rfl wb ok gd ha hb hu hv'
 | _::_::_::_::_,nb=>exact absurd nb.1.2 (by simp)
end Go.Proofs.YtgjgpdceghjajaaGreatDoor
end
