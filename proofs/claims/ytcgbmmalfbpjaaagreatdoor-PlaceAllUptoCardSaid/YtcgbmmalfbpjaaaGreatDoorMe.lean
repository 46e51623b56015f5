/-  -/
import Derived.Test.YtcgbmmalfbpjaaaGreatDoorMd
import Derived.Test.YtcgbmmalfbpjaaaGreatDoorMc
import Derived.Test.YtcgbmmalfbpjaaaGreatDoorMb
import Derived.Deep.CutBlock
import Derived.Deep.RegionLaw
set_option maxRecDepth 100000
set_option maxHeartbeats 16000000
namespace Go.Proofs.YtcgbmmalfbpjaaaGreatDoor
open Go.RowKit
theorem Be {m:Nat}(h:m % 10≠0):tz m=0:=by
 have hm:m≠0:=fun e=>h (by rw[e])
 unfold tz
 rw[Num.digs_pos (by decide) hm,List.takeWhile_cons]
 simp[h]
theorem vM {m:Nat}(hm:m≠0):tz (10 * m)=1+tz m:=by
 unfold tz
 rw[Num.digs_pos (by decide) (show 10 * m≠0 by omega),List.takeWhile_cons,Nat.mul_mod_right,Nat.mul_div_cancel_left m (by decide)]
 simp;omega
theorem EZ {m:Nat}(hm:m≠0)(k:Nat):tz (m * 10 ^ k)=k+tz m:=by
 induction k with
 | zero=>simp
 | succ k ih =>
  have h0:m * 10 ^ k≠0:=Nat.mul_ne_zero hm (Nat.ne_of_gt (Nat.pow_pos (by decide)))
  rw[Nat.pow_succ,←Nat.mul_assoc,Nat.mul_comm,vM h0,ih];omega
theorem rQ {m:Nat}(hm:m≠0):m / 10 ^ tz m * 10 ^ tz m=m∧tz (m / 10 ^ tz m)=0∧m / 10 ^ tz m≠0:=by
 induction m using Num.digs_ind (b:=10) (by decide) with
 | h0=>exact absurd rfl hm
 | h1 m hm' ih =>
  by_cases h:m % 10=0
  ·obtain⟨q,hq⟩:∃q,q=m / 10:=⟨_,rfl⟩
   have hmq:m=10 * q:=by omega
   have hq0:q≠0:=by omega
   rw[←hq] at ih
   obtain⟨i1,i2,i3⟩:=ih hq0
   have e:m / 10 ^ tz m=q / 10 ^ tz q:=by
    rw[hmq,vM hq0,Nat.pow_add,Nat.pow_one,Nat.mul_div_mul_left _ _ (by decide)]
   rw[e]
   refine⟨?_,i2,i3⟩
   rw[hmq,vM hq0,Nat.pow_add,Nat.pow_one,Nat.mul_comm 10 (10 ^ _),←Nat.mul_assoc,i1,Nat.mul_comm]
  ·rw[Be h];simp[Be h,hm]
def IsPlain (d:D):Prop:=(d.m=0→d=zeroD)∧tz d.m=0
theorem vN:IsPlain zeroD:=⟨fun _=>rfl,rfl⟩
theorem kR (g:Bool)(e:Int):plainD g 0 e=zeroD:=by unfold plainD;rw[if_pos rfl];rfl
theorem qC (g:Bool)(m:Nat)(e:Int):IsPlain (plainD g m e):=by
 by_cases h:m=0
 ·subst h;rw[kR];exact vN
 ·have:=rQ h
  unfold plainD
  rw[if_neg h]
  exact⟨fun e=>absurd e this.2.2,this.2.1⟩
theorem vO {d:D}(h:IsPlain d)(k:Nat):plainD d.neg (d.m * 10 ^ k) (d.e-k)=d:=by
 by_cases h0:d.m=0
 ·rw[h0,Nat.zero_mul,kR,h.1 h0]
 ·have hp:10 ^ k≠0:=Nat.ne_of_gt (Nat.pow_pos (by decide))
  unfold plainD
  rw[if_neg (Nat.mul_ne_zero h0 hp),EZ h0,h.2]
  cases d
  simp only[Nat.add_zero,D.mk.injEq,true_and]
  exact⟨Nat.mul_div_cancel _ (Nat.pos_of_ne_zero hp),by omega⟩
theorem rU {d:D}(h:IsPlain d):plainD d.neg d.m d.e=d:=by simpa using vO h 0
theorem dN {d:D}(h:IsPlain d)(hf:fitsB d=true):(Num.digs 10 d.m).length≤400∧-10400≤d.e∧d.e≤10001:=by
 by_cases h0:d.m=0
 ·rw[h.1 h0];exact⟨by decide,by decide,by decide⟩
 ·obtain⟨h1,h2,h3⟩:=rV hf h0
  omega
theorem jY {m:Nat}(h:(Num.digs 10 m).length≤400):(Num.limbs m).length≤45:=jZ h (by decide)
theorem vP {d:D}(h:IsPlain d)(hf:fitsB d=true):takenE d.neg (Num.limbs d.m).length (Num.worth (Num.limbs d.m)) d.e=0∧takenD d.neg (Num.limbs d.m).length (Num.worth (Num.limbs d.m)) d.e=d:=by
 obtain⟨b1,b2,b3⟩:=dN h hf
 have b4:=jY b1
 have hn:nearB (Num.limbs d.m).length d.e=true:=eX.2 ⟨by omega,by omega,by omega⟩
 unfold takenE takenD
 rw[if_pos hn,if_pos hn,Num.worth_limbs,rU h,if_pos hf,if_pos hf]
 exact⟨rfl,rfl⟩
theorem Gz {d:D}(h:IsPlain d)(hf:fitsB d=true):mayB d.neg (Num.limbs d.m) d.e=true:=by
 obtain⟨h1,h2⟩:=vP h hf
 unfold mayB
 rw[h1,h2]
 simp
theorem kS {g:Bool}{n m:Nat}{e:Int}(h:takenE g n m e=0):IsPlain (takenD g n m e)∧fitsB (takenD g n m e)=true:=by
 obtain⟨_,h2,h3⟩:=iY h
 rw[h2]
 exact⟨qC _ _ _,h3⟩
theorem xU {d:Nat}(h:d<10):isD (Num.chr d)=true:=by
 have:d=0∨d=1∨d=2∨d=3∨d=4∨d=5∨d=6∨d=7∨d=8∨d=9:=by omega
 rcases this with rfl | rfl | rfl | rfl | rfl | rfl | rfl | rfl | rfl | rfl<;>rfl
theorem xX {d:Nat}(h:d<10):(UInt8.ofNat (48+d)).toNat-48=d:=by
 have:d=0∨d=1∨d=2∨d=3∨d=4∨d=5∨d=6∨d=7∨d=8∨d=9:=by omega
 rcases this with rfl | rfl | rfl | rfl | rfl | rfl | rfl | rfl | rfl | rfl<;>rfl
theorem qE (m:Nat):Digs (Lib.decDigits m):=by
 induction m using Nat.strongRecOn with
 | ind m ih =>
  rw[Lib.decDigits]
  split
  ·intro c hc;rw[List.mem_singleton] at hc;subst hc;exact xY.1 (xU (by omega))
  ·intro c hc
   rcases List.mem_append.1 hc with h | h
   ·exact ih (m / 10) (by omega) c h
   ·rw[List.mem_singleton] at h;subst h;exact xY.1 (xU (Nat.mod_lt _ (by decide)))
theorem zh (m:Nat):num10 (Lib.decDigits m) 0=m:=by
 induction m using Nat.strongRecOn with
 | ind m ih =>
  rw[Lib.decDigits]
  split
  ·simp only[num10];rw[xX (by omega)];omega
  ·rw[jv,ih (m / 10) (by omega)]
   simp only[num10]
   rw[xX (Nat.mod_lt _ (by decide))];omega
theorem rW (k n:Nat):num10 (List.replicate k 48) n=n * 10 ^ k:=by
 induction k generalizing n with
 | zero=>simp[num10]
 | succ k ih =>
  rw[List.replicate_succ];simp only[num10]
  rw[ih,Nat.pow_succ,show (48:UInt8).toNat-48=0 by rfl,Nat.add_zero,Nat.mul_comm 10 n,Nat.mul_assoc,Nat.mul_comm 10 (10 ^ k)]
def headD (d:D):Int:=d.e+(Num.digs 10 d.m).length-1
def sizeC (x y:D):Int :=
 if headD x≠headD y then (if headD x<headD y then -1 else 1)
 else cmpN (x.m * 10 ^ (x.e-min x.e y.e).toNat) (y.m * 10 ^ (y.e-min x.e y.e).toNat)
end Go.Proofs.YtcgbmmalfbpjaaaGreatDoor

namespace Go.Proofs.YtcgbmmalfbpjaaaGreatDoor
def tellR (d:D):D × Nat:=if fitsB d=true then (d,0) else (zeroD,3)
end Go.Proofs.YtcgbmmalfbpjaaaGreatDoor

namespace Go.Proofs.YtcgbmmalfbpjaaaGreatDoor
open Go.RowKit
def cmpR (x y:D):Int:=if signD x<signD y then -1 else if signD y<signD x then 1 else if signD x=0 then 0 else signD x * sizeC x y
def Cells3 (W:World) (R:Nat):Prop:=∃x y z T,W.heap[R]? = some (.cells #[x,y,z] T)
theorem Cells3.below {W W':World}{R:Nat}(h:Cells3 W R)(hb:Below W.heap.size W W'):Cells3 W' R:=by
 obtain⟨x,y,z,T,h⟩:=h
 exact⟨x,y,z,T,af h hb⟩
theorem Cells3.frozen {W:World}{R:Nat}(h:Cells3 W R)(j:Nat):W.frozen? ⟨R,j,none⟩=false:=by
 obtain⟨x,y,z,T,h⟩:=h
 exact aP h j
theorem Cells3.get {W:World}{R:Nat}(h:Cells3 W R):∃x y z,W.cell? ⟨R,0,none⟩=some x∧W.cell? ⟨R,1,none⟩=some y∧W.cell? ⟨R,2,none⟩=some z:=by
 obtain⟨x,y,z,T,h⟩:=h
 exact⟨x,y,z,(aN h).1⟩
theorem eY {w:World}{base:Nat}{e:TypeId}{size:Nat}{v:Value}{n:Nat}{xs:List Value}(h:w.ownsRow base e size v n xs){R:Nat}(hR:R<base)(p q r:Value) :
  (((w.setCell ⟨R,0,none⟩ p).setCell ⟨R,1,none⟩ q).setCell ⟨R,2,none⟩ r).ownsRow base e size v n xs :=
 ownsRow_setCell_below (ownsRow_setCell_below (ownsRow_setCell_below h hR p) hR q) hR r
end Go.Proofs.YtcgbmmalfbpjaaaGreatDoor

namespace Go.Proofs.YtcgbmmalfbpjaaaGreatDoor
end Go.Proofs.YtcgbmmalfbpjaaaGreatDoor

namespace Go.Proofs.YtcgbmmalfbpjaaaGreatDoor
open Go.RowKit
theorem digs_lt {m k:Nat}(h:(Num.digs 10 m).length≤k):m<10 ^ k:=(Num.digs_length_le (by decide)).1 h
section
variable {P:Program} {ops:Array Oper} {o:Oper} {a:Act} {K:Act→World→Prop} {Q:Exit→Act→World→Prop} {E:Prop}
end
end Go.Proofs.YtcgbmmalfbpjaaaGreatDoor
