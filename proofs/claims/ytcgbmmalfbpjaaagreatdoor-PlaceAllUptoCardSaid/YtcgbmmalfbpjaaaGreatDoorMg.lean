/-  -/
import Derived.Test.YtcgbmmalfbpjaaaGreatDoorMf
import Derived.Test.YtcgbmmalfbpjaaaGreatDoorMe
import Derived.Deep.CutBlock
set_option maxRecDepth 100000
set_option maxHeartbeats 16000000
namespace Go.Proofs.YtcgbmmalfbpjaaaGreatDoor
open Go.RowKit
structure HasD (W:World) (N:Nat) (g:Bool) (xs:List Nat) (e:Int) (b:Option Addr) (c:Nat):Prop where
 blk:W.heap[N]? = some (.cells #[.bool g,.slice b xs.length c,.int .i64 e] 24)
 u:U32 W b xs
theorem HasD.below {W W':World}{N c:Nat}{g:Bool}{xs:List Nat}{e:Int}{b:Option Addr}(h:HasD W N g xs e b c)(hb:Below W.heap.size W W'):HasD W' N g xs e b c:=⟨af h.blk hb,h.u.below hb⟩
theorem HasD.new {W:World}{d:D}{b:Option Addr}{c:Nat}(h:InD W d b c):HasD (W.alloc (.cells #[.bool d.neg,.slice b (Num.limbs d.m).length c,.int .i64 d.e] 24)) W.heap.size d.neg (Num.limbs d.m) d.e b c :=
 ⟨aj W _,h.u.below ((Below.refl _ _).alloc (Nat.le_refl _) _)⟩
def Is (g:Bool) (xs:List Nat) (e:Int) (ex:Nat) (x:D):Prop:=takenE g xs.length (Num.worth xs) e=ex∧takenD g xs.length (Num.worth xs) e=x
section
variable {g g2:Bool} {xs ys:List Nat} {e e2:Int} {ex ey:Nat} {x y:D} (W:World) (b:Option Addr) (c:Nat) (b2:Option Addr) (c2:Nat)
instance decEqD:DecidableEq D:=fun x y=>if h:x.neg=y.neg∧x.m=y.m∧x.e=y.e then isTrue (by cases x;cases y;simp_all) else isFalse (fun e=>h (by subst e;simp))
end
def put3 (W:World) (R:Nat) (g:Bool) (a:Option Addr) (n c:Nat) (e:Int):World:=((W.setCell ⟨R,0,none⟩ (.bool g)).setCell ⟨R,1,none⟩ (.slice a n c)).setCell ⟨R,2,none⟩ (.int .i64 e)
theorem fK {B:Nat}{w W:World}(h:Below B w W){R:Nat}(hR:B≤R)(g:Bool)(a:Option Addr)(n c:Nat)(e:Int):Below B w (put3 W R g a n c e) :=
 ((h.setCell (p:=⟨R,0,none⟩) hR _).setCell (p:=⟨R,1,none⟩) hR _).setCell (p:=⟨R,2,none⟩) hR _
theorem uT {W:World}{base:Nat}{e:TypeId}{size:Nat}{v:Value}{k:Nat}{xs:List Value}(h:W.ownsRow base e size v k xs){R:Nat}(hR:R<base)(g:Bool)(a:Option Addr)(n c:Nat)(x:Int):(put3 W R g a n c x).ownsRow base e size v k xs:=eY h hR _ _ _
end Go.Proofs.YtcgbmmalfbpjaaaGreatDoor
