/-  -/
import Derived.Test.YtcgbmmalfbpjaaaGreatDoorFe
import Derived.Test.YtcgbmmalfbpjaaaGreatDoorFf
import Derived.Test.YtcgbmmalfbpjaaaGreatDoorFb
set_option maxRecDepth 100000
set_option maxHeartbeats 16000000
namespace Go.Proofs.YtcgbmmalfbpjaaaGreatDoor
open Go.RowKit
section
variable {P:Program} {o:Oper} {a:Act} {Q:Exit→Act→World→Prop}
end
theorem zn (ps:List Nat){k p:Nat}(h:ps[k]? = some p):u8L (encs (ps.take (k+1)))=u8L (encs (ps.take k)) ++ encU p:=by
 rw[List.take_add_one,h,Option.toList_some,mi]
 unfold u8L encU
 rw[List.map_append]
 simp[encs,u8L]
end Go.Proofs.YtcgbmmalfbpjaaaGreatDoor
