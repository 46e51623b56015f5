/-  -/
import Derived.Test.YtcgbmmalfbpjaaaGreatDoorFc
import Derived.Test.YtcgbmmalfbpjaaaGreatDoorFa
set_option maxRecDepth 100000
set_option maxHeartbeats 16000000
namespace Go.Proofs.YtcgbmmalfbpjaaaGreatDoor
open Go.RowKit
def encU (p:Nat):List UInt8:=u8L (encN p)
theorem Hq {w:World}{a:Option Addr}{xs:List Nat}(h:Row w a (i64s xs)){j p:Nat}(hj:xs[j]? = some p):∃b off,a=some ⟨b,off,none⟩∧w.cell? ⟨b,off+j,none⟩=some (.int .i64 (p:Int)):=by
 obtain⟨b,off,e,hc⟩:=h j (.int .i64 (p:Int)) (by unfold i64s;rw[List.getElem?_map,hj];rfl)
 exact⟨b,off,e,hc⟩
end Go.Proofs.YtcgbmmalfbpjaaaGreatDoor
