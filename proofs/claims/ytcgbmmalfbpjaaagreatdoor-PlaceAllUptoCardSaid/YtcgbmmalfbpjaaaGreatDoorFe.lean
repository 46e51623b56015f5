/-  -/
import Derived.Test.YtcgbmmalfbpjaaaGreatDoorFc
import Derived.Test.YtcgbmmalfbpjaaaGreatDoorFa
set_option maxRecDepth 100000
set_option maxHeartbeats 16000000
namespace Go.Proofs.YtcgbmmalfbpjaaaGreatDoor
open Go.RowKit
def encU (p:Nat):List UInt8:=u8L (encN p)
end Go.Proofs.YtcgbmmalfbpjaaaGreatDoor
