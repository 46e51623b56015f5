/-  -/
import Derived.Test.YtcgbmmalfbpjaaaGreatDoorFb
import Derived.Test.YtcgbmmalfbpjaaaGreatDoorMl
import Derived.Test.YtcgbmmalfbpjaaaGreatDoorFd
set_option maxRecDepth 100000
set_option maxHeartbeats 16000000
namespace Go.Proofs.YtcgbmmalfbpjaaaGreatDoor
open Go.RowKit
end Go.Proofs.YtcgbmmalfbpjaaaGreatDoor
