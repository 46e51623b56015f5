/-  -/
import Derived.Test.YtcgbmmalfbpjaaaGreatDoorMs
import Derived.Test.YtcgbmmalfbpjaaaGreatDoorMj
import Derived.Test.YtcgbmmalfbpjaaaGreatDoorMk
import Derived.Test.YtcgbmmalfbpjaaaGreatDoorMg
import Derived.Deep.CutBlock
set_option maxRecDepth 100000
set_option maxHeartbeats 16000000
namespace Go.Proofs.YtcgbmmalfbpjaaaGreatDoor
open Go.RowKit
end Go.Proofs.YtcgbmmalfbpjaaaGreatDoor
