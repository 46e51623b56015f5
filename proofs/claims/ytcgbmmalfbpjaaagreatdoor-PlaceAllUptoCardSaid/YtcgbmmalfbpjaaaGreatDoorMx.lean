/-  -/
import Derived.Test.YtcgbmmalfbpjaaaGreatDoorMw
set_option maxRecDepth 100000
set_option maxHeartbeats 16000000
namespace Go.Proofs.YtcgbmmalfbpjaaaGreatDoor
open Go.RowKit Go.Sort
end Go.Proofs.YtcgbmmalfbpjaaaGreatDoor
