/-  -/
import Derived.Test.YtcgbmmalfbpjaaaGreatDoorFb
import Derived.Test.YtcgbmmalfbpjaaaGreatDoorMl
import Derived.Test.YtcgbmmalfbpjaaaGreatDoorFd
namespace Go.Proofs.YtcgbmmalfbpjaaaGreatDoor
open Go.RowKit
open Go.RowKit
end Go.Proofs.YtcgbmmalfbpjaaaGreatDoor
