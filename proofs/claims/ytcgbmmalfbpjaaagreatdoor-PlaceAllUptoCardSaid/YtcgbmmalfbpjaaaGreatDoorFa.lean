/-  -/
import Derived.Test.YtcgbmmalfbpjaaaGreatDoorNB
import Derived.Test.YtcgbmmalfbpjaaaGreatDoorMj
import Derived.Lib.IndexMore
import Derived.Lib.TrimByte
import Derived.Lib.Replace
set_option maxRecDepth 100000
set_option maxHeartbeats 16000000
namespace Go.Proofs.YtcgbmmalfbpjaaaGreatDoor
end Go.Proofs.YtcgbmmalfbpjaaaGreatDoor

namespace Go.Proofs.YtcgbmmalfbpjaaaGreatDoor
open Go.Lib
end Go.Proofs.YtcgbmmalfbpjaaaGreatDoor

namespace Go.Proofs.YtcgbmmalfbpjaaaGreatDoor
end Go.Proofs.YtcgbmmalfbpjaaaGreatDoor
