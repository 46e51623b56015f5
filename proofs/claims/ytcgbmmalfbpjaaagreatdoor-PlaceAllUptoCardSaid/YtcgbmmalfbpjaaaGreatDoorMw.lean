/-  -/
import Derived.Test.YtcgbmmalfbpjaaaGreatDoorMu
import Derived.Test.YtcgbmmalfbpjaaaGreatDoorMm
import Derived.Test.YtcgbmmalfbpjaaaGreatDoorMn
import Derived.Sort.Defs
import Derived.Sort.Grow
import Derived.BigRegion
import Derived.Deep.RegionLaw
set_option maxRecDepth 100000
set_option maxHeartbeats 16000000
namespace Go.Proofs.YtcgbmmalfbpjaaaGreatDoor
section
variable {α:Type} {S:α→Prop} {c:α→α→Int}
end
end Go.Proofs.YtcgbmmalfbpjaaaGreatDoor

namespace Go.Proofs.YtcgbmmalfbpjaaaGreatDoor
open Go.Sort
section
variable {α:Type} [Inhabited α]
end
end Go.Proofs.YtcgbmmalfbpjaaaGreatDoor

namespace Go.Proofs.YtcgbmmalfbpjaaaGreatDoor
open Go.RowKit Go.Sort
structure VE (w0:World) where
 cs:List Value
 v:JV
 rd:RdV w0 cs v
 may:mayJ 200 v=true
 sm:SmallV v
instance (w0:World):Inhabited (VE w0):=⟨⟨_,.null,dZ w0,by decide,.mk _ (by decide) (by decide) (by decide) (fun _ h=>by cases h) (fun _ h=>by cases h) (fun _ h=>by cases h)⟩⟩
abbrev VT (w0:World):=VE w0 × Nat
section
variable {w0:World}
variable {g off:Nat} {l:List (VT w0)} {W W':World}
end
end Go.Proofs.YtcgbmmalfbpjaaaGreatDoor

namespace Go.Proofs.YtcgbmmalfbpjaaaGreatDoor
section
variable {α:Type} {c:α→α→Int}
end
end Go.Proofs.YtcgbmmalfbpjaaaGreatDoor
