/- slices.CompareFunc at rows of values. -/
import Derived.Test.YtldhebpkplglcaaGreatDoorMl
import Derived.Test.YtldhebpkplglcaaGreatDoorMj
import Derived.Deep.CutBlock
namespace Go.Proofs.YtldhebpkplglcaaGreatDoor
open Go.RowKit

end Go.Proofs.YtldhebpkplglcaaGreatDoor
