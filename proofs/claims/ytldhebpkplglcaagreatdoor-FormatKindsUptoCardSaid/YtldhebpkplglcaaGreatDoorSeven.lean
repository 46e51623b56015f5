/- A row of seven. -/
import Derived.Test.YtldhebpkplglcaaGreatDoorNB
namespace Go.Proofs.YtldhebpkplglcaaGreatDoor
open Go.RowKit

theorem seven_of {cs : List Value} (h : cs.length = 7) : ∃ x1 x2 x3 x4 x5 x6 x7, cs = [x1, x2, x3, x4, x5, x6, x7] := by
  match cs, h with
  | [x1, x2, x3, x4, x5, x6, x7], _ => exact ⟨x1, x2, x3, x4, x5, x6, x7, rfl⟩

end Go.Proofs.YtldhebpkplglcaaGreatDoor
