/- A row of seven; a value's cells. -/
import Derived.Test.YtldhebpkplglcaaGreatDoorMj
namespace Go.Proofs.YtldhebpkplglcaaGreatDoor
open Go.RowKit

theorem seven_of {cs : List Value} (h : cs.length = 7) : ∃ x1 x2 x3 x4 x5 x6 x7, cs = [x1, x2, x3, x4, x5, x6, x7] := by
  match cs, h with
  | [x1, x2, x3, x4, x5, x6, x7], _ => exact ⟨x1, x2, x3, x4, x5, x6, x7, rfl⟩

/-- A value's cells, written out. -/
theorem RdV.seven {w : World} {cs : List Value} {v : JV} (h : RdV w cs v) : ∃ kind g a ln c e s aa an ac oa on oc, cs = valCs kind g a ln c e s aa an ac oa on oc := by
  obtain ⟨a, c, aa, ac, oa, oc, P⟩ := h.parts
  exact ⟨_, _, _, _, _, _, _, _, _, _, _, _, _, P.cells⟩

end Go.Proofs.YtldhebpkplglcaaGreatDoor
