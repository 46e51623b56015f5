/- The law DecParses, whole. -/
import Derived.Test.YtmdgciolnpkccaaGreatDoorLawParsesA
import Derived.Test.YtmdgciolnpkccaaGreatDoorRefOe
namespace Go.Proofs.YtmdgciolnpkccaaGreatDoor
open Go.RowKit

theorem law_DecParses (l : List UInt8) (w : World) (hl : l.length ≤ 9223372036854775807) (htab : Pow w) :
    Calls Tryz.prog 3 #[.string ⟨l.toArray⟩] w fun en w' => en = .returned (.bool true) ∧ Below w.heap.size w w' :=
  parses_core l w hl htab fun W => ref2_Parse l hl W

end Go.Proofs.YtmdgciolnpkccaaGreatDoor
