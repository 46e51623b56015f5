/- The law FormatCases. -/
import Derived.Test.YtafeofgjmlhklaaGreatDoorFe
import Derived.Test.YtafeofgjmlhklaaGreatDoorFg
namespace Go.Proofs.YtafeofgjmlhklaaGreatDoor
open Go.RowKit

set_option maxRecDepth 100000 in
set_option maxHeartbeats 1600000 in
theorem law_FormatCases (s : List UInt8) (up : Bool) (w : World) (hs : s.length + 1 ≤ 1048576) (hT : Tabs w) (hM : Mx w) :
    Calls Tryz.prog 7 #[.string ⟨s.toArray⟩, .bool up] w fun e w' => e = .returned (.bool true) ∧ Below w.heap.size w w' := by
  have C := hid (law20_shown w hT hM)
  have C1 := fun W => format_Case s up W (by omega)
  have C2 := fun W => ref20_Case s up W (by omega)
  generalize caseL up s = T at *
  generalize (⟨T.toArray⟩ : ByteArray) = tb at *
  generalize (⟨s.toArray⟩ : ByteArray) = sb at *
  replace C1 := hid C1
  replace C2 := hid C2
  go_enter Tryz.func7, Tryz.ntmps7
  go_wp2_with fail
  refine C.out.mono ?_
  rintro e w1 ⟨rfl, hb1⟩
  replace hb1 := hid hb1
  go_wp2_with fail
  refine (C1.out _).mono ?_
  rintro e w2 ⟨rfl, hb2⟩
  replace hb2 := hid (below_trans hb1.out hb2)
  go_wp2_with fail
  refine (C2.out _).mono ?_
  rintro e w3 ⟨rfl, hb3⟩
  replace hb3 := hid (below_trans hb2.out hb3)
  go_wp2_with fail
  go_ret
  exact ⟨rfl, hb3.out⟩

end Go.Proofs.YtafeofgjmlhklaaGreatDoor
