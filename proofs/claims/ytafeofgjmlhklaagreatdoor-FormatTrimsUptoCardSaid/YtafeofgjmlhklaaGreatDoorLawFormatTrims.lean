/- The law FormatTrims. -/
import Derived.Test.YtafeofgjmlhklaaGreatDoorFe
import Derived.Test.YtafeofgjmlhklaaGreatDoorFf
namespace Go.Proofs.YtafeofgjmlhklaaGreatDoor
open Go.RowKit

set_option maxRecDepth 100000 in
set_option maxHeartbeats 1600000 in
theorem law_FormatTrims (s t : List UInt8) (ahead behind : Bool) (w : World) (hs : s.length + 1 ≤ 1048576) (ht : t.length + 1 ≤ 1048576) (hT : Tabs w) (hM : Mx w) :
    Calls Tryz.prog 8 #[.string ⟨s.toArray⟩, .string ⟨t.toArray⟩, .bool ahead, .bool behind] w fun e w' => e = .returned (.bool true) ∧ Below w.heap.size w w' := by
  have C := hid (law20_shown w hT hM)
  have C1 := fun W => format_Trim s t ahead behind W (by omega)
  have C2 := fun W => ref20_Trim s t ahead behind W (by omega) (by omega)
  generalize trimL s t ahead behind = T at *
  generalize (⟨T.toArray⟩ : ByteArray) = tb at *
  generalize (⟨s.toArray⟩ : ByteArray) = sb at *
  generalize (⟨t.toArray⟩ : ByteArray) = ub at *
  replace C1 := hid C1
  replace C2 := hid C2
  go_enter Tryz.func8, Tryz.ntmps8
  go_wp2_with fail
  refine C.out.mono ?_
  rintro e w1 ⟨rfl, hb1⟩
  replace hb1 := hid hb1
  go_wp2_with fail
  refine (C1.out _).mono ?_
  rintro e w2 ⟨rfl, hw⟩
  rw [hw]
  clear hw w2
  go_wp2_with fail
  refine (C2.out _).mono ?_
  rintro e w2 ⟨rfl, hw⟩
  rw [hw]
  clear hw w2
  go_wp2_with fail
  go_ret
  exact ⟨rfl, hb1.out⟩

end Go.Proofs.YtafeofgjmlhklaaGreatDoor
