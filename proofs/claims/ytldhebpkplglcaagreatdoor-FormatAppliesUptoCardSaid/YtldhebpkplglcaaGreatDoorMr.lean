/- Is a text sound? The document's answer: may a value be? (Begun: the first test.) The document's answer: may a value be? One level, over the levels below. -/
import Derived.Test.YtldhebpkplglcaaGreatDoorMs
import Derived.Test.YtldhebpkplglcaaGreatDoorMj
import Derived.Test.YtldhebpkplglcaaGreatDoorMk
import Derived.Test.YtldhebpkplglcaaGreatDoorMg
import Derived.Deep.CutBlock
namespace Go.Proofs.YtldhebpkplglcaaGreatDoor
open Go.RowKit

theorem ref11_Sound (s : List UInt8) (w : World) (hs : s.length ≤ 9223372036854775807) :
    Calls Tryz.prog 79 #[.string ⟨s.toArray⟩] w fun e w' => e = .returned (.bool (soundB s)) ∧ Below w.heap.size w w' := by
  have C := ref4_Valid s w hs
  have e : (⟨s.toArray⟩ : ByteArray).size = s.length := rfl
  have hB : (((validN (nats s) : Nat) : Int) == (s.length : Int)) = soundB s := by
    unfold soundB
    rw [Bool.eq_iff_iff, beq_iff_eq, decide_eq_true_eq]
    omega
  rw [← hB]
  clear hB
  generalize validN (nats s) = V at *
  generalize (⟨s.toArray⟩ : ByteArray) = x at *
  replace C := hid C
  go_enter Tryz.func79, Tryz.ntmps79
  go_wp2_with fail
  refine C.out.mono ?_
  rintro e w' ⟨rfl, hb⟩
  go_wp2
  go_ret
  exact ⟨rfl, hb⟩

end Go.Proofs.YtldhebpkplglcaaGreatDoor

namespace Go.Proofs.YtldhebpkplglcaaGreatDoor
open Go.RowKit

theorem fits_kind (kind : Int) (g : Bool) (a : Option Addr) (n c : Nat) (e : Int) (s : List UInt8) (aa : Option Addr) (an ac : Nat) (oa : Option Addr) (on oc : Nat) (deep : Int) (w : World) (h : kind < 0) :
    Calls Tryz.prog 49 #[valV kind g a n c e s aa an ac oa on oc, .int .i64 deep] w fun en w' => en = .returned (.bool false) ∧ Below w.heap.size w w' := by
  unfold valV
  go_enter Tryz.func49, Tryz.ntmps49
  go_wp2_with fail
  go_ret
  exact ⟨rfl, (Below.refl _ _).alloc (Nat.le_refl _) _⟩

end Go.Proofs.YtldhebpkplglcaaGreatDoor

namespace Go.Proofs.YtldhebpkplglcaaGreatDoor
open Go.RowKit

set_option maxRecDepth 100000 in
set_option maxHeartbeats 1600000 in
theorem fits_base (kind : Int) (g : Bool) (a : Option Addr) (xs : List Nat) (c : Nat) (e : Int) (s : List UInt8) (aa : Option Addr) (an ac : Nat) (oa : Option Addr) (on oc : Nat) (deep : Nat) (w : World)
    (hk : ¬ (0 ≤ kind ∧ kind ≤ 6)) :
    Calls Tryz.prog 49 #[valV kind g a xs.length c e s aa an ac oa on oc, .int .i64 deep] w fun en w' => en = .returned (.bool false) ∧ Below w.heap.size w w' := by
  by_cases h : kind < 0
  · exact fits_kind kind g a xs.length c e s aa an ac oa on oc deep w h
  · have h6 : 6 < kind := by omega
    unfold valV
    go_enter Tryz.func49, Tryz.ntmps49
    go_wp2_with fail
    go_ret
    exact ⟨rfl, (Below.refl _ _).alloc (Nat.le_refl _) _⟩

set_option maxRecDepth 100000 in
set_option maxHeartbeats 1600000 in
theorem fits_num3 (g : Bool) (a : Option Addr) (xs : List Nat) (c : Nat) (e : Int) (s : List UInt8) (aa : Option Addr) (an ac : Nat) (oa : Option Addr) (on oc : Nat) (deep : Nat) (w : World)
    (hu : U32 w a xs) (hm : mayB g xs e = false) :
    Calls Tryz.prog 49 #[valV 3 g a xs.length c e s aa an ac oa on oc, .int .i64 deep] w fun en w' => en = .returned (.bool false) ∧ Below w.heap.size w w' := by
  have C := fun W (hb : Below w.heap.size w W) => ref2_May g a c e xs W (hu.below hb)
  rw [hm] at C
  replace C := hid C
  clear hu hm
  unfold valV
  go_enter Tryz.func49, Tryz.ntmps49
  go_wp2_with fail
  refine (C.out _ ((Below.refl _ _).alloc (Nat.le_refl _) _)).mono ?_
  rintro en w1 ⟨rfl, hb1⟩
  go_wp2_with fail
  go_ret
  exact ⟨rfl, below_alloc hb1⟩

set_option maxRecDepth 100000 in
set_option maxHeartbeats 1600000 in
theorem fits_num (kind : Int) (g : Bool) (a : Option Addr) (n : Nat) (c : Nat) (e : Int) (s : List UInt8) (aa : Option Addr) (an ac : Nat) (oa : Option Addr) (on oc : Nat) (deep : Nat) (w : World)
    (h0 : 0 ≤ kind) (h6 : kind ≤ 6) (h3 : kind ≠ 3) (hm : ¬ (g = false ∧ n = 0 ∧ e = 0)) :
    Calls Tryz.prog 49 #[valV kind g a n c e s aa an ac oa on oc, .int .i64 deep] w fun en w' => en = .returned (.bool false) ∧ Below w.heap.size w w' := by
  have hk : (kind == 3) = false := by simpa using h3
  have k6 : ¬ 6 < kind := by omega
  have k0 : ¬ kind < 0 := by omega
  unfold valV
  cases g with
  | true =>
    clear hm
    go_enter Tryz.func49, Tryz.ntmps49
    go_wp2_with fail
    go_ret
    exact ⟨rfl, (Below.refl _ _).alloc (Nat.le_refl _) _⟩
  | false =>
    by_cases hn : n = 0
    · have he : (e == 0) = false := by rw [beq_eq_false_iff_ne]; intro h; exact hm ⟨rfl, hn, h⟩
      clear hm
      subst hn
      go_enter Tryz.func49, Tryz.ntmps49
      go_wp2_with fail
      go_ret
      exact ⟨rfl, (Below.refl _ _).alloc (Nat.le_refl _) _⟩
    · have hn2 : (0 : Int) < (n : Int) := by omega
      clear hm
      go_enter Tryz.func49, Tryz.ntmps49
      go_wp2_with fail
      go_ret
      exact ⟨rfl, (Below.refl _ _).alloc (Nat.le_refl _) _⟩

end Go.Proofs.YtldhebpkplglcaaGreatDoor
