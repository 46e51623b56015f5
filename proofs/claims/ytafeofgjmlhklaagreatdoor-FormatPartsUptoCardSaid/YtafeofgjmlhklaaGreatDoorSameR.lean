/- lorgnetteref04.Same and lorgnetteref10.SameTexts at equal rows. -/
import Derived.Test.YtafeofgjmlhklaaGreatDoorFmtU
namespace Go.Proofs.YtafeofgjmlhklaaGreatDoor
open Go.RowKit

set_option maxRecDepth 100000 in
set_option maxHeartbeats 1600000 in
theorem ref4_Same (xs : List Nat) (a b : Option Addr) (ca cb : Nat) (w : World) (ha : Row w a (i64s xs)) (hb : Row w b (i64s xs)) (hl : xs.length ≤ 17592186044415) :
    Calls Tryz.prog 16 #[.slice a xs.length ca, .slice b xs.length cb] w fun e w' => e = .returned (.bool true) ∧ Below w.heap.size w w' := by
  have HA := hid ha
  have HB := hid hb
  clear ha hb
  go_enter Tryz.func16, Tryz.ntmps16
  go_wp2_with fail
  go_loopw [5] (fun i wr => ∃ k : Nat, i = .int .i64 (k : Nat) ∧ k ≤ xs.length ∧ Below w.heap.size w wr) (fun i _ => xs.length - (intOf i).toNat)
  case atStart => exact ⟨0, rfl, Nat.zero_le _, Below.refl _ _⟩
  case round =>
    obtain ⟨k, rfl, hk, hb⟩ := hrel
    have HBR := hid hb
    clear hb
    by_cases hke : k = xs.length
    · subst hke
      go_wp2_with fail
      go_ret
      exact ⟨rfl, HBR.out⟩
    · have hkl : k < xs.length := by omega
      obtain ⟨p, hp⟩ : ∃ p, xs[k]? = some p := ⟨_, List.getElem?_eq_getElem hkl⟩
      obtain ⟨ba, oa, rfl, c1⟩ := row_at (HA.out.below HBR.out) hp
      obtain ⟨bb, ob, rfl, c2⟩ := row_at (HB.out.below HBR.out) hp
      clear hp
      go_wp2_with fail
      go_quiet (fail)
      all_goals
        go_wp2_with fail
        go_roundw
        case rel => exact ⟨k + 1, by go_num, by omega, by first | exact HBR.out | exact below_drewN HBR.out _⟩
        case measure => simp [intOf]; omega

theorem srow_at {w : World} {a : Option Addr} {xs : List (List UInt8)} (h : Row w a (strs xs)) {j : Nat} {p : List UInt8} (hj : xs[j]? = some p) : ∃ b off, a = some ⟨b, off, none⟩ ∧ w.cell? ⟨b, off + j, none⟩ = some (.string ⟨p.toArray⟩) := by
  obtain ⟨b, off, e, hc⟩ := h j (strV p) (by unfold strs; rw [List.getElem?_map, hj]; rfl)
  exact ⟨b, off, e, hc⟩

set_option maxRecDepth 100000 in
set_option maxHeartbeats 1600000 in
theorem ref10_SameTexts (xs : List (List UInt8)) (a b : Option Addr) (ca cb : Nat) (w : World) (ha : Row w a (strs xs)) (hb : Row w b (strs xs)) (hl : xs.length ≤ 17592186044415) :
    Calls Tryz.prog 13 #[.slice a xs.length ca, .slice b xs.length cb] w fun e w' => e = .returned (.bool true) ∧ Below w.heap.size w w' := by
  have HA := hid ha
  have HB := hid hb
  clear ha hb
  go_enter Tryz.func13, Tryz.ntmps13
  go_wp2_with fail
  go_loopw [5] (fun i wr => ∃ k : Nat, i = .int .i64 (k : Nat) ∧ k ≤ xs.length ∧ Below w.heap.size w wr) (fun i _ => xs.length - (intOf i).toNat)
  case atStart => exact ⟨0, rfl, Nat.zero_le _, Below.refl _ _⟩
  case round =>
    obtain ⟨k, rfl, hk, hb⟩ := hrel
    have HBR := hid hb
    clear hb
    by_cases hke : k = xs.length
    · subst hke
      go_wp2_with fail
      go_ret
      exact ⟨rfl, HBR.out⟩
    · have hkl : k < xs.length := by omega
      obtain ⟨p, hp⟩ : ∃ p, xs[k]? = some p := ⟨_, List.getElem?_eq_getElem hkl⟩
      obtain ⟨ba, oa, rfl, c1⟩ := srow_at (HA.out.below HBR.out) hp
      obtain ⟨bb, ob, rfl, c2⟩ := srow_at (HB.out.below HBR.out) hp
      clear hp
      generalize (⟨p.toArray⟩ : ByteArray) = pb at *
      go_wp2_with fail
      go_quiet (fail)
      all_goals
        go_wp2_with fail
        go_roundw
        case rel => exact ⟨k + 1, by go_num, by omega, by first | exact HBR.out | exact below_drewN HBR.out _⟩
        case measure => simp [intOf]; omega

end Go.Proofs.YtafeofgjmlhklaaGreatDoor
