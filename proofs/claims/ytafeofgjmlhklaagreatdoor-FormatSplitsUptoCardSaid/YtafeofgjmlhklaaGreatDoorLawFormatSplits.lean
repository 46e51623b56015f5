/- The law FormatSplits. -/
import Derived.Test.YtafeofgjmlhklaaGreatDoorFe
import Derived.Test.YtafeofgjmlhklaaGreatDoorSameR
namespace Go.Proofs.YtafeofgjmlhklaaGreatDoor
open Go.RowKit

theorem idxP_le (xs ys : List Nat) : (idxP xs ys).length ≤ xs.length := by
  unfold idxP
  split
  · simp
  · exact idxT_le xs ys xs.length

set_option maxRecDepth 100000 in
set_option maxHeartbeats 3200000 in
theorem law_FormatSplits (s t : List UInt8) (w : World) (hs : s.length + 1 ≤ 1048576) (ht : t.length + 1 ≤ 1048576) (hT : Tabs w) (hM : Mx w) :
    Calls Tryz.prog 4 #[.string ⟨s.toArray⟩, .string ⟨t.toArray⟩] w fun e w' => e = .returned (.bool true) ∧ Below w.heap.size w w' := by
  have C := hid (law20_shown w hT hM)
  have C1 := fun W (hM : Mx W) => format_Split s t W (by omega) hM
  have C2 := fun W => ref20_Split s t W (by omega) (by omega)
  have C3 := fun W => format_Indices s t W (by omega) (by omega)
  have C4 := fun W => ref20_Indices s t W (by omega) (by omega)
  have hl1 := split_lenP s t
  have hl2 : (idxP (pts s) (pts t)).length ≤ s.length := Nat.le_trans (idxP_le _ _) (pts_len _ s (Nat.le_refl _))
  generalize splitP s t = P at *
  generalize idxP (pts s) (pts t) = I at *
  generalize (⟨s.toArray⟩ : ByteArray) = sb at *
  generalize (⟨t.toArray⟩ : ByteArray) = tb at *
  have C5 := fun a b ca cb W h1 h2 => ref10_SameTexts P a b ca cb W h1 h2 (by omega)
  have C6 := fun a b ca cb W h1 h2 => ref4_Same I a b ca cb W h1 h2 (by omega)
  have HM := hid hM
  replace C1 := hid C1
  replace C2 := hid C2
  replace C3 := hid C3
  replace C4 := hid C4
  replace C5 := hid C5
  replace C6 := hid C6
  clear hT hM
  go_enter Tryz.func4, Tryz.ntmps4
  go_wp2_with fail
  refine C.out.mono ?_
  rintro e w1 ⟨rfl, hb1⟩
  have HB1 := hid hb1
  have D1 := hid (C1.out w1 (HM.out.below hb1))
  clear hb1 C C1
  go_wp2_with fail
  refine D1.out.mono ?_
  rintro e w2 ⟨a1, c1, rfl, hb2, ho2⟩
  obtain ⟨_, _, e3, hr1, _⟩ := owns_row ho2
  injection e3 with e3 _ e5
  subst e3 e5
  have HR1 := hid hr1
  have HB2 := hid (below_trans HB1.out hb2)
  clear hb2 ho2 hr1 D1
  go_wp2_with fail
  refine (C2.out _).mono ?_
  rintro e w3 ⟨a2, c2, rfl, hb3, ho3⟩
  obtain ⟨_, _, e3, hr2, _⟩ := owns_row ho3
  injection e3 with e3 _ e5
  subst e3 e5
  have HB3 := hid (below_trans HB2.out hb3)
  have D5 := hid (C5.out a1 a2 c1 c2 w3 (HR1.out.below hb3) hr2)
  clear hb3 ho3 hr2 C2 C5
  go_wp2_with fail
  refine D5.out.mono ?_
  rintro e w4 ⟨rfl, hb4⟩
  have HB4 := hid (below_trans HB3.out hb4)
  clear hb4 D5
  go_wp2_with fail
  refine (C3.out _).mono ?_
  rintro e w5 ⟨a3, c3, rfl, hb5, ho5⟩
  obtain ⟨_, _, e3, hr3, _⟩ := owns_row ho5
  injection e3 with e3 _ e5
  subst e3 e5
  have HR3 := hid hr3
  have HB5 := hid (below_trans HB4.out hb5)
  clear hb5 ho5 hr3 C3
  go_wp2_with fail
  refine (C4.out _).mono ?_
  rintro e w6 ⟨a4, c4, rfl, hb6, ho6⟩
  obtain ⟨_, _, e3, hr4, _⟩ := owns_row ho6
  injection e3 with e3 _ e5
  subst e3 e5
  have HB6 := hid (below_trans HB5.out hb6)
  have D6 := hid (C6.out a3 a4 c3 c4 w6 (HR3.out.below hb6) hr4)
  clear hb6 ho6 hr4 C4 C6
  go_wp2_with fail
  refine D6.out.mono ?_
  rintro e w7 ⟨rfl, hb7⟩
  have HB7 := hid (below_trans HB6.out hb7)
  clear hb7 D6
  go_wp2_with fail
  go_ret
  exact ⟨rfl, HB7.out⟩

end Go.Proofs.YtafeofgjmlhklaaGreatDoor
