/- format.Apply @base64d at a Text. -/
import Derived.Test.YtafeofgjmlhklaaGreatDoorFmtV
import Derived.Test.YtafeofgjmlhklaaGreatDoorCleanP
namespace Go.Proofs.YtafeofgjmlhklaaGreatDoor
open Go.RowKit

theorem debL_len : ∀ (l : List UInt8) (n h : Nat) (out : List UInt8), debL n h l = some out → out.length ≤ l.length
  | [], n, h, out, e => by
    simp only [debL, Option.some.injEq] at e
    subst e
    simp
  | c :: l, n, h, out, e => by
    simp only [debL] at e
    split at e
    · cases e
    · split at e
      · obtain ⟨o, h1, h2⟩ := Option.map_eq_some_iff.1 e
        subst h2
        have := debL_len l _ _ o h1
        simp only [List.length_cons]
        omega
      · have := debL_len l _ _ out e
        simp only [List.length_cons]
        omega
theorem trimR_len (s : List UInt8) (c : UInt8) : (Lib.trimRightB s c).length ≤ s.length := by
  unfold Lib.trimRightB
  rw [List.length_reverse]
  refine Nat.le_trans (List.dropWhile_sublist _).length_le ?_
  rw [List.length_reverse]
  exact Nat.le_refl _
theorem codedR_len (s : List UInt8) : (codedR s).1.length ≤ s.length := by
  unfold codedR
  have h := trimR_len s 61
  cases hd : debL 0 0 (Lib.trimRightB s 61) with
  | none => simp
  | some out =>
    have := debL_len _ _ _ _ hd
    show out.length ≤ _
    omega

set_option maxRecDepth 100000 in
set_option maxHeartbeats 1600000 in
theorem apply_b64d (s : List UInt8) (hs : s.length ≤ 17592186044415) (hv : soundB s = true) (w : World) (hT : Tabs w) :
    Calls Tryz.prog 11 #[.string ⟨#[64, 98, 97, 115, 101, 54, 52, 100]⟩, .agg (txtCs s).toArray] w fun e w' => e = .returned (.tuple #[.string ⟨(if (codedR s).2 then cleanL (codedR s).1 else []).toArray⟩, .int .i64 (if (codedR s).2 then 0 else 2)]) ∧ Below w.heap.size w w' := by
  have hM := fun W (hW : Tabs W) => value_May (JV.txt s) (txtCs s) W (txt_rd s W (by omega)) hW
  rw [txt_may, hv] at hM
  have hP := fun W => format_plain s W
  have hC := fun W => format_coded s W hs
  have hCl := fun W (hW : Tabs W) => utf_Clean (codedR s).1 W (Nat.le_trans (codedR_len s) hs) hW
  generalize codedR s = cr at *
  obtain ⟨o, ok⟩ := cr
  dsimp only at hC hCl ⊢
  generalize cleanL o = T at *
  unfold txtCs strV at hM hP ⊢
  generalize (⟨s.toArray⟩ : ByteArray) = sb at *
  generalize (⟨o.toArray⟩ : ByteArray) = ob at *
  replace hM := hid hM
  replace hP := hid hP
  replace hC := hid hC
  replace hCl := hid hCl
  have hTw := hid hT
  clear hT
  go_enter Tryz.func11, Tryz.ntmps11
  go_wp2_with fail
  have hBox : BoxT (w.alloc (.cells #[.int .i64 4, .bool false, .slice none 0 0, .int .i64 0, .string sb, .slice none 0 0, .slice none 0 0] 28)) w.heap.size sb := ⟨heap_alloc_new w _⟩
  have hAl : Below w.heap.size w (w.alloc (.cells #[.int .i64 4, .bool false, .slice none 0 0, .int .i64 0, .string sb, .slice none 0 0, .slice none 0 0] 28)) := (Below.refl _ w).alloc (Nat.le_refl _) _
  refine (hM.out _ (hTw.out.below hAl)).mono ?_
  rintro e w1 ⟨rfl, hb1⟩
  replace hBox := hBox.stay hb1
  have HB1 := hid (below_trans hAl hb1)
  obtain ⟨c0, c1, c2, c3, c4, c5, c6⟩ := hBox.cells
  clear hBox hAl hb1
  go_wp2_with fail
  refine (hP.out _).mono ?_
  rintro e w2 ⟨rfl, hb2⟩
  have HB2 := hid (below_trans HB1.out hb2)
  clear hb2 c0 c1 c2 c3 c4 c5 c6
  go_wp2_with fail
  refine (hC.out _).mono ?_
  rintro e w3 ⟨rfl, hb3⟩
  have HB3 := hid (below_trans HB2.out hb3)
  clear hb3
  cases ok with
  | false =>
    go_wp2_with fail
    go_ret2
    exact ⟨rfl, HB3.out⟩
  | true =>
    go_wp2_with fail
    refine (hCl.out _ (hTw.out.below HB3.out)).mono ?_
    rintro e w4 ⟨rfl, hb4⟩
    have HB4 := hid (below_trans HB3.out hb4)
    clear hb4
    go_wp2_with fail
    go_ret2
    exact ⟨rfl, HB4.out⟩

end Go.Proofs.YtafeofgjmlhklaaGreatDoor
