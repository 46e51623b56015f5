/- The law DecTexts: the walk. -/
import Derived.Test.YtphdncifcljmpaaGreatDoorLawLib
import Derived.Test.YtphdncifcljmpaaGreatDoorRefNb
import Derived.Deep.CutBlock
namespace Go.Proofs.YtphdncifcljmpaaGreatDoor
open Go.RowKit

set_option maxRecDepth 100000 in
set_option maxHeartbeats 3200000 in
theorem law_DecTexts (g : Bool) (a : Option Addr) (cap : Nat) (e : Int) (xs : List Nat) (w : World) (h : U32 w a xs) (htab : Pow w) :
    Calls Tryz.prog 4 #[.agg #[.bool g, .slice a xs.length cap, .int .i64 e]] w fun en w' => en = .returned (.bool true) ∧ Below w.heap.size w w' := by
  have C0 := fun W (hp : Pow W) => law2_shown W hp
  have C1 := fun W b c (h1 : U32 W b xs) (hp : Pow W) => dec_Text g b c e xs W h1 hp
  have C2 := fun W b c (h1 : U32 W b xs) (_ : Pow W) => ref2_Text g b c e xs W h1
  obtain ⟨er, her⟩ : ∃ r, r = takenE g xs.length (Num.worth xs) e := ⟨_, rfl⟩
  rw [← her] at C1 C2
  obtain ⟨V, hV⟩ : ∃ V, V = (if er = 0 then textL (takenD g xs.length (Num.worth xs) e) else []) := ⟨_, rfl⟩
  rw [← hV] at C1 C2
  unfold OutSE at C1 C2
  obtain ⟨T, hT⟩ : ∃ T : ByteArray, T = ⟨V.toArray⟩ := ⟨_, rfl⟩
  rw [← hT] at C1 C2
  replace C0 := hid C0
  replace C1 := hid C1
  replace C2 := hid C2
  have HTAB := hid htab
  have HX0 := hid h
  have hee : ((er : Int) == (er : Int)) = true := by simp
  clear h htab her hV hT
  go_enter Tryz.func4, Tryz.ntmps4
  go_upto_region 1 with fail
  go_cut [3] from 8 (fun v w' => v = .bool true ∧ HasD w' (w.heap.size) g xs e a cap ∧ Below w.heap.size w w')
  case first =>
    as_aux_lemma =>
      go_wp2_with fail
      refine (C0.out _ (HTAB.out.alloc _)).mono ?_
      rintro e1 w1 ⟨rfl, hb1⟩
      have HB1 := hid hb1
      clear hb1
      go_wp2_with fail
      go_meet
      case rel => exact ⟨rfl, boxed1 HX0.out HB1.out⟩
  case rest =>
    obtain ⟨rfl, hX, hb⟩ := hcut
    have HX := hid hX
    have HB := hid hb
    clear hb hX HX0 C0
    go_upto_region 2 with fail
    go_cut [4, 5] from 8 (fun v e w' => v = .string T ∧ e = .int .i64 (er : Nat) ∧ Below wc.heap.size wc w')
    case first =>
      as_aux_lemma =>
        obtain ⟨⟨k00, k01, k02⟩, _⟩ := blk_three HX.out.blk
        have z0 := blk_lt HX.out.blk
        go_wp2_with fail
        refine (C1.out _ _ _ HX.out.u (HTAB.out.next HB.out)).mono ?_
        rintro e1 w1 ⟨rfl, ho⟩
        have HO := hid ho
        clear ho
        go_wp2_with fail
        go_meet
        case rel => exact ⟨rfl, rfl, HO.out⟩
    case rest =>
      obtain ⟨rfl, rfl, hb⟩ := hcut
      replace HX := hid (HX.out.below hb)
      replace HB := hid (below_trans HB.out hb)
      clear hb
      go_upto_region 3 with fail
      go_cut [6, 7] from 8 (fun v e w' => v = .string T ∧ e = .int .i64 (er : Nat) ∧ Below wc.heap.size wc w')
      case first =>
        as_aux_lemma =>
          obtain ⟨⟨k00, k01, k02⟩, _⟩ := blk_three HX.out.blk
          have z0 := blk_lt HX.out.blk
          go_wp2_with fail
          refine (C2.out _ _ _ HX.out.u (HTAB.out.next HB.out)).mono ?_
          rintro e1 w1 ⟨rfl, ho⟩
          have HO := hid ho
          clear ho
          go_wp2_with fail
          go_meet
          case rel => exact ⟨rfl, rfl, HO.out⟩
      case rest =>
        obtain ⟨rfl, rfl, hb⟩ := hcut
        replace HX := hid (HX.out.below hb)
        replace HB := hid (below_trans HB.out hb)
        clear hb
        go_wp2
        go_ret
        exact ⟨rfl, HB.out⟩

end Go.Proofs.YtphdncifcljmpaaGreatDoor
