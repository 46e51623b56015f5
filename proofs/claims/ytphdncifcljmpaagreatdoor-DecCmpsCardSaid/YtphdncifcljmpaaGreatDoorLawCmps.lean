/- The law DecCmps: the walk. Printed by lawgen. -/
import Derived.Test.YtphdncifcljmpaaGreatDoorLawLib
import Derived.Test.YtphdncifcljmpaaGreatDoorRefLb
import Derived.Deep.CutBlock
namespace Go.Proofs.YtphdncifcljmpaaGreatDoor
open Go.RowKit

set_option maxRecDepth 100000 in
set_option maxHeartbeats 3200000 in
theorem law_DecCmps (g : Bool) (a : Option Addr) (cap : Nat) (e : Int) (xs : List Nat) (g2 : Bool) (a2 : Option Addr) (cap2 : Nat) (e2 : Int) (ys : List Nat) (w : World) (h : U32 w a xs) (h2 : U32 w a2 ys) (htab : Pow w) :
    Calls Tryz.prog 8 #[.agg #[.bool g, .slice a xs.length cap, .int .i64 e], .agg #[.bool g2, .slice a2 ys.length cap2, .int .i64 e2]] w fun en w' => en = .returned (.bool true) ∧ Below w.heap.size w w' := by
  have C0 := fun W (hp : Pow W) => law2_shown W hp
  have C1 := fun W b c b2 c2 (h1 : U32 W b xs) (h2 : U32 W b2 ys) (hp : Pow W) => dec_Cmp g b c e xs g2 b2 c2 e2 ys W h1 h2 hp
  have C2 := fun W b c b2 c2 (h1 : U32 W b xs) (h2 : U32 W b2 ys) (hp : Pow W) => ref2_Cmp g b c e xs g2 b2 c2 e2 ys W h1 h2
  have C3 := fun W b c (h1 : U32 W b xs) (hp : Pow W) => dec_Neg g b c e xs W h1 hp
  have C4 := fun W b c (h1 : U32 W b xs) (hp : Pow W) => ref2_Neg g b c e xs W h1
  have gd0 := (tk_taken g xs.length (Num.worth xs) e).good
  have gd : IsPlain (negD (takenD g xs.length (Num.worth xs) e)) ∧ fitsB (negD (takenD g xs.length (Num.worth xs) e)) = true := ⟨neg_plain gd0.1, neg_fits gd0.2⟩
  unfold OutIE at C2
  obtain ⟨d, hd⟩ : ∃ d, d = negD (takenD g xs.length (Num.worth xs) e) := ⟨_, rfl⟩
  obtain ⟨m, hm⟩ : ∃ m, m = (if bothE (takenE g xs.length (Num.worth xs) e) (takenE g2 ys.length (Num.worth ys) e2) = 0 then cmpR (takenD g xs.length (Num.worth xs) e) (takenD g2 ys.length (Num.worth ys) e2) else 0) := ⟨_, rfl⟩
  obtain ⟨er, her⟩ : ∃ r, r = bothE (takenE g xs.length (Num.worth xs) e) (takenE g2 ys.length (Num.worth ys) e2) := ⟨_, rfl⟩
  obtain ⟨ex, hex⟩ : ∃ r, r = takenE g xs.length (Num.worth xs) e := ⟨_, rfl⟩
  rw [← hm, ← her] at C1 C2
  rw [← hd, ← hex] at C3 C4
  rw [← hd] at gd
  have S1 := fun W b c b2 c2 (h1 : U32 W b (Num.limbs d.m)) (h2 : U32 W b2 (Num.limbs d.m)) => c_same W b c b2 c2 d d gd h1 h2
  simp only [decide_true] at S1
  replace C0 := hid C0
  replace C1 := hid C1
  replace C2 := hid C2
  replace C3 := hid C3
  replace C4 := hid C4
  replace S1 := hid S1
  have HTAB := hid htab
  have HX0 := hid h
  have HY0 := hid h2
  clear h h2 htab hd hm her hex gd gd0
  go_enter Tryz.func8, Tryz.ntmps8
  go_upto_region 1 with fail
  go_cut [5] from 14 (fun v w' => v = .bool true ∧ HasD w' (w.heap.size) g xs e a cap ∧ HasD w' (w.heap.size + 1) g2 ys e2 a2 cap2 ∧ Below w.heap.size w w')
  case first =>
    as_aux_lemma =>
      go_wp2_with fail
      refine (C0.out _ ((HTAB.out.alloc _).alloc _)).mono ?_
      rintro e1 w1 ⟨rfl, hb1⟩
      have HB1 := hid hb1
      clear hb1
      go_wp2_with fail
      go_meet
      case rel => exact ⟨rfl, boxed2 HX0.out HY0.out HB1.out⟩
  case rest =>
    obtain ⟨rfl, hX, hY, hb⟩ := hcut
    have HX := hid hX
    have HY := hid hY
    have HB := hid hb
    clear hb hX hY HX0 HY0 C0
    go_upto_region 2 with fail
    go_cut [6, 7] from 14 (fun v e w' => v = .int .i64 m ∧ e = .int .i64 (er : Nat) ∧ Below wc.heap.size wc w')
    case first =>
      as_aux_lemma =>
        obtain ⟨⟨k00, k01, k02⟩, _⟩ := blk_three HX.out.blk
        have z0 := blk_lt HX.out.blk
        obtain ⟨⟨k10, k11, k12⟩, _⟩ := blk_three HY.out.blk
        have z1 := blk_lt HY.out.blk
        go_wp2_with fail
        refine (C1.out _ _ _ _ _ HX.out.u HY.out.u (HTAB.out.next HB.out)).mono ?_
        rintro e1 w1 ⟨rfl, ho⟩
        have HO := hid ho
        clear ho
        go_wp2_with fail
        go_meet
        case rel => exact ⟨rfl, rfl, HO.out⟩
    case rest =>
      obtain ⟨rfl, rfl, hb⟩ := hcut
      replace HX := hid (HX.out.below hb)
      replace HY := hid (HY.out.below hb)
      replace HB := hid (below_trans HB.out hb)
      clear hb
      go_upto_region 3 with fail
      go_cut [8, 9] from 14 (fun v e w' => v = .int .i64 m ∧ e = .int .i64 (er : Nat) ∧ Below wc.heap.size wc w')
      case first =>
        as_aux_lemma =>
          obtain ⟨⟨k00, k01, k02⟩, _⟩ := blk_three HX.out.blk
          have z0 := blk_lt HX.out.blk
          obtain ⟨⟨k10, k11, k12⟩, _⟩ := blk_three HY.out.blk
          have z1 := blk_lt HY.out.blk
          go_wp2_with fail
          refine (C2.out _ _ _ _ _ HX.out.u HY.out.u (HTAB.out.next HB.out)).mono ?_
          rintro e1 w1 ⟨rfl, ho⟩
          have HO := hid ho
          clear ho
          go_wp2_with fail
          go_meet
          case rel => exact ⟨rfl, rfl, HO.out⟩
      case rest =>
        obtain ⟨rfl, rfl, hb⟩ := hcut
        replace HX := hid (HX.out.below hb)
        replace HY := hid (HY.out.below hb)
        replace HB := hid (below_trans HB.out hb)
        clear hb
        go_upto_region 4 with fail
        go_cut [10, 11] from 14 (fun v e w' => ∃ N b c, v = .pointer (some ⟨N, 0, none⟩) ∧ e = .int .i64 (ex : Nat) ∧ HasD w' N d.neg (Num.limbs d.m) d.e b c ∧ Below wc.heap.size wc w')
        case first =>
          as_aux_lemma =>
            obtain ⟨⟨k00, k01, k02⟩, _⟩ := blk_three HX.out.blk
            have z0 := blk_lt HX.out.blk
            go_wp2_with fail
            refine (C3.out _ _ _ HX.out.u (HTAB.out.next HB.out)).mono ?_
            rintro e1 w1 ⟨b1, c1, rfl, ho⟩
            have HO := hid ho
            clear ho
            unfold decV
            go_wp2_with fail
            go_meet
            case rel => exact ⟨w1.heap.size, b1, c1, rfl, rfl, HasD.new HO.out.inD, HO.out.1.alloc HO.out.1.size _⟩
        case rest =>
          obtain ⟨NP, bP, cP, rfl, rfl, hP, hb⟩ := hcut
          replace HX := hid (HX.out.below hb)
          replace HY := hid (HY.out.below hb)
          replace HB := hid (below_trans HB.out hb)
          clear hb
          have HP := hid hP
          clear hP
          go_upto_region 5 with fail
          go_cut [12, 13] from 14 (fun v e w' => ∃ N b c, v = .pointer (some ⟨N, 0, none⟩) ∧ e = .int .i64 (ex : Nat) ∧ HasD w' N d.neg (Num.limbs d.m) d.e b c ∧ Below wc.heap.size wc w')
          case first =>
            as_aux_lemma =>
              obtain ⟨⟨k00, k01, k02⟩, _⟩ := blk_three HX.out.blk
              have z0 := blk_lt HX.out.blk
              go_wp2_with fail
              refine (C4.out _ _ _ HX.out.u (HTAB.out.next HB.out)).mono ?_
              rintro e1 w1 ⟨b1, c1, rfl, ho⟩
              have HO := hid ho
              clear ho
              unfold decV
              go_wp2_with fail
              go_meet
              case rel => exact ⟨w1.heap.size, b1, c1, rfl, rfl, HasD.new HO.out.inD, HO.out.1.alloc HO.out.1.size _⟩
          case rest =>
            obtain ⟨NQ, bQ, cQ, rfl, rfl, hQ, hb⟩ := hcut
            replace HX := hid (HX.out.below hb)
            replace HY := hid (HY.out.below hb)
            replace HP := hid (HP.out.below hb)
            replace HB := hid (below_trans HB.out hb)
            clear hb
            have HQ := hid hQ
            clear hQ
            obtain ⟨⟨k00, k01, k02⟩, _⟩ := blk_three HP.out.blk
            have z0 := blk_lt HP.out.blk
            obtain ⟨⟨k10, k11, k12⟩, _⟩ := blk_three HQ.out.blk
            have z1 := blk_lt HQ.out.blk
            go_wp2_with fail
            refine (S1.out _ _ _ _ _ HP.out.u HQ.out.u).mono ?_
            rintro e9 w9 ⟨rfl, hb⟩
            replace HX := hid (HX.out.below hb)
            replace HY := hid (HY.out.below hb)
            replace HP := hid (HP.out.below hb)
            replace HQ := hid (HQ.out.below hb)
            replace HB := hid (below_trans HB.out hb)
            clear hb k00 k01 k02 k10 k11 k12 z0 z1
            go_wp2
            go_ret
            exact ⟨rfl, HB.out⟩

end Go.Proofs.YtphdncifcljmpaaGreatDoor
