/- The law DecSums: the walk. Printed by lawgen. -/
import Derived.Test.YtphdncifcljmpaaGreatDoorLawLib
import Derived.Test.YtphdncifcljmpaaGreatDoorRefQ
import Derived.Deep.CutBlock
namespace Go.Proofs.YtphdncifcljmpaaGreatDoor
open Go.RowKit

set_option maxRecDepth 100000 in
set_option maxHeartbeats 3200000 in
theorem law_DecSums (g : Bool) (a : Option Addr) (cap : Nat) (e : Int) (xs : List Nat) (g2 : Bool) (a2 : Option Addr) (cap2 : Nat) (e2 : Int) (ys : List Nat) (w : World) (h : U32 w a xs) (h2 : U32 w a2 ys) (htab : Pow w) :
    Calls Tryz.prog 9 #[.agg #[.bool g, .slice a xs.length cap, .int .i64 e], .agg #[.bool g2, .slice a2 ys.length cap2, .int .i64 e2]] w fun en w' => en = .returned (.bool true) ∧ Below w.heap.size w w' := by
  obtain ⟨ex, x, ix, tx, _⟩ := is_arg g xs e
  obtain ⟨ey, y, iy, ty, _⟩ := is_arg g2 ys e2
  have gs := bin_good (er := bothE ex ey) (sumD_plain x y)
  have gp := bin_good (er := bothE ex ey) (prod_plain x y)
  have C0 := fun W (hp : Pow W) => law2_shown W hp
  have C1 := fun W b c b2 c2 (h1 : U32 W b xs) (h2 : U32 W b2 ys) (hp : Pow W) => c_Add W b c b2 c2 ix iy h1 h2 hp
  have C2 := fun W b c b2 c2 (h1 : U32 W b xs) (h2 : U32 W b2 ys) (hp : Pow W) => ref2_Add W b c b2 c2 ix iy h1 h2
  have C3 := fun W b c b2 c2 (h1 : U32 W b xs) (h2 : U32 W b2 ys) (hp : Pow W) => c_Mul W b c b2 c2 ix iy h1 h2 hp
  have C4 := fun W b c b2 c2 (h1 : U32 W b xs) (h2 : U32 W b2 ys) (hp : Pow W) => ref2_Mul W b c b2 c2 ix iy h1 h2
  obtain ⟨s, hs⟩ : ∃ r, r = binR (bothE ex ey) (addR x y) := ⟨_, rfl⟩
  obtain ⟨p, hp⟩ : ∃ r, r = binR (bothE ex ey) (mulR x y) := ⟨_, rfl⟩
  rw [← hs] at C1 C2
  rw [← hp] at C3 C4
  rw [show binR (bothE ex ey) (tellR (sumD x y)) = s from hs.symm] at gs
  rw [show binR (bothE ex ey) (tellR (prodD x y)) = p from hp.symm] at gp
  have S1 := fun W b c b2 c2 (h1 : U32 W b (Num.limbs s.1.m)) (h2 : U32 W b2 (Num.limbs s.1.m)) => c_same W b c b2 c2 s.1 s.1 gs h1 h2
  have S2 := fun W b c b2 c2 (h1 : U32 W b (Num.limbs p.1.m)) (h2 : U32 W b2 (Num.limbs p.1.m)) => c_same W b c b2 c2 p.1 p.1 gp h1 h2
  simp only [decide_true] at S1 S2
  replace C0 := hid C0
  replace C1 := hid C1
  replace C2 := hid C2
  replace C3 := hid C3
  replace C4 := hid C4
  replace S1 := hid S1
  replace S2 := hid S2
  have HTAB := hid htab
  have HX0 := hid h
  have HY0 := hid h2
  clear h h2 htab hs hp gs gp ix iy tx ty
  go_enter Tryz.func9, Tryz.ntmps9
  go_upto_region 1 with fail
  go_cut [5] from 14 (fun v w' => v = .bool true ∧ HasD w' (w.heap.size) g xs e a cap ∧ HasD w' (w.heap.size + 1) g2 ys e2 a2 cap2 ∧ Below w.heap.size w w')
  case first =>
    as_aux_lemma =>
      go_wp2_with fail
      refine (C0.out _ ((HTAB.out.alloc _).alloc _)).mono ?_
      rintro e1 w1 ⟨rfl, hb1⟩
      have HB1 := hid hb1
      clear hb1
      go_wp2_with fail
      go_meet
      case rel => exact ⟨rfl, boxed2 HX0.out HY0.out HB1.out⟩
  case rest =>
    obtain ⟨rfl, hX, hY, hb⟩ := hcut
    have HX := hid hX
    have HY := hid hY
    have HB := hid hb
    clear hb hX hY HX0 HY0 C0
    go_upto_region 2 with fail
    go_cut [6, 7] from 14 (fun v e w' => ∃ N b c, v = .pointer (some ⟨N, 0, none⟩) ∧ e = .int .i64 (s.2 : Nat) ∧ HasD w' N s.1.neg (Num.limbs s.1.m) s.1.e b c ∧ Below wc.heap.size wc w')
    case first =>
      as_aux_lemma =>
        obtain ⟨⟨k00, k01, k02⟩, _⟩ := blk_three HX.out.blk
        have z0 := blk_lt HX.out.blk
        obtain ⟨⟨k10, k11, k12⟩, _⟩ := blk_three HY.out.blk
        have z1 := blk_lt HY.out.blk
        go_wp2_with fail
        refine (C1.out _ _ _ _ _ HX.out.u HY.out.u (HTAB.out.next HB.out)).mono ?_
        rintro e1 w1 ⟨b1, c1, rfl, ho⟩
        have HO := hid ho
        clear ho
        unfold decV
        go_wp2_with fail
        go_meet
        case rel => exact ⟨w1.heap.size, b1, c1, rfl, rfl, HasD.new HO.out.inD, HO.out.1.alloc HO.out.1.size _⟩
    case rest =>
      obtain ⟨NP, bP, cP, rfl, rfl, hP, hb⟩ := hcut
      replace HX := hid (HX.out.below hb)
      replace HY := hid (HY.out.below hb)
      replace HB := hid (below_trans HB.out hb)
      clear hb
      have HP := hid hP
      clear hP
      go_upto_region 3 with fail
      go_cut [8, 9] from 14 (fun v e w' => ∃ N b c, v = .pointer (some ⟨N, 0, none⟩) ∧ e = .int .i64 (s.2 : Nat) ∧ HasD w' N s.1.neg (Num.limbs s.1.m) s.1.e b c ∧ Below wc.heap.size wc w')
      case first =>
        as_aux_lemma =>
          obtain ⟨⟨k00, k01, k02⟩, _⟩ := blk_three HX.out.blk
          have z0 := blk_lt HX.out.blk
          obtain ⟨⟨k10, k11, k12⟩, _⟩ := blk_three HY.out.blk
          have z1 := blk_lt HY.out.blk
          go_wp2_with fail
          refine (C2.out _ _ _ _ _ HX.out.u HY.out.u (HTAB.out.next HB.out)).mono ?_
          rintro e1 w1 ⟨b1, c1, rfl, ho⟩
          have HO := hid ho
          clear ho
          unfold decV
          go_wp2_with fail
          go_meet
          case rel => exact ⟨w1.heap.size, b1, c1, rfl, rfl, HasD.new HO.out.inD, HO.out.1.alloc HO.out.1.size _⟩
      case rest =>
        obtain ⟨NQ, bQ, cQ, rfl, rfl, hQ, hb⟩ := hcut
        replace HX := hid (HX.out.below hb)
        replace HY := hid (HY.out.below hb)
        replace HP := hid (HP.out.below hb)
        replace HB := hid (below_trans HB.out hb)
        clear hb
        have HQ := hid hQ
        clear hQ
        go_upto_region 4 with fail
        go_cut [10, 11] from 14 (fun v e w' => ∃ N b c, v = .pointer (some ⟨N, 0, none⟩) ∧ e = .int .i64 (p.2 : Nat) ∧ HasD w' N p.1.neg (Num.limbs p.1.m) p.1.e b c ∧ Below wc.heap.size wc w')
        case first =>
          as_aux_lemma =>
            obtain ⟨⟨k00, k01, k02⟩, _⟩ := blk_three HX.out.blk
            have z0 := blk_lt HX.out.blk
            obtain ⟨⟨k10, k11, k12⟩, _⟩ := blk_three HY.out.blk
            have z1 := blk_lt HY.out.blk
            go_wp2_with fail
            refine (C3.out _ _ _ _ _ HX.out.u HY.out.u (HTAB.out.next HB.out)).mono ?_
            rintro e1 w1 ⟨b1, c1, rfl, ho⟩
            have HO := hid ho
            clear ho
            unfold decV
            go_wp2_with fail
            go_meet
            case rel => exact ⟨w1.heap.size, b1, c1, rfl, rfl, HasD.new HO.out.inD, HO.out.1.alloc HO.out.1.size _⟩
        case rest =>
          obtain ⟨NR, bR, cR, rfl, rfl, hR, hb⟩ := hcut
          replace HX := hid (HX.out.below hb)
          replace HY := hid (HY.out.below hb)
          replace HP := hid (HP.out.below hb)
          replace HQ := hid (HQ.out.below hb)
          replace HB := hid (below_trans HB.out hb)
          clear hb
          have HR := hid hR
          clear hR
          go_upto_region 5 with fail
          go_cut [12, 13] from 14 (fun v e w' => ∃ N b c, v = .pointer (some ⟨N, 0, none⟩) ∧ e = .int .i64 (p.2 : Nat) ∧ HasD w' N p.1.neg (Num.limbs p.1.m) p.1.e b c ∧ Below wc.heap.size wc w')
          case first =>
            as_aux_lemma =>
              obtain ⟨⟨k00, k01, k02⟩, _⟩ := blk_three HX.out.blk
              have z0 := blk_lt HX.out.blk
              obtain ⟨⟨k10, k11, k12⟩, _⟩ := blk_three HY.out.blk
              have z1 := blk_lt HY.out.blk
              go_wp2_with fail
              refine (C4.out _ _ _ _ _ HX.out.u HY.out.u (HTAB.out.next HB.out)).mono ?_
              rintro e1 w1 ⟨b1, c1, rfl, ho⟩
              have HO := hid ho
              clear ho
              unfold decV
              go_wp2_with fail
              go_meet
              case rel => exact ⟨w1.heap.size, b1, c1, rfl, rfl, HasD.new HO.out.inD, HO.out.1.alloc HO.out.1.size _⟩
          case rest =>
            obtain ⟨NS, bS, cS, rfl, rfl, hS, hb⟩ := hcut
            replace HX := hid (HX.out.below hb)
            replace HY := hid (HY.out.below hb)
            replace HP := hid (HP.out.below hb)
            replace HQ := hid (HQ.out.below hb)
            replace HR := hid (HR.out.below hb)
            replace HB := hid (below_trans HB.out hb)
            clear hb
            have HS := hid hS
            clear hS
            obtain ⟨⟨k00, k01, k02⟩, _⟩ := blk_three HP.out.blk
            have z0 := blk_lt HP.out.blk
            obtain ⟨⟨k10, k11, k12⟩, _⟩ := blk_three HQ.out.blk
            have z1 := blk_lt HQ.out.blk
            go_wp2_with fail
            refine (S1.out _ _ _ _ _ HP.out.u HQ.out.u).mono ?_
            rintro e9 w9 ⟨rfl, hb⟩
            replace HX := hid (HX.out.below hb)
            replace HY := hid (HY.out.below hb)
            replace HP := hid (HP.out.below hb)
            replace HQ := hid (HQ.out.below hb)
            replace HR := hid (HR.out.below hb)
            replace HS := hid (HS.out.below hb)
            replace HB := hid (below_trans HB.out hb)
            clear hb k00 k01 k02 k10 k11 k12 z0 z1
            obtain ⟨⟨k00, k01, k02⟩, _⟩ := blk_three HR.out.blk
            have z0 := blk_lt HR.out.blk
            obtain ⟨⟨k10, k11, k12⟩, _⟩ := blk_three HS.out.blk
            have z1 := blk_lt HS.out.blk
            go_wp2_with fail
            refine (S2.out _ _ _ _ _ HR.out.u HS.out.u).mono ?_
            rintro e9 w9 ⟨rfl, hb⟩
            replace HX := hid (HX.out.below hb)
            replace HY := hid (HY.out.below hb)
            replace HP := hid (HP.out.below hb)
            replace HQ := hid (HQ.out.below hb)
            replace HR := hid (HR.out.below hb)
            replace HS := hid (HS.out.below hb)
            replace HB := hid (below_trans HB.out hb)
            clear hb k00 k01 k02 k10 k11 k12 z0 z1
            go_wp2
            go_ret
            exact ⟨rfl, HB.out⟩

end Go.Proofs.YtphdncifcljmpaaGreatDoor
