/- The law QuotRems: the walk. Printed by gen_quot. -/
import Derived.Test.YtiblmkecipoanaaGreatDoorQuotO
import Derived.Test.YtiblmkecipoanaaGreatDoorRef3G
import Derived.Deep.CutBlock
namespace Go.Proofs.YtiblmkecipoanaaGreatDoor
open Go.RowKit

set_option maxRecDepth 100000 in
set_option maxHeartbeats 6400000 in
theorem law_QuotRems (g : Bool) (a : Option Addr) (cap : Nat) (e : Int) (xs : List Nat) (g2 : Bool) (a2 : Option Addr) (cap2 : Nat) (e2 : Int) (ys : List Nat) (w : World) (h : U32 w a xs) (h2 : U32 w a2 ys) (htab : Pow w) :
    Calls Tryz.prog 4 #[.agg #[.bool g, .slice a xs.length cap, .int .i64 e], .agg #[.bool g2, .slice a2 ys.length cap2, .int .i64 e2]] w fun en w' => en = .returned (.bool true) ∧ Below w.heap.size w w' := by
  obtain ⟨ex, x, ix, tx, vx⟩ := is_arg g xs e
  obtain ⟨ey, y, iy, ty, vy⟩ := is_arg g2 ys e2
  have C0 := fun W (hp : Pow W) => law3_shown W hp
  have C1 := fun W b c b2 c2 (h1 : U32 W b xs) (h2 : U32 W b2 ys) (hp : Pow W) => q_Rem W b c b2 c2 ix iy h1 h2 hp
  have C2 := fun W b c b2 c2 (h1 : U32 W b xs) (h2 : U32 W b2 ys) (_hp : Pow W) => ref3_Rem W b c b2 c2 ix iy h1 h2
  have gd : IsPlain (remR (bothE ex ey) x y).1 ∧ fitsB (remR (bothE ex ey) x y).1 = true := rem_good
  obtain ⟨d, hd⟩ : ∃ d, d = (remR (bothE ex ey) x y).1 := ⟨_, rfl⟩
  obtain ⟨k, hk⟩ : ∃ d, d = (remR (bothE ex ey) x y).2 := ⟨_, rfl⟩
  rw [← hd, ← hk] at C1 C2
  rw [← hd] at gd
  have S0 := fun W b c b2 c2 (h1 : U32 W b (Num.limbs d.m)) (h2 : U32 W b2 (Num.limbs d.m)) (_hp : Pow W) => q_same W b c b2 c2 true d d (by simp) gd h1 h2
  have heq : ((k : Int) == (k : Int)) = true := by simp
  replace C0 := hid C0
  replace C1 := hid C1
  replace C2 := hid C2
  replace S0 := hid S0
  have HTAB := hid htab
  have HX0 := hid h
  have HY0 := hid h2
  clear htab h h2 ix iy tx ty vx vy hd hk gd
  go_enter Tryz.func4, Tryz.ntmps4
  go_upto_region 1 with fail
  go_cut [5] from 10 (fun v w' => v = .bool true ∧ HasD w' (w.heap.size) g xs e a cap ∧ HasD w' (w.heap.size + 1) g2 ys e2 a2 cap2 ∧ Below w.heap.size w w')
  case first =>
    as_aux_lemma =>
      go_wp2_with fail
      refine (C0.out _ ((HTAB.out.alloc _).alloc _)).mono ?_
      rintro e1 w1 ⟨rfl, hb1⟩
      have HB1 := hid hb1
      clear hb1
      go_wp2_with fail
      go_meet
      case rel => exact ⟨rfl, boxed2 HX0.out HY0.out HB1.out⟩
  case rest =>
    obtain ⟨rfl, hX, hY, hb⟩ := hcut
    have HX := hid hX
    have HY := hid hY
    have HB := hid hb
    clear hb hX hY HX0 HY0 C0
    go_upto_region 2 with fail
    go_cut [6, 7] from 10 (fun v e w' => ∃ N b c, v = .pointer (some ⟨N, 0, none⟩) ∧ e = .int .i64 (k : Nat) ∧ HasD w' N d.neg (Num.limbs d.m) d.e b c ∧ Below wc.heap.size wc w')
    case first =>
      as_aux_lemma =>
        obtain ⟨⟨k00, k01, k02⟩, _⟩ := blk_three HX.out.blk
        have z0 := blk_lt HX.out.blk
        obtain ⟨⟨k10, k11, k12⟩, _⟩ := blk_three HY.out.blk
        have z1 := blk_lt HY.out.blk
        go_wp2_with fail
        refine (C1.out _ _ _ _ _ HX.out.u HY.out.u (HTAB.out.next HB.out)).mono ?_
        rintro e1 w1 ⟨b1, c1, rfl, ho⟩
        have HO := hid ho
        clear ho
        unfold decV
        go_wp2_with fail
        go_meet
        case rel => exact ⟨w1.heap.size, b1, c1, rfl, rfl, HasD.new HO.out.inD, HO.out.1.alloc HO.out.1.size _⟩
    case rest =>
      obtain ⟨NP, bP, cP, rfl, rfl, hP, hb⟩ := hcut
      replace HX := hid (HX.out.below hb)
      replace HY := hid (HY.out.below hb)
      replace HB := hid (below_trans HB.out hb)
      clear hb
      have HP := hid hP
      clear hP
      go_upto_region 3 with fail
      go_cut [8, 9] from 10 (fun v e w' => ∃ N b c, v = .pointer (some ⟨N, 0, none⟩) ∧ e = .int .i64 (k : Nat) ∧ HasD w' N d.neg (Num.limbs d.m) d.e b c ∧ Below wc.heap.size wc w')
      case first =>
        as_aux_lemma =>
          obtain ⟨⟨k00, k01, k02⟩, _⟩ := blk_three HX.out.blk
          have z0 := blk_lt HX.out.blk
          obtain ⟨⟨k10, k11, k12⟩, _⟩ := blk_three HY.out.blk
          have z1 := blk_lt HY.out.blk
          go_wp2_with fail
          refine (C2.out _ _ _ _ _ HX.out.u HY.out.u (HTAB.out.next HB.out)).mono ?_
          rintro e1 w1 ⟨b1, c1, rfl, ho⟩
          have HO := hid ho
          clear ho
          unfold decV
          go_wp2_with fail
          go_meet
          case rel => exact ⟨w1.heap.size, b1, c1, rfl, rfl, HasD.new HO.out.inD, HO.out.1.alloc HO.out.1.size _⟩
      case rest =>
        obtain ⟨NQ, bQ, cQ, rfl, rfl, hQ, hb⟩ := hcut
        replace HX := hid (HX.out.below hb)
        replace HY := hid (HY.out.below hb)
        replace HP := hid (HP.out.below hb)
        replace HB := hid (below_trans HB.out hb)
        clear hb
        have HQ := hid hQ
        clear hQ
        clear HX HY
        obtain ⟨⟨k00, k01, k02⟩, _⟩ := blk_three HP.out.blk
        have z0 := blk_lt HP.out.blk
        obtain ⟨⟨k10, k11, k12⟩, _⟩ := blk_three HQ.out.blk
        have z1 := blk_lt HQ.out.blk
        go_wp2_with fail
        refine (S0.out _ _ _ _ _ HP.out.u HQ.out.u (HTAB.out.next HB.out)).mono ?_
        rintro e1 w1 ⟨rfl, hb⟩
        have HW := hid hb
        replace HP := hid (HP.out.below hb)
        replace HQ := hid (HQ.out.below hb)
        replace HB := hid (below_trans HB.out hb)
        clear hb
        clear k00 k01 k02 z0
        clear k10 k11 k12 z1
        go_wp2
        go_ret
        exact ⟨rfl, HB.out⟩

end Go.Proofs.YtiblmkecipoanaaGreatDoor
