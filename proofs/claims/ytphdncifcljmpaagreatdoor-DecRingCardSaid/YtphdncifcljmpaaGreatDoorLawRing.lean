/- The law DecRing: the walk. Printed by lawgen. -/
import Derived.Test.YtphdncifcljmpaaGreatDoorLawLib
import Derived.Deep.CutBlock
namespace Go.Proofs.YtphdncifcljmpaaGreatDoor
open Go.RowKit

set_option maxRecDepth 100000 in
set_option maxHeartbeats 6400000 in
theorem law_DecRing (g : Bool) (a : Option Addr) (cap : Nat) (e : Int) (xs : List Nat) (g2 : Bool) (a2 : Option Addr) (cap2 : Nat) (e2 : Int) (ys : List Nat) (g3 : Bool) (a3 : Option Addr) (cap3 : Nat) (e3 : Int) (zs : List Nat) (w : World) (h : U32 w a xs) (h2 : U32 w a2 ys) (h3 : U32 w a3 zs) (htab : Pow w) :
    Calls Tryz.prog 10 #[.agg #[.bool g, .slice a xs.length cap, .int .i64 e], .agg #[.bool g2, .slice a2 ys.length cap2, .int .i64 e2], .agg #[.bool g3, .slice a3 zs.length cap3, .int .i64 e3]] w fun en w' => en = .returned (.bool true) ∧ Below w.heap.size w w' := by
  obtain ⟨ex, x, ix, tx, vx⟩ := is_arg g xs e
  obtain ⟨ey, y, iy, ty, vy⟩ := is_arg g2 ys e2
  obtain ⟨ez, z, iz, tz, vz⟩ := is_arg g3 zs e3
  have gab := bin_good (er := bothE ex ey) (sumD_plain x y)
  have gp := bin_good (er := bothE ex ey) (prod_plain x y)
  have gac := bin_good (er := bothE ex ez) (prod_plain x z)
  have gbc := bin_good (er := bothE ey ez) (prod_plain y z)
  have lab := bin_le (d := sumD x y) (bothE_le tx.le ty.le)
  have lac := bin_le (d := prodD x z) (bothE_le tx.le tz.le)
  have lbc := bin_le (d := prodD y z) (bothE_le ty.le tz.le)
  have cm := ring_comm tx.good ty.good (bothE_comm tx ty vx vy)
  have gn : IsPlain (negD y) ∧ fitsB (negD y) = true := ⟨neg_plain ty.good.1, neg_fits ty.good.2⟩
  have fback := ring_back tx ty
  obtain ⟨ab, hab⟩ : ∃ r, r = binR (bothE ex ey) (addR x y) := ⟨_, rfl⟩
  obtain ⟨p, hp⟩ : ∃ r, r = binR (bothE ex ey) (mulR x y) := ⟨_, rfl⟩
  obtain ⟨ac, hac⟩ : ∃ r, r = binR (bothE ex ez) (mulR x z) := ⟨_, rfl⟩
  obtain ⟨bc, hbc⟩ : ∃ r, r = binR (bothE ey ez) (mulR y z) := ⟨_, rfl⟩
  have fdist := fun one two e4 e5 => ring_dist (one := one) (two := two) tx ty tz hab hac hbc e4 e5
  rw [← hab] at fback
  rw [show binR (bothE ex ey) (tellR (sumD x y)) = ab from hab.symm] at gab lab
  rw [show binR (bothE ex ey) (tellR (prodD x y)) = p from hp.symm] at gp
  rw [show binR (bothE ex ez) (tellR (prodD x z)) = ac from hac.symm] at gac lac
  rw [show binR (bothE ey ez) (tellR (prodD y z)) = bc from hbc.symm] at gbc lbc
  have gone := bin_good (er := bothE 0 ez) (prod_plain ab.1 z)
  have lone := bin_le (d := prodD ab.1 z) (bothE_le (Nat.zero_le 3) tz.le)
  have gback := bin_good (er := bothE 0 0) (sumD_plain ab.1 (negD y))
  have ltwo := bin_le (d := sumD ac.1 bc.1) (bothE_le (Nat.zero_le 3) (Nat.zero_le 3))
  obtain ⟨one, hone⟩ : ∃ r, r = binR (bothE 0 ez) (mulR ab.1 z) := ⟨_, rfl⟩
  obtain ⟨two, htwo⟩ : ∃ r, r = binR (bothE 0 0) (addR ac.1 bc.1) := ⟨_, rfl⟩
  obtain ⟨back, hback⟩ : ∃ r, r = binR (bothE 0 0) (addR ab.1 (negD y)) := ⟨_, rfl⟩
  replace fdist := fdist one two hone htwo
  rw [← hback] at fback
  rw [show binR (bothE 0 ez) (tellR (prodD ab.1 z)) = one from hone.symm] at gone lone
  rw [show binR (bothE 0 0) (tellR (sumD ac.1 bc.1)) = two from htwo.symm] at ltwo
  rw [show binR (bothE 0 0) (tellR (sumD ab.1 (negD y))) = back from hback.symm] at gback
  have C0 := fun W (hp : Pow W) => law2_shown W hp
  have C1 := fun W b c b2 c2 (h1 : U32 W b xs) (h2 : U32 W b2 ys) (hp : Pow W) => c_Add W b c b2 c2 ix iy h1 h2 hp
  have C2 := fun W b c b2 c2 (h1 : U32 W b ys) (h2 : U32 W b2 xs) (hp : Pow W) => c_Add W b c b2 c2 iy ix h1 h2 hp
  have C3 := fun W b c b2 c2 (h1 : U32 W b xs) (h2 : U32 W b2 ys) (hp : Pow W) => c_Mul W b c b2 c2 ix iy h1 h2 hp
  have C4 := fun W b c b2 c2 (h1 : U32 W b ys) (h2 : U32 W b2 xs) (hp : Pow W) => c_Mul W b c b2 c2 iy ix h1 h2 hp
  have C5 := fun W b c (h1 : U32 W b ys) (hp : Pow W) => c_Neg W b c iy h1 hp
  have C6 := fun W b c b2 c2 (h1 : U32 W b (Num.limbs ab.1.m)) (h2 : U32 W b2 (Num.limbs (negD y).m)) (hp : Pow W) => c_Add W b c b2 c2 (is_own gab) (is_own gn) h1 h2 hp
  have C7 := fun W b c (h1 : U32 W b xs) (hp : Pow W) => c_Norm W b c ix h1 hp
  have C8 := fun W b c b2 c2 (h1 : U32 W b xs) (h2 : U32 W b2 zs) (hp : Pow W) => c_Mul W b c b2 c2 ix iz h1 h2 hp
  have C9 := fun W b c b2 c2 (h1 : U32 W b ys) (h2 : U32 W b2 zs) (hp : Pow W) => c_Mul W b c b2 c2 iy iz h1 h2 hp
  have C10 := fun W b c b2 c2 (h1 : U32 W b (Num.limbs ab.1.m)) (h2 : U32 W b2 zs) (hp : Pow W) => c_Mul W b c b2 c2 (is_own gab) iz h1 h2 hp
  have C11 := fun W b c b2 c2 (h1 : U32 W b (Num.limbs ac.1.m)) (h2 : U32 W b2 (Num.limbs bc.1.m)) (hp : Pow W) => c_Add W b c b2 c2 (is_own gac) (is_own gbc) h1 h2 hp
  rw [← hab] at C1
  rw [← cm.1, ← hab] at C2
  rw [← hp] at C3
  rw [← cm.2, ← hp] at C4
  rw [← hback] at C6
  rw [← hac] at C8
  rw [← hbc] at C9
  rw [← hone] at C10
  rw [← htwo] at C11
  have S1 := fun W b c b2 c2 (h1 : U32 W b (Num.limbs ab.1.m)) (h2 : U32 W b2 (Num.limbs ab.1.m)) => c_same W b c b2 c2 ab.1 ab.1 gab h1 h2
  have S2 := fun W b c b2 c2 (h1 : U32 W b (Num.limbs p.1.m)) (h2 : U32 W b2 (Num.limbs p.1.m)) => c_same W b c b2 c2 p.1 p.1 gp h1 h2
  have S3 := fun (hq : back.1 = x) W b c b2 c2 (h1 : U32 W b (Num.limbs back.1.m)) (h2 : U32 W b2 (Num.limbs x.m)) => c_same W b c b2 c2 back.1 x gback h1 h2
  have S4 := fun (hq : one.1 = two.1) W b c b2 c2 (h1 : U32 W b (Num.limbs one.1.m)) (h2 : U32 W b2 (Num.limbs two.1.m)) => c_same W b c b2 c2 one.1 two.1 gone h1 h2
  simp only [decide_true] at S1 S2
  replace S3 := fun hq => by have := S3 hq; rw [decide_eq_true hq] at this; exact this
  replace S4 := fun hq => by have := S4 hq; rw [decide_eq_true hq] at this; exact this
  have hn : ey ≤ 3 := ty.le
  obtain ⟨n, hneg⟩ : ∃ n, n = negD y := ⟨_, rfl⟩
  rw [← hneg] at C5 C6
  replace C0 := hid C0
  replace C1 := hid C1
  replace C2 := hid C2
  replace C3 := hid C3
  replace C4 := hid C4
  replace C5 := hid C5
  replace C6 := hid C6
  replace C7 := hid C7
  replace C8 := hid C8
  replace C9 := hid C9
  replace C10 := hid C10
  replace C11 := hid C11
  replace S1 := hid S1
  replace S2 := hid S2
  replace S3 := hid S3
  replace S4 := hid S4
  replace fback := hid fback
  replace fdist := hid fdist
  have HTAB := hid htab
  have HX0 := hid h
  have HY0 := hid h2
  have HZ0 := hid h3
  clear htab h h2 h3 gab gp gac gbc gone gback gn cm hab hp hac hbc hone htwo hback hneg ix iy iz tx ty tz vx vy vz
  go_enter Tryz.func10, Tryz.ntmps10
  go_upto_region 1 with fail
  go_cut [7] from 30 (fun v w' => v = .bool true ∧ HasD w' (w.heap.size) g xs e a cap ∧ HasD w' (w.heap.size + 1) g2 ys e2 a2 cap2 ∧ HasD w' (w.heap.size + 1 + 1) g3 zs e3 a3 cap3 ∧ Below w.heap.size w w')
  case first =>
    go_wp2_with fail
    refine (C0.out _ (((HTAB.out.alloc _).alloc _).alloc _)).mono ?_
    rintro e1 w1 ⟨rfl, hb1⟩
    have HB1 := hid hb1
    clear hb1
    go_wp2_with fail
    go_meet
    case rel => exact ⟨rfl, boxed3 HX0.out HY0.out HZ0.out HB1.out⟩
  case rest =>
    obtain ⟨rfl, hX, hY, hZ, hb⟩ := hcut
    have HX := hid hX
    have HY := hid hY
    have HZ := hid hZ
    have HB := hid hb
    clear hb hX hY hZ HX0 HY0 HZ0 C0
    go_upto_region 2 with fail
    go_cut [8, 9] from 30 (fun v e w' => ∃ N b c, v = .pointer (some ⟨N, 0, none⟩) ∧ e = .int .i64 (ab.2 : Nat) ∧ HasD w' N ab.1.neg (Num.limbs ab.1.m) ab.1.e b c ∧ Below wc.heap.size wc w')
    case first =>
      obtain ⟨⟨k00, k01, k02⟩, _⟩ := blk_three HX.out.blk
      have z0 := blk_lt HX.out.blk
      obtain ⟨⟨k10, k11, k12⟩, _⟩ := blk_three HY.out.blk
      have z1 := blk_lt HY.out.blk
      go_wp2_with fail
      refine (C1.out _ _ _ _ _ HX.out.u HY.out.u (HTAB.out.next HB.out)).mono ?_
      rintro e1 w1 ⟨b1, c1, rfl, ho⟩
      have HO := hid ho
      clear ho
      unfold decV
      go_wp2_with fail
      go_meet
      case rel => exact ⟨w1.heap.size, b1, c1, rfl, rfl, HasD.new HO.out.inD, HO.out.1.alloc HO.out.1.size _⟩
    case rest =>
      obtain ⟨NAB, bAB, cAB, rfl, rfl, hAB, hb⟩ := hcut
      replace HX := hid (HX.out.below hb)
      replace HY := hid (HY.out.below hb)
      replace HZ := hid (HZ.out.below hb)
      replace HB := hid (below_trans HB.out hb)
      clear hb
      have HAB := hid hAB
      clear hAB
      go_upto_region 3 with fail
      go_cut [10, 11] from 30 (fun v e w' => ∃ N b c, v = .pointer (some ⟨N, 0, none⟩) ∧ e = .int .i64 (ab.2 : Nat) ∧ HasD w' N ab.1.neg (Num.limbs ab.1.m) ab.1.e b c ∧ Below wc.heap.size wc w')
      case first =>
        obtain ⟨⟨k00, k01, k02⟩, _⟩ := blk_three HY.out.blk
        have z0 := blk_lt HY.out.blk
        obtain ⟨⟨k10, k11, k12⟩, _⟩ := blk_three HX.out.blk
        have z1 := blk_lt HX.out.blk
        go_wp2_with fail
        refine (C2.out _ _ _ _ _ HY.out.u HX.out.u (HTAB.out.next HB.out)).mono ?_
        rintro e1 w1 ⟨b1, c1, rfl, ho⟩
        have HO := hid ho
        clear ho
        unfold decV
        go_wp2_with fail
        go_meet
        case rel => exact ⟨w1.heap.size, b1, c1, rfl, rfl, HasD.new HO.out.inD, HO.out.1.alloc HO.out.1.size _⟩
      case rest =>
        obtain ⟨NBA, bBA, cBA, rfl, rfl, hBA, hb⟩ := hcut
        replace HX := hid (HX.out.below hb)
        replace HY := hid (HY.out.below hb)
        replace HZ := hid (HZ.out.below hb)
        replace HAB := hid (HAB.out.below hb)
        replace HB := hid (below_trans HB.out hb)
        clear hb
        have HBA := hid hBA
        clear hBA
        go_upto_region 4 with fail
        go_cut [12, 13] from 30 (fun v e w' => ∃ N b c, v = .pointer (some ⟨N, 0, none⟩) ∧ e = .int .i64 (p.2 : Nat) ∧ HasD w' N p.1.neg (Num.limbs p.1.m) p.1.e b c ∧ Below wc.heap.size wc w')
        case first =>
          obtain ⟨⟨k00, k01, k02⟩, _⟩ := blk_three HX.out.blk
          have z0 := blk_lt HX.out.blk
          obtain ⟨⟨k10, k11, k12⟩, _⟩ := blk_three HY.out.blk
          have z1 := blk_lt HY.out.blk
          go_wp2_with fail
          refine (C3.out _ _ _ _ _ HX.out.u HY.out.u (HTAB.out.next HB.out)).mono ?_
          rintro e1 w1 ⟨b1, c1, rfl, ho⟩
          have HO := hid ho
          clear ho
          unfold decV
          go_wp2_with fail
          go_meet
          case rel => exact ⟨w1.heap.size, b1, c1, rfl, rfl, HasD.new HO.out.inD, HO.out.1.alloc HO.out.1.size _⟩
        case rest =>
          obtain ⟨NP, bP, cP, rfl, rfl, hP, hb⟩ := hcut
          replace HX := hid (HX.out.below hb)
          replace HY := hid (HY.out.below hb)
          replace HZ := hid (HZ.out.below hb)
          replace HAB := hid (HAB.out.below hb)
          replace HBA := hid (HBA.out.below hb)
          replace HB := hid (below_trans HB.out hb)
          clear hb
          have HP := hid hP
          clear hP
          go_upto_region 5 with fail
          go_cut [14, 15] from 30 (fun v e w' => ∃ N b c, v = .pointer (some ⟨N, 0, none⟩) ∧ e = .int .i64 (p.2 : Nat) ∧ HasD w' N p.1.neg (Num.limbs p.1.m) p.1.e b c ∧ Below wc.heap.size wc w')
          case first =>
            obtain ⟨⟨k00, k01, k02⟩, _⟩ := blk_three HY.out.blk
            have z0 := blk_lt HY.out.blk
            obtain ⟨⟨k10, k11, k12⟩, _⟩ := blk_three HX.out.blk
            have z1 := blk_lt HX.out.blk
            go_wp2_with fail
            refine (C4.out _ _ _ _ _ HY.out.u HX.out.u (HTAB.out.next HB.out)).mono ?_
            rintro e1 w1 ⟨b1, c1, rfl, ho⟩
            have HO := hid ho
            clear ho
            unfold decV
            go_wp2_with fail
            go_meet
            case rel => exact ⟨w1.heap.size, b1, c1, rfl, rfl, HasD.new HO.out.inD, HO.out.1.alloc HO.out.1.size _⟩
          case rest =>
            obtain ⟨NQ, bQ, cQ, rfl, rfl, hQ, hb⟩ := hcut
            replace HX := hid (HX.out.below hb)
            replace HY := hid (HY.out.below hb)
            replace HZ := hid (HZ.out.below hb)
            replace HAB := hid (HAB.out.below hb)
            replace HBA := hid (HBA.out.below hb)
            replace HP := hid (HP.out.below hb)
            replace HB := hid (below_trans HB.out hb)
            clear hb
            have HQ := hid hQ
            clear hQ
            go_upto_region 6 with fail
            go_cut [74] from 30 (fun v w' => v = .bool false ∧ Below wc.heap.size wc w')
            case first =>
              obtain ⟨⟨k00, k01, k02⟩, _⟩ := blk_three HAB.out.blk
              have z0 := blk_lt HAB.out.blk
              obtain ⟨⟨k10, k11, k12⟩, _⟩ := blk_three HBA.out.blk
              have z1 := blk_lt HBA.out.blk
              go_wp2_with fail
              refine (S1.out _ _ _ _ _ HAB.out.u HBA.out.u).mono ?_
              rintro e1 w1 ⟨rfl, hb1⟩
              have HP1 := hid (HP.out.below hb1)
              have HQ1 := hid (HQ.out.below hb1)
              have HB1 := hid hb1
              clear hb1 k00 k01 k02 k10 k11 k12 z0 z1
              obtain ⟨⟨k00, k01, k02⟩, _⟩ := blk_three HP1.out.blk
              have z0 := blk_lt HP1.out.blk
              obtain ⟨⟨k10, k11, k12⟩, _⟩ := blk_three HQ1.out.blk
              have z1 := blk_lt HQ1.out.blk
              go_wp2_with fail
              refine (S2.out _ _ _ _ _ HP1.out.u HQ1.out.u).mono ?_
              rintro e2 w2 ⟨rfl, hb2⟩
              have HB2 := hid (below_trans HB1.out hb2)
              clear hb2
              go_wp2_with fail
              go_meet
              case rel => exact ⟨rfl, HB2.out⟩
            case rest =>
              obtain ⟨rfl, hb⟩ := hcut
              replace HX := hid (HX.out.below hb)
              replace HY := hid (HY.out.below hb)
              replace HZ := hid (HZ.out.below hb)
              replace HAB := hid (HAB.out.below hb)
              replace HBA := hid (HBA.out.below hb)
              replace HP := hid (HP.out.below hb)
              replace HQ := hid (HQ.out.below hb)
              replace HB := hid (below_trans HB.out hb)
              clear hb
              clear HBA HP HQ
              go_upto_region 8 with fail
              go_cut [16, 17] from 30 (fun v e w' => ∃ N b c, v = .pointer (some ⟨N, 0, none⟩) ∧ e = .int .i64 (ey : Nat) ∧ HasD w' N n.neg (Num.limbs n.m) n.e b c ∧ Below wc.heap.size wc w')
              case first =>
                obtain ⟨⟨k00, k01, k02⟩, _⟩ := blk_three HY.out.blk
                have z0 := blk_lt HY.out.blk
                go_wp2_with fail
                refine (C5.out _ _ _ HY.out.u (HTAB.out.next HB.out)).mono ?_
                rintro e1 w1 ⟨b1, c1, rfl, ho⟩
                have HO := hid ho
                clear ho
                unfold decV
                go_wp2_with fail
                go_meet
                case rel => exact ⟨w1.heap.size, b1, c1, rfl, rfl, HasD.new HO.out.inD, HO.out.1.alloc HO.out.1.size _⟩
              case rest =>
                obtain ⟨NN, bN, cN, rfl, rfl, hN, hb⟩ := hcut
                replace HX := hid (HX.out.below hb)
                replace HY := hid (HY.out.below hb)
                replace HZ := hid (HZ.out.below hb)
                replace HAB := hid (HAB.out.below hb)
                replace HB := hid (below_trans HB.out hb)
                clear hb
                have HN := hid hN
                clear hN
                go_upto_region 9 with fail
                go_cut [18, 19] from 30 (fun v e w' => ∃ N b c, v = .pointer (some ⟨N, 0, none⟩) ∧ e = .int .i64 (back.2 : Nat) ∧ HasD w' N back.1.neg (Num.limbs back.1.m) back.1.e b c ∧ Below wc.heap.size wc w')
                case first =>
                  obtain ⟨⟨k00, k01, k02⟩, _⟩ := blk_three HAB.out.blk
                  have z0 := blk_lt HAB.out.blk
                  obtain ⟨⟨k10, k11, k12⟩, _⟩ := blk_three HN.out.blk
                  have z1 := blk_lt HN.out.blk
                  go_wp2_with fail
                  refine (C6.out _ _ _ _ _ HAB.out.u HN.out.u (HTAB.out.next HB.out)).mono ?_
                  rintro e1 w1 ⟨b1, c1, rfl, ho⟩
                  have HO := hid ho
                  clear ho
                  unfold decV
                  go_wp2_with fail
                  go_meet
                  case rel => exact ⟨w1.heap.size, b1, c1, rfl, rfl, HasD.new HO.out.inD, HO.out.1.alloc HO.out.1.size _⟩
                case rest =>
                  obtain ⟨NBK, bBK, cBK, rfl, rfl, hBK, hb⟩ := hcut
                  replace HX := hid (HX.out.below hb)
                  replace HY := hid (HY.out.below hb)
                  replace HZ := hid (HZ.out.below hb)
                  replace HAB := hid (HAB.out.below hb)
                  replace HN := hid (HN.out.below hb)
                  replace HB := hid (below_trans HB.out hb)
                  clear hb
                  have HBK := hid hBK
                  clear hBK
                  go_upto_region 10 with fail
                  go_cut [20, 21] from 30 (fun v e w' => ∃ N b c, v = .pointer (some ⟨N, 0, none⟩) ∧ e = .int .i64 (ex : Nat) ∧ HasD w' N x.neg (Num.limbs x.m) x.e b c ∧ Below wc.heap.size wc w')
                  case first =>
                    obtain ⟨⟨k00, k01, k02⟩, _⟩ := blk_three HX.out.blk
                    have z0 := blk_lt HX.out.blk
                    go_wp2_with fail
                    refine (C7.out _ _ _ HX.out.u (HTAB.out.next HB.out)).mono ?_
                    rintro e1 w1 ⟨b1, c1, rfl, ho⟩
                    have HO := hid ho
                    clear ho
                    unfold decV
                    go_wp2_with fail
                    go_meet
                    case rel => exact ⟨w1.heap.size, b1, c1, rfl, rfl, HasD.new HO.out.inD, HO.out.1.alloc HO.out.1.size _⟩
                  case rest =>
                    obtain ⟨NNX, bNX, cNX, rfl, rfl, hNX, hb⟩ := hcut
                    replace HX := hid (HX.out.below hb)
                    replace HY := hid (HY.out.below hb)
                    replace HZ := hid (HZ.out.below hb)
                    replace HAB := hid (HAB.out.below hb)
                    replace HN := hid (HN.out.below hb)
                    replace HBK := hid (HBK.out.below hb)
                    replace HB := hid (below_trans HB.out hb)
                    clear hb
                    have HNX := hid hNX
                    clear hNX
                    go_upto_region 11 with fail
                    go_cut [106] from 30 (fun v w' => v = .bool false ∧ Below wc.heap.size wc w')
                    case first =>
                      by_cases q1 : ab.2 = 0
                      · have i1 : ((ab.2 : Int) == 0) = true := by simp [q1]
                        by_cases q2 : ey = 0
                        · have i2 : ((ey : Int) == 0) = true := by simp [q2]
                          by_cases q3 : back.2 = 0
                          · have i3 : ((back.2 : Int) == 0) = true := by simp [q3]
                            have S3 := hid (S3.out (fback.out q1 q3))
                            clear q1 q2 q3
                            obtain ⟨⟨k00, k01, k02⟩, _⟩ := blk_three HBK.out.blk
                            have z0 := blk_lt HBK.out.blk
                            obtain ⟨⟨k10, k11, k12⟩, _⟩ := blk_three HNX.out.blk
                            have z1 := blk_lt HNX.out.blk
                            go_wp2_with fail
                            refine (S3.out _ _ _ _ _ HBK.out.u HNX.out.u).mono ?_
                            rintro e1 w1 ⟨rfl, hb1⟩
                            have HB1 := hid hb1
                            clear hb1
                            go_wp2_with fail
                            go_meet
                            case rel => exact ⟨rfl, HB1.out⟩
                          · have i3 : ((back.2 : Int) == 0) = false := by rw [beq_eq_false_iff_ne]; omega
                            clear q1 q2 q3
                            go_wp2_with fail
                            go_meet
                            case rel => exact ⟨rfl, Below.refl _ _⟩
                        · have i2 : ((ey : Int) == 0) = false := by rw [beq_eq_false_iff_ne]; omega
                          clear q1 q2
                          go_wp2_with fail
                          go_meet
                          case rel => exact ⟨rfl, Below.refl _ _⟩
                      · have i1 : ((ab.2 : Int) == 0) = false := by rw [beq_eq_false_iff_ne]; omega
                        clear q1
                        go_wp2_with fail
                        go_meet
                        case rel => exact ⟨rfl, Below.refl _ _⟩
                    case rest =>
                      obtain ⟨rfl, hb⟩ := hcut
                      replace HX := hid (HX.out.below hb)
                      replace HY := hid (HY.out.below hb)
                      replace HZ := hid (HZ.out.below hb)
                      replace HAB := hid (HAB.out.below hb)
                      replace HN := hid (HN.out.below hb)
                      replace HBK := hid (HBK.out.below hb)
                      replace HNX := hid (HNX.out.below hb)
                      replace HB := hid (below_trans HB.out hb)
                      clear hb
                      clear HN HBK HNX
                      go_upto_region 13 with fail
                      go_cut [22, 23] from 30 (fun v e w' => ∃ N b c, v = .pointer (some ⟨N, 0, none⟩) ∧ e = .int .i64 (ac.2 : Nat) ∧ HasD w' N ac.1.neg (Num.limbs ac.1.m) ac.1.e b c ∧ Below wc.heap.size wc w')
                      case first =>
                        obtain ⟨⟨k00, k01, k02⟩, _⟩ := blk_three HX.out.blk
                        have z0 := blk_lt HX.out.blk
                        obtain ⟨⟨k10, k11, k12⟩, _⟩ := blk_three HZ.out.blk
                        have z1 := blk_lt HZ.out.blk
                        go_wp2_with fail
                        refine (C8.out _ _ _ _ _ HX.out.u HZ.out.u (HTAB.out.next HB.out)).mono ?_
                        rintro e1 w1 ⟨b1, c1, rfl, ho⟩
                        have HO := hid ho
                        clear ho
                        unfold decV
                        go_wp2_with fail
                        go_meet
                        case rel => exact ⟨w1.heap.size, b1, c1, rfl, rfl, HasD.new HO.out.inD, HO.out.1.alloc HO.out.1.size _⟩
                      case rest =>
                        obtain ⟨NAC, bAC, cAC, rfl, rfl, hAC, hb⟩ := hcut
                        replace HX := hid (HX.out.below hb)
                        replace HY := hid (HY.out.below hb)
                        replace HZ := hid (HZ.out.below hb)
                        replace HAB := hid (HAB.out.below hb)
                        replace HB := hid (below_trans HB.out hb)
                        clear hb
                        have HAC := hid hAC
                        clear hAC
                        go_upto_region 14 with fail
                        go_cut [24, 25] from 30 (fun v e w' => ∃ N b c, v = .pointer (some ⟨N, 0, none⟩) ∧ e = .int .i64 (bc.2 : Nat) ∧ HasD w' N bc.1.neg (Num.limbs bc.1.m) bc.1.e b c ∧ Below wc.heap.size wc w')
                        case first =>
                          obtain ⟨⟨k00, k01, k02⟩, _⟩ := blk_three HY.out.blk
                          have z0 := blk_lt HY.out.blk
                          obtain ⟨⟨k10, k11, k12⟩, _⟩ := blk_three HZ.out.blk
                          have z1 := blk_lt HZ.out.blk
                          go_wp2_with fail
                          refine (C9.out _ _ _ _ _ HY.out.u HZ.out.u (HTAB.out.next HB.out)).mono ?_
                          rintro e1 w1 ⟨b1, c1, rfl, ho⟩
                          have HO := hid ho
                          clear ho
                          unfold decV
                          go_wp2_with fail
                          go_meet
                          case rel => exact ⟨w1.heap.size, b1, c1, rfl, rfl, HasD.new HO.out.inD, HO.out.1.alloc HO.out.1.size _⟩
                        case rest =>
                          obtain ⟨NBC, bBC, cBC, rfl, rfl, hBC, hb⟩ := hcut
                          replace HX := hid (HX.out.below hb)
                          replace HY := hid (HY.out.below hb)
                          replace HZ := hid (HZ.out.below hb)
                          replace HAB := hid (HAB.out.below hb)
                          replace HAC := hid (HAC.out.below hb)
                          replace HB := hid (below_trans HB.out hb)
                          clear hb
                          have HBC := hid hBC
                          clear hBC
                          go_upto_region 15 with fail
                          go_cut [26, 27] from 30 (fun v e w' => ∃ N b c, v = .pointer (some ⟨N, 0, none⟩) ∧ e = .int .i64 (one.2 : Nat) ∧ HasD w' N one.1.neg (Num.limbs one.1.m) one.1.e b c ∧ Below wc.heap.size wc w')
                          case first =>
                            obtain ⟨⟨k00, k01, k02⟩, _⟩ := blk_three HAB.out.blk
                            have z0 := blk_lt HAB.out.blk
                            obtain ⟨⟨k10, k11, k12⟩, _⟩ := blk_three HZ.out.blk
                            have z1 := blk_lt HZ.out.blk
                            go_wp2_with fail
                            refine (C10.out _ _ _ _ _ HAB.out.u HZ.out.u (HTAB.out.next HB.out)).mono ?_
                            rintro e1 w1 ⟨b1, c1, rfl, ho⟩
                            have HO := hid ho
                            clear ho
                            unfold decV
                            go_wp2_with fail
                            go_meet
                            case rel => exact ⟨w1.heap.size, b1, c1, rfl, rfl, HasD.new HO.out.inD, HO.out.1.alloc HO.out.1.size _⟩
                          case rest =>
                            obtain ⟨NONE, bONE, cONE, rfl, rfl, hONE, hb⟩ := hcut
                            replace HX := hid (HX.out.below hb)
                            replace HY := hid (HY.out.below hb)
                            replace HZ := hid (HZ.out.below hb)
                            replace HAB := hid (HAB.out.below hb)
                            replace HAC := hid (HAC.out.below hb)
                            replace HBC := hid (HBC.out.below hb)
                            replace HB := hid (below_trans HB.out hb)
                            clear hb
                            have HONE := hid hONE
                            clear hONE
                            go_upto_region 16 with fail
                            go_cut [28, 29] from 30 (fun v e w' => ∃ N b c, v = .pointer (some ⟨N, 0, none⟩) ∧ e = .int .i64 (two.2 : Nat) ∧ HasD w' N two.1.neg (Num.limbs two.1.m) two.1.e b c ∧ Below wc.heap.size wc w')
                            case first =>
                              obtain ⟨⟨k00, k01, k02⟩, _⟩ := blk_three HAC.out.blk
                              have z0 := blk_lt HAC.out.blk
                              obtain ⟨⟨k10, k11, k12⟩, _⟩ := blk_three HBC.out.blk
                              have z1 := blk_lt HBC.out.blk
                              go_wp2_with fail
                              refine (C11.out _ _ _ _ _ HAC.out.u HBC.out.u (HTAB.out.next HB.out)).mono ?_
                              rintro e1 w1 ⟨b1, c1, rfl, ho⟩
                              have HO := hid ho
                              clear ho
                              unfold decV
                              go_wp2_with fail
                              go_meet
                              case rel => exact ⟨w1.heap.size, b1, c1, rfl, rfl, HasD.new HO.out.inD, HO.out.1.alloc HO.out.1.size _⟩
                            case rest =>
                              obtain ⟨NTWO, bTWO, cTWO, rfl, rfl, hTWO, hb⟩ := hcut
                              replace HX := hid (HX.out.below hb)
                              replace HY := hid (HY.out.below hb)
                              replace HZ := hid (HZ.out.below hb)
                              replace HAB := hid (HAB.out.below hb)
                              replace HAC := hid (HAC.out.below hb)
                              replace HBC := hid (HBC.out.below hb)
                              replace HONE := hid (HONE.out.below hb)
                              replace HB := hid (below_trans HB.out hb)
                              clear hb
                              have HTWO := hid hTWO
                              clear hTWO
                              by_cases q : ab.2 = 0 ∧ ac.2 = 0 ∧ bc.2 = 0 ∧ one.2 = 0 ∧ two.2 = 0
                              · obtain ⟨q1, q2, q3, q4, q5⟩ := q
                                have hs : ((ab.2 : Int) + ac.2 + bc.2 + one.2 + two.2 != 0) = false := by rw [bne_eq_false_iff_eq]; omega
                                have S4 := hid (S4.out (fdist.out q1 q2 q3 q4 q5))
                                clear q1 q2 q3 q4 q5
                                obtain ⟨⟨k00, k01, k02⟩, _⟩ := blk_three HONE.out.blk
                                have z0 := blk_lt HONE.out.blk
                                obtain ⟨⟨k10, k11, k12⟩, _⟩ := blk_three HTWO.out.blk
                                have z1 := blk_lt HTWO.out.blk
                                go_wp2_with fail
                                refine (S4.out _ _ _ _ _ HONE.out.u HTWO.out.u).mono ?_
                                rintro e1 w1 ⟨rfl, hb1⟩
                                have HB1 := hid (below_trans HB.out hb1)
                                clear hb1
                                go_wp2
                                go_ret
                                exact ⟨rfl, HB1.out⟩
                              · have hs : ((ab.2 : Int) + ac.2 + bc.2 + one.2 + two.2 != 0) = true := by rw [bne_iff_ne]; omega
                                clear q
                                go_wp2
                                go_ret
                                exact ⟨rfl, HB.out⟩

end Go.Proofs.YtphdncifcljmpaaGreatDoor
