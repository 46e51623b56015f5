/- The law DecOrder: the walk. Printed by lawgen. -/
import Derived.Test.YtphdncifcljmpaaGreatDoorLawLib
import Derived.Deep.CutBlock
namespace Go.Proofs.YtphdncifcljmpaaGreatDoor
open Go.RowKit

set_option maxRecDepth 100000 in
set_option maxHeartbeats 6400000 in
theorem order_no (g : Bool) (a : Option Addr) (cap : Nat) (e : Int) (xs : List Nat) (g2 : Bool) (a2 : Option Addr) (cap2 : Nat) (e2 : Int) (ys : List Nat) (g3 : Bool) (a3 : Option Addr) (cap3 : Nat) (e3 : Int) (zs : List Nat) (w : World) (h : U32 w a xs) (h2 : U32 w a2 ys) (h3 : U32 w a3 zs) (htab : Pow w) (ex ey : Nat) (x y : D) (ix : Is g xs e ex x) (iy : Is g2 ys e2 ey y) (er : Nat) (her : er = bothE ex ey) (her2 : er = bothE ey ex) (h0 : er ≠ 0) :
    Calls Tryz.prog 11 #[.agg #[.bool g, .slice a xs.length cap, .int .i64 e], .agg #[.bool g2, .slice a2 ys.length cap2, .int .i64 e2], .agg #[.bool g3, .slice a3 zs.length cap3, .int .i64 e3]] w fun en w' => en = .returned (.bool true) ∧ Below w.heap.size w w' := by
  have C0 := fun W (hp : Pow W) => law2_shown W hp
  have C1 := fun W b c b2 c2 (h1 : U32 W b xs) (h2 : U32 W b2 ys) (hp : Pow W) => c_Cmp W b c b2 c2 ix iy h1 h2 hp
  have C2 := fun W b c b2 c2 (h1 : U32 W b ys) (h2 : U32 W b2 xs) (hp : Pow W) => c_Cmp W b c b2 c2 iy ix h1 h2 hp
  rw [← her, if_neg h0] at C1
  rw [← her2, if_neg h0] at C2
  have hne : ((er : Int) != 0) = true := by rw [bne_iff_ne]; omega
  have heq : ((er : Int) == 0) = false := by rw [beq_eq_false_iff_ne]; omega
  replace C0 := hid C0
  replace C1 := hid C1
  replace C2 := hid C2
  have HTAB := hid htab
  have HX0 := hid h
  have HY0 := hid h2
  have HZ0 := hid h3
  clear htab h h2 h3 ix iy her her2 h0
  go_enter Tryz.func11, Tryz.ntmps11
  go_upto_region 1 with fail
  go_cut [7] from 30 (fun v w' => v = .bool true ∧ HasD w' (w.heap.size) g xs e a cap ∧ HasD w' (w.heap.size + 1) g2 ys e2 a2 cap2 ∧ HasD w' (w.heap.size + 1 + 1) g3 zs e3 a3 cap3 ∧ Below w.heap.size w w')
  case first =>
    as_aux_lemma =>
      go_wp2_with fail
      refine (C0.out _ (((HTAB.out.alloc _).alloc _).alloc _)).mono ?_
      rintro e1 w1 ⟨rfl, hb1⟩
      have HB1 := hid hb1
      clear hb1
      go_wp2_with fail
      go_meet
      case rel => exact ⟨rfl, boxed3 HX0.out HY0.out HZ0.out HB1.out⟩
  case rest =>
    obtain ⟨rfl, hX, hY, hZ, hb⟩ := hcut
    have HX := hid hX
    have HY := hid hY
    have HZ := hid hZ
    have HB := hid hb
    clear hb hX hY hZ HX0 HY0 HZ0 C0
    go_upto_region 2 with fail
    go_cut [8, 9] from 30 (fun v e w' => v = .int .i64 0 ∧ e = .int .i64 (er : Nat) ∧ Below wc.heap.size wc w')
    case first =>
      as_aux_lemma =>
        obtain ⟨⟨k00, k01, k02⟩, _⟩ := blk_three HX.out.blk
        have z0 := blk_lt HX.out.blk
        obtain ⟨⟨k10, k11, k12⟩, _⟩ := blk_three HY.out.blk
        have z1 := blk_lt HY.out.blk
        go_wp2_with fail
        refine (C1.out _ _ _ _ _ HX.out.u HY.out.u (HTAB.out.next HB.out)).mono ?_
        rintro e1 w1 ⟨rfl, ho⟩
        have HO := hid ho
        clear ho
        go_wp2_with fail
        go_meet
        case rel => exact ⟨rfl, rfl, HO.out⟩
    case rest =>
      obtain ⟨rfl, rfl, hb⟩ := hcut
      replace HX := hid (HX.out.below hb)
      replace HY := hid (HY.out.below hb)
      replace HZ := hid (HZ.out.below hb)
      replace HB := hid (below_trans HB.out hb)
      clear hb
      go_upto_region 3 with fail
      go_cut [10, 11] from 30 (fun v e w' => v = .int .i64 0 ∧ e = .int .i64 (er : Nat) ∧ Below wc.heap.size wc w')
      case first =>
        as_aux_lemma =>
          obtain ⟨⟨k00, k01, k02⟩, _⟩ := blk_three HY.out.blk
          have z0 := blk_lt HY.out.blk
          obtain ⟨⟨k10, k11, k12⟩, _⟩ := blk_three HX.out.blk
          have z1 := blk_lt HX.out.blk
          go_wp2_with fail
          refine (C2.out _ _ _ _ _ HY.out.u HX.out.u (HTAB.out.next HB.out)).mono ?_
          rintro e1 w1 ⟨rfl, ho⟩
          have HO := hid ho
          clear ho
          go_wp2_with fail
          go_meet
          case rel => exact ⟨rfl, rfl, HO.out⟩
      case rest =>
        obtain ⟨rfl, rfl, hb⟩ := hcut
        replace HX := hid (HX.out.below hb)
        replace HY := hid (HY.out.below hb)
        replace HZ := hid (HZ.out.below hb)
        replace HB := hid (below_trans HB.out hb)
        clear hb
        go_wp2
        go_ret
        exact ⟨rfl, HB.out⟩

set_option maxRecDepth 100000 in
set_option maxHeartbeats 6400000 in
theorem order_ok (g : Bool) (a : Option Addr) (cap : Nat) (e : Int) (xs : List Nat) (g2 : Bool) (a2 : Option Addr) (cap2 : Nat) (e2 : Int) (ys : List Nat) (g3 : Bool) (a3 : Option Addr) (cap3 : Nat) (e3 : Int) (zs : List Nat) (w : World) (h : U32 w a xs) (h2 : U32 w a2 ys) (h3 : U32 w a3 zs) (htab : Pow w) (x y : D) (ix : Is g xs e 0 x) (iy : Is g2 ys e2 0 y) (tx : Tk 0 x) (ty : Tk 0 y) :
    Calls Tryz.prog 11 #[.agg #[.bool g, .slice a xs.length cap, .int .i64 e], .agg #[.bool g2, .slice a2 ys.length cap2, .int .i64 e2], .agg #[.bool g3, .slice a3 zs.length cap3, .int .i64 e3]] w fun en w' => en = .returned (.bool true) ∧ Below w.heap.size w w' := by
  obtain ⟨ez, z, iz, tz, vz⟩ := is_arg g3 zs e3
  have gx := tx.good
  have gy := ty.good
  have lx := lowE gx
  have ly := lowE gy
  have gac := bin_good (er := bothE 0 ez) (sumD_plain x z)
  have gbc := bin_good (er := bothE 0 ez) (sumD_plain y z)
  have lac := bin_le (d := sumD x z) (bothE_le (Nat.zero_le 3) tz.le)
  have lbc := bin_le (d := sumD y z) (bothE_le (Nat.zero_le 3) tz.le)
  have gn : IsPlain (negD y) ∧ fitsB (negD y) = true := ⟨neg_plain gy.1, neg_fits gy.2⟩
  have gdd := bin_good (er := bothE 0 0) (sumD_plain x (negD y))
  have ldd := bin_le (d := sumD x (negD y)) (bothE_le (Nat.zero_le 3) (Nat.zero_le 3))
  obtain ⟨ac, hac⟩ : ∃ r, r = binR (bothE 0 ez) (addR x z) := ⟨_, rfl⟩
  obtain ⟨bc, hbc⟩ : ∃ r, r = binR (bothE 0 ez) (addR y z) := ⟨_, rfl⟩
  obtain ⟨dd, hdd⟩ : ∃ r, r = binR (bothE 0 0) (addR x (negD y)) := ⟨_, rfl⟩
  have fsum := order_sums tx ty tz hac hbc
  have fdiff := order_diff2 gx gy hdd
  have feq := order_eq gx gy
  have ftr := fun (hz : ez = 0) => order_trans gx gy tz.good
  rw [show binR (bothE 0 ez) (tellR (sumD x z)) = ac from hac.symm] at gac lac
  rw [show binR (bothE 0 ez) (tellR (sumD y z)) = bc from hbc.symm] at gbc lbc
  rw [show binR (bothE 0 0) (tellR (sumD x (negD y))) = dd from hdd.symm] at gdd ldd
  have C0 := fun W (hp : Pow W) => law2_shown W hp
  have C1 := fun W b c b2 c2 (h1 : U32 W b xs) (h2 : U32 W b2 ys) (hp : Pow W) => c_Cmp W b c b2 c2 ix iy h1 h2 hp
  have C2 := fun W b c b2 c2 (h1 : U32 W b ys) (h2 : U32 W b2 xs) (hp : Pow W) => c_Cmp W b c b2 c2 iy ix h1 h2 hp
  have C3 := fun W b c (h1 : U32 W b xs) (hp : Pow W) => c_Norm W b c ix h1 hp
  have C4 := fun W b c (h1 : U32 W b ys) (hp : Pow W) => c_Norm W b c iy h1 hp
  have C5 := fun W b c (h1 : U32 W b ys) (hp : Pow W) => c_Neg W b c iy h1 hp
  have C6 := fun W b c b2 c2 (h1 : U32 W b xs) (h2 : U32 W b2 (Num.limbs (negD y).m)) (hp : Pow W) => c_Add W b c b2 c2 ix (is_own gn) h1 h2 hp
  have C7 := fun W b c b2 c2 (h1 : U32 W b xs) (h2 : U32 W b2 zs) (hp : Pow W) => c_Add W b c b2 c2 ix iz h1 h2 hp
  have C8 := fun W b c b2 c2 (h1 : U32 W b ys) (h2 : U32 W b2 zs) (hp : Pow W) => c_Add W b c b2 c2 iy iz h1 h2 hp
  have C9 := fun W b c b2 c2 (h1 : U32 W b (Num.limbs ac.1.m)) (h2 : U32 W b2 (Num.limbs bc.1.m)) (hp : Pow W) => c_Cmp W b c b2 c2 (is_own gac) (is_own gbc) h1 h2 hp
  have C10 := fun W b c b2 c2 (h1 : U32 W b ys) (h2 : U32 W b2 zs) (hp : Pow W) => c_Cmp W b c b2 c2 iy iz h1 h2 hp
  have C11 := fun W b c b2 c2 (h1 : U32 W b xs) (h2 : U32 W b2 zs) (hp : Pow W) => c_Cmp W b c b2 c2 ix iz h1 h2 hp
  have q0 : bothE 0 0 = 0 := rfl
  have q1 : bothE 0 ez = ez := by unfold bothE; split <;> (try split) <;> omega
  obtain ⟨er, her⟩ : ∃ er : Nat, er = 0 := ⟨_, rfl⟩
  rw [q0, if_pos rfl, ← her] at C1 C2 C9
  rw [cmpR_anti (x := y) (y := x) (by omega) (by omega)] at C2
  obtain ⟨m, hm⟩ : ∃ m, m = cmpR x y := ⟨_, rfl⟩
  rw [← hm] at C1 C2 fsum fdiff feq
  have hm3 : m = -1 ∨ m = 0 ∨ m = 1 := by rw [hm, cmpR_worth (by omega) (by omega)]; rcases cmpI_cases (wo x) (wo y) with ⟨_, h⟩ | ⟨_, h⟩ | ⟨_, h⟩ <;> rw [h] <;> simp
  rw [← hac] at C7
  rw [← hbc] at C8
  rw [← hdd] at C6
  rw [q1] at C10 C11
  obtain ⟨k, hk⟩ : ∃ k, k = cmpR ac.1 bc.1 := ⟨_, rfl⟩
  rw [← hk] at C9 fsum
  obtain ⟨bcc, hbcc⟩ : ∃ v, v = (if ez = 0 then cmpR y z else 0) := ⟨_, rfl⟩
  obtain ⟨acc, hacc⟩ : ∃ v, v = (if ez = 0 then cmpR x z else 0) := ⟨_, rfl⟩
  rw [← hbcc] at C10
  rw [← hacc] at C11
  have ftr2 : ez = 0 → m ≤ 0 → bcc ≤ 0 → acc ≤ 0 := fun hz h1 h2 => by
    rw [hbcc, if_pos hz] at h2
    rw [hacc, if_pos hz]
    rw [hm] at h1
    exact ftr hz h1 h2
  have S1 := fun (bq : Bool) (hq : bq = decide (x = y)) W b c b2 c2 (h1 : U32 W b (Num.limbs x.m)) (h2 : U32 W b2 (Num.limbs y.m)) => c_same W b c b2 c2 x y gx h1 h2
  replace S1 := fun bq hq => by have := S1 bq hq; rw [← hq] at this; exact this
  have fz : dd.2 = 0 → ((Num.limbs dd.1.m).length = 0 ↔ m = 0) := fun hz => by rw [limbs_zero_iff]; exact (fdiff hz).2.symm
  obtain ⟨n, hneg⟩ : ∃ n, n = negD y := ⟨_, rfl⟩
  rw [← hneg] at C5 C6
  have hez : ez ≤ 3 := tz.le
  replace C0 := hid C0
  replace C1 := hid C1
  replace C2 := hid C2
  replace C3 := hid C3
  replace C4 := hid C4
  replace C5 := hid C5
  replace C6 := hid C6
  replace C7 := hid C7
  replace C8 := hid C8
  replace C9 := hid C9
  replace C10 := hid C10
  replace C11 := hid C11
  replace S1 := hid S1
  replace fsum := hid fsum
  replace fdiff := hid fdiff
  replace feq := hid feq
  replace ftr2 := hid ftr2
  replace fz := hid fz
  replace her := hid her
  replace hm3 := hid hm3
  have HTAB := hid htab
  have HX0 := hid h
  have HY0 := hid h2
  have HZ0 := hid h3
  clear htab h h2 h3 gac gbc gdd gn gx gy lx ly hac hbc hdd hm hk hbcc hacc ftr hneg ix iy iz tx ty tz vz q0 q1
  go_enter Tryz.func11, Tryz.ntmps11
  go_upto_region 1 with fail
  go_cut [7] from 30 (fun v w' => v = .bool true ∧ HasD w' (w.heap.size) g xs e a cap ∧ HasD w' (w.heap.size + 1) g2 ys e2 a2 cap2 ∧ HasD w' (w.heap.size + 1 + 1) g3 zs e3 a3 cap3 ∧ Below w.heap.size w w')
  case first =>
    as_aux_lemma =>
      go_wp2_with fail
      refine (C0.out _ (((HTAB.out.alloc _).alloc _).alloc _)).mono ?_
      rintro e1 w1 ⟨rfl, hb1⟩
      have HB1 := hid hb1
      clear hb1
      go_wp2_with fail
      go_meet
      case rel => exact ⟨rfl, boxed3 HX0.out HY0.out HZ0.out HB1.out⟩
  case rest =>
    obtain ⟨rfl, hX, hY, hZ, hb⟩ := hcut
    have HX := hid hX
    have HY := hid hY
    have HZ := hid hZ
    have HB := hid hb
    clear hb hX hY hZ HX0 HY0 HZ0 C0
    go_upto_region 2 with fail
    go_cut [8, 9] from 30 (fun v e w' => v = .int .i64 m ∧ e = .int .i64 (er : Nat) ∧ Below wc.heap.size wc w')
    case first =>
      as_aux_lemma =>
        obtain ⟨⟨k00, k01, k02⟩, _⟩ := blk_three HX.out.blk
        have z0 := blk_lt HX.out.blk
        obtain ⟨⟨k10, k11, k12⟩, _⟩ := blk_three HY.out.blk
        have z1 := blk_lt HY.out.blk
        go_wp2_with fail
        refine (C1.out _ _ _ _ _ HX.out.u HY.out.u (HTAB.out.next HB.out)).mono ?_
        rintro e1 w1 ⟨rfl, ho⟩
        have HO := hid ho
        clear ho
        go_wp2_with fail
        go_meet
        case rel => exact ⟨rfl, rfl, HO.out⟩
    case rest =>
      obtain ⟨rfl, rfl, hb⟩ := hcut
      replace HX := hid (HX.out.below hb)
      replace HY := hid (HY.out.below hb)
      replace HZ := hid (HZ.out.below hb)
      replace HB := hid (below_trans HB.out hb)
      clear hb
      go_upto_region 3 with fail
      go_cut [10, 11] from 30 (fun v e w' => v = .int .i64 (-m) ∧ e = .int .i64 (er : Nat) ∧ Below wc.heap.size wc w')
      case first =>
        as_aux_lemma =>
          obtain ⟨⟨k00, k01, k02⟩, _⟩ := blk_three HY.out.blk
          have z0 := blk_lt HY.out.blk
          obtain ⟨⟨k10, k11, k12⟩, _⟩ := blk_three HX.out.blk
          have z1 := blk_lt HX.out.blk
          go_wp2_with fail
          refine (C2.out _ _ _ _ _ HY.out.u HX.out.u (HTAB.out.next HB.out)).mono ?_
          rintro e1 w1 ⟨rfl, ho⟩
          have HO := hid ho
          clear ho
          go_wp2_with fail
          go_meet
          case rel => exact ⟨rfl, rfl, HO.out⟩
      case rest =>
        obtain ⟨rfl, rfl, hb⟩ := hcut
        replace HX := hid (HX.out.below hb)
        replace HY := hid (HY.out.below hb)
        replace HZ := hid (HZ.out.below hb)
        replace HB := hid (below_trans HB.out hb)
        clear hb
        go_upto_region 4 with fail
        go_cut [55] from 30 (fun v w' => v = .bool false ∧ Below wc.heap.size wc w')
        case first =>
          as_aux_lemma =>
            have heq : ((er : Int) == 0) = true := by rw [her.out]; rfl
            rcases hm3.out with h | h | h
            all_goals
              subst h
              go_wp2_with fail
              go_meet
              case rel => exact ⟨rfl, Below.refl _ _⟩
        case rest =>
          obtain ⟨rfl, hb⟩ := hcut
          replace HX := hid (HX.out.below hb)
          replace HY := hid (HY.out.below hb)
          replace HZ := hid (HZ.out.below hb)
          replace HB := hid (below_trans HB.out hb)
          clear hb
          go_upto_region 6 with fail
          go_cut [57] from 30 (fun v w' => v = .bool false ∧ Below wc.heap.size wc w')
          case first =>
            as_aux_lemma =>
              have hne : ((er : Int) != 0) = false := by rw [her.out]; rfl
              go_wp2_with fail
              go_meet
              case rel => exact ⟨rfl, Below.refl _ _⟩
          case rest =>
            obtain ⟨rfl, hb⟩ := hcut
            replace HX := hid (HX.out.below hb)
            replace HY := hid (HY.out.below hb)
            replace HZ := hid (HZ.out.below hb)
            replace HB := hid (below_trans HB.out hb)
            clear hb
            go_upto_region 8 with fail
            go_cut [12, 13] from 30 (fun v e w' => ∃ N b c, v = .pointer (some ⟨N, 0, none⟩) ∧ e = .int .i64 (0 : Nat) ∧ HasD w' N x.neg (Num.limbs x.m) x.e b c ∧ Below wc.heap.size wc w')
            case first =>
              as_aux_lemma =>
                obtain ⟨⟨k00, k01, k02⟩, _⟩ := blk_three HX.out.blk
                have z0 := blk_lt HX.out.blk
                go_wp2_with fail
                refine (C3.out _ _ _ HX.out.u (HTAB.out.next HB.out)).mono ?_
                rintro e1 w1 ⟨b1, c1, rfl, ho⟩
                have HO := hid ho
                clear ho
                unfold decV
                go_wp2_with fail
                go_meet
                case rel => exact ⟨w1.heap.size, b1, c1, rfl, rfl, HasD.new HO.out.inD, HO.out.1.alloc HO.out.1.size _⟩
            case rest =>
              obtain ⟨NNX, bNX, cNX, rfl, rfl, hNX, hb⟩ := hcut
              replace HX := hid (HX.out.below hb)
              replace HY := hid (HY.out.below hb)
              replace HZ := hid (HZ.out.below hb)
              replace HB := hid (below_trans HB.out hb)
              clear hb
              have HNX := hid hNX
              clear hNX
              go_upto_region 9 with fail
              go_cut [14, 15] from 30 (fun v e w' => ∃ N b c, v = .pointer (some ⟨N, 0, none⟩) ∧ e = .int .i64 (0 : Nat) ∧ HasD w' N y.neg (Num.limbs y.m) y.e b c ∧ Below wc.heap.size wc w')
              case first =>
                as_aux_lemma =>
                  obtain ⟨⟨k00, k01, k02⟩, _⟩ := blk_three HY.out.blk
                  have z0 := blk_lt HY.out.blk
                  go_wp2_with fail
                  refine (C4.out _ _ _ HY.out.u (HTAB.out.next HB.out)).mono ?_
                  rintro e1 w1 ⟨b1, c1, rfl, ho⟩
                  have HO := hid ho
                  clear ho
                  unfold decV
                  go_wp2_with fail
                  go_meet
                  case rel => exact ⟨w1.heap.size, b1, c1, rfl, rfl, HasD.new HO.out.inD, HO.out.1.alloc HO.out.1.size _⟩
              case rest =>
                obtain ⟨NNY, bNY, cNY, rfl, rfl, hNY, hb⟩ := hcut
                replace HX := hid (HX.out.below hb)
                replace HY := hid (HY.out.below hb)
                replace HZ := hid (HZ.out.below hb)
                replace HNX := hid (HNX.out.below hb)
                replace HB := hid (below_trans HB.out hb)
                clear hb
                have HNY := hid hNY
                clear hNY
                go_upto_region 10 with fail
                go_cut [16, 17] from 30 (fun v e w' => ∃ N b c, v = .pointer (some ⟨N, 0, none⟩) ∧ e = .int .i64 (0 : Nat) ∧ HasD w' N n.neg (Num.limbs n.m) n.e b c ∧ Below wc.heap.size wc w')
                case first =>
                  as_aux_lemma =>
                    obtain ⟨⟨k00, k01, k02⟩, _⟩ := blk_three HY.out.blk
                    have z0 := blk_lt HY.out.blk
                    go_wp2_with fail
                    refine (C5.out _ _ _ HY.out.u (HTAB.out.next HB.out)).mono ?_
                    rintro e1 w1 ⟨b1, c1, rfl, ho⟩
                    have HO := hid ho
                    clear ho
                    unfold decV
                    go_wp2_with fail
                    go_meet
                    case rel => exact ⟨w1.heap.size, b1, c1, rfl, rfl, HasD.new HO.out.inD, HO.out.1.alloc HO.out.1.size _⟩
                case rest =>
                  obtain ⟨NN, bN, cN, rfl, rfl, hN, hb⟩ := hcut
                  replace HX := hid (HX.out.below hb)
                  replace HY := hid (HY.out.below hb)
                  replace HZ := hid (HZ.out.below hb)
                  replace HNX := hid (HNX.out.below hb)
                  replace HNY := hid (HNY.out.below hb)
                  replace HB := hid (below_trans HB.out hb)
                  clear hb
                  have HN := hid hN
                  clear hN
                  go_upto_region 11 with fail
                  go_cut [18, 19] from 30 (fun v e w' => ∃ N b c, v = .pointer (some ⟨N, 0, none⟩) ∧ e = .int .i64 (dd.2 : Nat) ∧ HasD w' N dd.1.neg (Num.limbs dd.1.m) dd.1.e b c ∧ Below wc.heap.size wc w')
                  case first =>
                    as_aux_lemma =>
                      obtain ⟨⟨k00, k01, k02⟩, _⟩ := blk_three HX.out.blk
                      have z0 := blk_lt HX.out.blk
                      obtain ⟨⟨k10, k11, k12⟩, _⟩ := blk_three HN.out.blk
                      have z1 := blk_lt HN.out.blk
                      go_wp2_with fail
                      refine (C6.out _ _ _ _ _ HX.out.u HN.out.u (HTAB.out.next HB.out)).mono ?_
                      rintro e1 w1 ⟨b1, c1, rfl, ho⟩
                      have HO := hid ho
                      clear ho
                      unfold decV
                      go_wp2_with fail
                      go_meet
                      case rel => exact ⟨w1.heap.size, b1, c1, rfl, rfl, HasD.new HO.out.inD, HO.out.1.alloc HO.out.1.size _⟩
                  case rest =>
                    obtain ⟨NDD, bDD, cDD, rfl, rfl, hDD, hb⟩ := hcut
                    replace HX := hid (HX.out.below hb)
                    replace HY := hid (HY.out.below hb)
                    replace HZ := hid (HZ.out.below hb)
                    replace HNX := hid (HNX.out.below hb)
                    replace HNY := hid (HNY.out.below hb)
                    replace HN := hid (HN.out.below hb)
                    replace HB := hid (below_trans HB.out hb)
                    clear hb
                    have HDD := hid hDD
                    clear hDD
                    go_upto_region 12 with fail
                    go_cut [109] from 30 (fun v w' => v = .bool false ∧ Below wc.heap.size wc w')
                    case first =>
                      as_aux_lemma =>
                        have hbq : ∀ v : Int, m = v → (v = 0 ∨ v ≠ 0) → decide (x = y) = decide (v = 0) := fun v hv _ => by rw [decide_eq_decide, ← hv]; exact feq.out.symm
                        rcases hm3.out with h | h | h
                        all_goals
                          have S1 := S1.out _ (hbq _ h (by omega)).symm
                          simp only [show decide ((-1 : Int) = 0) = false from rfl, show decide ((0 : Int) = 0) = true from rfl, show decide ((1 : Int) = 0) = false from rfl] at S1
                          replace S1 := hid S1
                          by_cases q : dd.2 = 0
                          · have i1 : ((dd.2 : Int) == 0) = true := by simp [q]
                            have f1 := (fdiff.out q).1
                            have f2 := fz.out q
                            subst h
                            simp only [show (-1 : Int) < 0 ↔ True by simp, show (0 : Int) < 0 ↔ False by simp, show (1 : Int) < 0 ↔ False by simp, show (-1 : Int) = 0 ↔ False by simp, show (0 : Int) = 0 ↔ True by simp, show (1 : Int) = 0 ↔ False by simp, true_iff, false_iff, iff_true, iff_false] at f1 f2
                            have f3 : dd.1.neg = false ∨ dd.1.neg = true := by cases dd.1.neg <;> simp
                            have f4 : (((Num.limbs dd.1.m).length : Int) == 0) = false ∨ (((Num.limbs dd.1.m).length : Int) == 0) = true := by cases (((Num.limbs dd.1.m).length : Int) == 0) <;> simp
                            rcases f3 with f3 | f3 <;> rcases f4 with f4 | f4 <;> (first | (exfalso; simp only [beq_iff_eq, beq_eq_false_iff_ne] at f4; simp only [f3] at f1; omega) | (exfalso; simp [f3] at f1; done) | skip)
                            all_goals
                              clear q f1 f2 hbq
                              obtain ⟨⟨k00, k01, k02⟩, _⟩ := blk_three HNX.out.blk
                              have z0 := blk_lt HNX.out.blk
                              obtain ⟨⟨k10, k11, k12⟩, _⟩ := blk_three HNY.out.blk
                              have z1 := blk_lt HNY.out.blk
                              go_wp2_with fail
                              refine (S1.out _ _ _ _ _ HNX.out.u HNY.out.u).mono ?_
                              rintro e1 w1 ⟨rfl, hb1⟩
                              have HB1 := hid hb1
                              have HD1 := hid (HDD.out.below hb1)
                              clear hb1 k00 k01 k02 k10 k11 k12 z0 z1
                              obtain ⟨⟨k00, k01, k02⟩, _⟩ := blk_three HD1.out.blk
                              have z0 := blk_lt HD1.out.blk
                              rw [f3] at k00
                              go_wp2_with fail
                              go_meet
                              case rel => exact ⟨rfl, HB1.out⟩
                          · have i1 : ((dd.2 : Int) == 0) = false := by rw [beq_eq_false_iff_ne]; omega
                            subst h
                            clear q hbq
                            obtain ⟨⟨k00, k01, k02⟩, _⟩ := blk_three HNX.out.blk
                            have z0 := blk_lt HNX.out.blk
                            obtain ⟨⟨k10, k11, k12⟩, _⟩ := blk_three HNY.out.blk
                            have z1 := blk_lt HNY.out.blk
                            go_wp2_with fail
                            refine (S1.out _ _ _ _ _ HNX.out.u HNY.out.u).mono ?_
                            rintro e1 w1 ⟨rfl, hb1⟩
                            have HB1 := hid hb1
                            clear hb1
                            go_wp2_with fail
                            go_meet
                            case rel => exact ⟨rfl, HB1.out⟩
                    case rest =>
                      obtain ⟨rfl, hb⟩ := hcut
                      replace HX := hid (HX.out.below hb)
                      replace HY := hid (HY.out.below hb)
                      replace HZ := hid (HZ.out.below hb)
                      replace HNX := hid (HNX.out.below hb)
                      replace HNY := hid (HNY.out.below hb)
                      replace HN := hid (HN.out.below hb)
                      replace HDD := hid (HDD.out.below hb)
                      replace HB := hid (below_trans HB.out hb)
                      clear hb
                      clear HNX HNY HN HDD
                      go_upto_region 14 with fail
                      go_cut [20, 21] from 30 (fun v e w' => ∃ N b c, v = .pointer (some ⟨N, 0, none⟩) ∧ e = .int .i64 (ac.2 : Nat) ∧ HasD w' N ac.1.neg (Num.limbs ac.1.m) ac.1.e b c ∧ Below wc.heap.size wc w')
                      case first =>
                        as_aux_lemma =>
                          obtain ⟨⟨k00, k01, k02⟩, _⟩ := blk_three HX.out.blk
                          have z0 := blk_lt HX.out.blk
                          obtain ⟨⟨k10, k11, k12⟩, _⟩ := blk_three HZ.out.blk
                          have z1 := blk_lt HZ.out.blk
                          go_wp2_with fail
                          refine (C7.out _ _ _ _ _ HX.out.u HZ.out.u (HTAB.out.next HB.out)).mono ?_
                          rintro e1 w1 ⟨b1, c1, rfl, ho⟩
                          have HO := hid ho
                          clear ho
                          unfold decV
                          go_wp2_with fail
                          go_meet
                          case rel => exact ⟨w1.heap.size, b1, c1, rfl, rfl, HasD.new HO.out.inD, HO.out.1.alloc HO.out.1.size _⟩
                      case rest =>
                        obtain ⟨NAC, bAC, cAC, rfl, rfl, hAC, hb⟩ := hcut
                        replace HX := hid (HX.out.below hb)
                        replace HY := hid (HY.out.below hb)
                        replace HZ := hid (HZ.out.below hb)
                        replace HB := hid (below_trans HB.out hb)
                        clear hb
                        have HAC := hid hAC
                        clear hAC
                        go_upto_region 15 with fail
                        go_cut [22, 23] from 30 (fun v e w' => ∃ N b c, v = .pointer (some ⟨N, 0, none⟩) ∧ e = .int .i64 (bc.2 : Nat) ∧ HasD w' N bc.1.neg (Num.limbs bc.1.m) bc.1.e b c ∧ Below wc.heap.size wc w')
                        case first =>
                          as_aux_lemma =>
                            obtain ⟨⟨k00, k01, k02⟩, _⟩ := blk_three HY.out.blk
                            have z0 := blk_lt HY.out.blk
                            obtain ⟨⟨k10, k11, k12⟩, _⟩ := blk_three HZ.out.blk
                            have z1 := blk_lt HZ.out.blk
                            go_wp2_with fail
                            refine (C8.out _ _ _ _ _ HY.out.u HZ.out.u (HTAB.out.next HB.out)).mono ?_
                            rintro e1 w1 ⟨b1, c1, rfl, ho⟩
                            have HO := hid ho
                            clear ho
                            unfold decV
                            go_wp2_with fail
                            go_meet
                            case rel => exact ⟨w1.heap.size, b1, c1, rfl, rfl, HasD.new HO.out.inD, HO.out.1.alloc HO.out.1.size _⟩
                        case rest =>
                          obtain ⟨NBC, bBC, cBC, rfl, rfl, hBC, hb⟩ := hcut
                          replace HX := hid (HX.out.below hb)
                          replace HY := hid (HY.out.below hb)
                          replace HZ := hid (HZ.out.below hb)
                          replace HAC := hid (HAC.out.below hb)
                          replace HB := hid (below_trans HB.out hb)
                          clear hb
                          have HBC := hid hBC
                          clear hBC
                          go_upto_region 16 with fail
                          go_cut [24, 25] from 30 (fun v e w' => v = .int .i64 k ∧ e = .int .i64 (er : Nat) ∧ Below wc.heap.size wc w')
                          case first =>
                            as_aux_lemma =>
                              obtain ⟨⟨k00, k01, k02⟩, _⟩ := blk_three HAC.out.blk
                              have z0 := blk_lt HAC.out.blk
                              obtain ⟨⟨k10, k11, k12⟩, _⟩ := blk_three HBC.out.blk
                              have z1 := blk_lt HBC.out.blk
                              go_wp2_with fail
                              refine (C9.out _ _ _ _ _ HAC.out.u HBC.out.u (HTAB.out.next HB.out)).mono ?_
                              rintro e1 w1 ⟨rfl, ho⟩
                              have HO := hid ho
                              clear ho
                              go_wp2_with fail
                              go_meet
                              case rel => exact ⟨rfl, rfl, HO.out⟩
                          case rest =>
                            obtain ⟨rfl, rfl, hb⟩ := hcut
                            replace HX := hid (HX.out.below hb)
                            replace HY := hid (HY.out.below hb)
                            replace HZ := hid (HZ.out.below hb)
                            replace HAC := hid (HAC.out.below hb)
                            replace HBC := hid (HBC.out.below hb)
                            replace HB := hid (below_trans HB.out hb)
                            clear hb
                            go_upto_region 17 with fail
                            go_cut [26, 27] from 30 (fun v e w' => v = .int .i64 bcc ∧ e = .int .i64 (ez : Nat) ∧ Below wc.heap.size wc w')
                            case first =>
                              as_aux_lemma =>
                                obtain ⟨⟨k00, k01, k02⟩, _⟩ := blk_three HY.out.blk
                                have z0 := blk_lt HY.out.blk
                                obtain ⟨⟨k10, k11, k12⟩, _⟩ := blk_three HZ.out.blk
                                have z1 := blk_lt HZ.out.blk
                                go_wp2_with fail
                                refine (C10.out _ _ _ _ _ HY.out.u HZ.out.u (HTAB.out.next HB.out)).mono ?_
                                rintro e1 w1 ⟨rfl, ho⟩
                                have HO := hid ho
                                clear ho
                                go_wp2_with fail
                                go_meet
                                case rel => exact ⟨rfl, rfl, HO.out⟩
                            case rest =>
                              obtain ⟨rfl, rfl, hb⟩ := hcut
                              replace HX := hid (HX.out.below hb)
                              replace HY := hid (HY.out.below hb)
                              replace HZ := hid (HZ.out.below hb)
                              replace HAC := hid (HAC.out.below hb)
                              replace HBC := hid (HBC.out.below hb)
                              replace HB := hid (below_trans HB.out hb)
                              clear hb
                              go_upto_region 18 with fail
                              go_cut [28, 29] from 30 (fun v e w' => v = .int .i64 acc ∧ e = .int .i64 (ez : Nat) ∧ Below wc.heap.size wc w')
                              case first =>
                                as_aux_lemma =>
                                  obtain ⟨⟨k00, k01, k02⟩, _⟩ := blk_three HX.out.blk
                                  have z0 := blk_lt HX.out.blk
                                  obtain ⟨⟨k10, k11, k12⟩, _⟩ := blk_three HZ.out.blk
                                  have z1 := blk_lt HZ.out.blk
                                  go_wp2_with fail
                                  refine (C11.out _ _ _ _ _ HX.out.u HZ.out.u (HTAB.out.next HB.out)).mono ?_
                                  rintro e1 w1 ⟨rfl, ho⟩
                                  have HO := hid ho
                                  clear ho
                                  go_wp2_with fail
                                  go_meet
                                  case rel => exact ⟨rfl, rfl, HO.out⟩
                              case rest =>
                                obtain ⟨rfl, rfl, hb⟩ := hcut
                                replace HX := hid (HX.out.below hb)
                                replace HY := hid (HY.out.below hb)
                                replace HZ := hid (HZ.out.below hb)
                                replace HAC := hid (HAC.out.below hb)
                                replace HBC := hid (HBC.out.below hb)
                                replace HB := hid (below_trans HB.out hb)
                                clear hb
                                go_upto_region 19 with fail
                                go_cut [153] from 30 (fun v w' => v = .bool false ∧ Below wc.heap.size wc w')
                                case first =>
                                  as_aux_lemma =>
                                    by_cases q1 : ez = 0
                                    · have i1 : ((ez : Int) == 0) = true := by simp [q1]
                                      by_cases q2 : m ≤ 0
                                      · by_cases q3 : bcc ≤ 0
                                        · have q4 := ftr2.out q1 q2 q3
                                          clear q1
                                          go_wp2_with fail
                                          go_meet
                                          case rel => exact ⟨by simpa using q4, Below.refl _ _⟩
                                        · clear q1
                                          go_wp2_with fail
                                          go_meet
                                          case rel => exact ⟨rfl, Below.refl _ _⟩
                                      · clear q1
                                        go_wp2_with fail
                                        go_meet
                                        case rel => exact ⟨rfl, Below.refl _ _⟩
                                    · have i1 : ((ez : Int) == 0) = false := by rw [beq_eq_false_iff_ne]; omega
                                      clear q1
                                      go_wp2_with fail
                                      go_meet
                                      case rel => exact ⟨rfl, Below.refl _ _⟩
                                case rest =>
                                  obtain ⟨rfl, hb⟩ := hcut
                                  replace HX := hid (HX.out.below hb)
                                  replace HY := hid (HY.out.below hb)
                                  replace HZ := hid (HZ.out.below hb)
                                  replace HAC := hid (HAC.out.below hb)
                                  replace HBC := hid (HBC.out.below hb)
                                  replace HB := hid (below_trans HB.out hb)
                                  clear hb
                                  have her3 : er ≤ 0 := by rw [her.out]; omega
                                  by_cases q : ac.2 = 0 ∧ bc.2 = 0
                                  · obtain ⟨q1, q2⟩ := q
                                    have hs : ((ac.2 : Int) + bc.2 + er != 0) = false := by rw [bne_eq_false_iff_eq]; omega
                                    have hk := fsum.out q1 q2
                                    have hk2 : (k == m) = true := by simp [hk]
                                    clear q1 q2 hk her
                                    go_wp2
                                    go_ret
                                    exact ⟨rfl, HB.out⟩
                                  · have hs : ((ac.2 : Int) + bc.2 + er != 0) = true := by rw [bne_iff_ne]; omega
                                    clear q her
                                    go_wp2
                                    go_ret
                                    exact ⟨rfl, HB.out⟩

theorem law_DecOrder (g : Bool) (a : Option Addr) (cap : Nat) (e : Int) (xs : List Nat) (g2 : Bool) (a2 : Option Addr) (cap2 : Nat) (e2 : Int) (ys : List Nat) (g3 : Bool) (a3 : Option Addr) (cap3 : Nat) (e3 : Int) (zs : List Nat) (w : World) (h : U32 w a xs) (h2 : U32 w a2 ys) (h3 : U32 w a3 zs) (htab : Pow w) :
    Calls Tryz.prog 11 #[.agg #[.bool g, .slice a xs.length cap, .int .i64 e], .agg #[.bool g2, .slice a2 ys.length cap2, .int .i64 e2], .agg #[.bool g3, .slice a3 zs.length cap3, .int .i64 e3]] w fun en w' => en = .returned (.bool true) ∧ Below w.heap.size w w' := by
  obtain ⟨ex, x, ix, tx, vx⟩ := is_arg g xs e
  obtain ⟨ey, y, iy, ty, vy⟩ := is_arg g2 ys e2
  by_cases h0 : bothE ex ey = 0
  · obtain ⟨rfl, rfl⟩ := bothE_zero h0
    exact order_ok g a cap e xs g2 a2 cap2 e2 ys g3 a3 cap3 e3 zs w h h2 h3 htab x y ix iy tx ty
  · exact order_no g a cap e xs g2 a2 cap2 e2 ys g3 a3 cap3 e3 zs w h h2 h3 htab ex ey x y ix iy _ rfl (bothE_comm tx ty vx vy) h0

end Go.Proofs.YtphdncifcljmpaaGreatDoor
