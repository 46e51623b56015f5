/- The law QuotLess: the walk. Printed by gen_quot. -/
import Derived.Test.YtiblmkecipoanaaGreatDoorQuotO
import Derived.Deep.CutBlock
namespace Go.Proofs.YtiblmkecipoanaaGreatDoor
open Go.RowKit

set_option maxRecDepth 100000 in
set_option maxHeartbeats 6400000 in
theorem less_no (g : Bool) (a : Option Addr) (cap : Nat) (e : Int) (xs : List Nat) (g2 : Bool) (a2 : Option Addr) (cap2 : Nat) (e2 : Int) (ys : List Nat) (w : World) (h : U32 w a xs) (h2 : U32 w a2 ys) (htab : Pow w) (ex ey : Nat) (x y : D) (ix : Is g xs e ex x) (iy : Is g2 ys e2 ey y) (k : Nat) (hk : k = (remR (bothE ex ey) x y).2) (h0 : k ≠ 0) :
    Calls Tryz.prog 8 #[.agg #[.bool g, .slice a xs.length cap, .int .i64 e], .agg #[.bool g2, .slice a2 ys.length cap2, .int .i64 e2]] w fun en w' => en = .returned (.bool true) ∧ Below w.heap.size w w' := by
  have C0 := fun W (hp : Pow W) => law3_shown W hp
  have C1 := fun W b c b2 c2 (h1 : U32 W b xs) (h2 : U32 W b2 ys) (hp : Pow W) => q_Rem W b c b2 c2 ix iy h1 h2 hp
  rw [rem_bad (by rw [← hk]; exact h0), ← hk] at C1
  have hne : ((k : Int) != 0) = true := by rw [bne_iff_ne]; omega
  replace C0 := hid C0
  replace C1 := hid C1
  have HTAB := hid htab
  have HX0 := hid h
  have HY0 := hid h2
  clear htab h h2 ix iy hk h0
  go_enter Tryz.func8, Tryz.ntmps8
  go_upto_region 1 with fail
  go_cut [5] from 24 (fun v w' => v = .bool true ∧ HasD w' (w.heap.size) g xs e a cap ∧ HasD w' (w.heap.size + 1) g2 ys e2 a2 cap2 ∧ Below w.heap.size w w')
  case first =>
    as_aux_lemma =>
      go_wp2_with fail
      refine (C0.out _ ((HTAB.out.alloc _).alloc _)).mono ?_
      rintro e1 w1 ⟨rfl, hb1⟩
      have HB1 := hid hb1
      clear hb1
      go_wp2_with fail
      go_meet
      case rel => exact ⟨rfl, boxed2 HX0.out HY0.out HB1.out⟩
  case rest =>
    obtain ⟨rfl, hX, hY, hb⟩ := hcut
    have HX := hid hX
    have HY := hid hY
    have HB := hid hb
    clear hb hX hY HX0 HY0 C0
    go_upto_region 2 with fail
    go_cut [6, 7] from 24 (fun v e w' => ∃ N b c, v = .pointer (some ⟨N, 0, none⟩) ∧ e = .int .i64 (k : Nat) ∧ HasD w' N zeroD.neg (Num.limbs zeroD.m) zeroD.e b c ∧ Below wc.heap.size wc w')
    case first =>
      as_aux_lemma =>
        obtain ⟨⟨k00, k01, k02⟩, _⟩ := blk_three HX.out.blk
        have z0 := blk_lt HX.out.blk
        obtain ⟨⟨k10, k11, k12⟩, _⟩ := blk_three HY.out.blk
        have z1 := blk_lt HY.out.blk
        go_wp2_with fail
        refine (C1.out _ _ _ _ _ HX.out.u HY.out.u (HTAB.out.next HB.out)).mono ?_
        rintro e1 w1 ⟨b1, c1, rfl, ho⟩
        have HO := hid ho
        clear ho
        unfold decV
        go_wp2_with fail
        go_meet
        case rel => exact ⟨w1.heap.size, b1, c1, rfl, rfl, HasD.new HO.out.inD, HO.out.1.alloc HO.out.1.size _⟩
    case rest =>
      obtain ⟨NR, bR, cR, rfl, rfl, hR, hb⟩ := hcut
      replace HX := hid (HX.out.below hb)
      replace HY := hid (HY.out.below hb)
      replace HB := hid (below_trans HB.out hb)
      clear hb
      have HR := hid hR
      clear hR
      rw [show Num.limbs zeroD.m = [] from rfl] at HR
      obtain ⟨⟨k00, k01, k02⟩, _⟩ := blk_three HR.out.blk
      have z0 := blk_lt HR.out.blk
      simp only [List.length_nil] at k01
      go_wp2
      go_ret
      exact ⟨rfl, HB.out⟩

set_option maxRecDepth 100000 in
set_option maxHeartbeats 6400000 in
theorem less_ok (g : Bool) (a : Option Addr) (cap : Nat) (e : Int) (xs : List Nat) (g2 : Bool) (a2 : Option Addr) (cap2 : Nat) (e2 : Int) (ys : List Nat) (w : World) (h : U32 w a xs) (h2 : U32 w a2 ys) (htab : Pow w) (x y : D) (ix : Is g xs e 0 x) (iy : Is g2 ys e2 0 y) (tx : Tk 0 x) (ty : Tk 0 y) (k : Nat) (hk : k = (remR (bothE 0 0) x y).2) (h0 : k = 0) :
    Calls Tryz.prog 8 #[.agg #[.bool g, .slice a xs.length cap, .int .i64 e], .agg #[.bool g2, .slice a2 ys.length cap2, .int .i64 e2]] w fun en w' => en = .returned (.bool true) ∧ Below w.heap.size w w' := by
  have gx := tx.good
  have gy := ty.good
  obtain ⟨R, hR⟩ : ∃ R, R = remR (bothE 0 0) x y := ⟨_, rfl⟩
  have FL := (less_facts gx gy hR (by rw [hR, ← hk]; exact h0)).2
  have gr : IsPlain R.1 ∧ fitsB R.1 = true := by rw [hR]; exact rem_good
  obtain ⟨XT, hXT⟩ : ∃ R, R = roundR 0 x 0 := ⟨_, rfl⟩
  obtain ⟨YT, hYT⟩ : ∃ R, R = roundR 0 y 0 := ⟨_, rfl⟩
  have gxt : IsPlain XT.1 ∧ fitsB XT.1 = true := by rw [hXT]; exact round_good gx 0 0
  have gyt : IsPlain YT.1 ∧ fitsB YT.1 = true := by rw [hYT]; exact round_good gy 0 0
  have gn : IsPlain (negD R.1) ∧ fitsB (negD R.1) = true := ⟨neg_plain gr.1, neg_fits gr.2⟩
  have gs := abs_good gr
  have gt := abs_good gyt
  obtain ⟨Q, hQ⟩ : ∃ Q, Q = addR XT.1 (negD R.1) := ⟨_, rfl⟩
  have gq : IsPlain Q.1 ∧ fitsB Q.1 = true := by rw [hQ]; exact tell_good (sumD_plain _ _)
  obtain ⟨Z, hZ⟩ : ∃ Z, Z = remR (bothE 0 0) Q.1 y := ⟨_, rfl⟩
  have C0 := fun W (hp : Pow W) => law3_shown W hp
  have C1 := fun W b c b2 c2 (h1 : U32 W b xs) (h2 : U32 W b2 ys) (hp : Pow W) => q_Rem W b c b2 c2 ix iy h1 h2 hp
  have C2 := fun W b c (h1 : U32 W b xs) (hp : Pow W) => q_Trunc W b c ix h1 hp
  have C3 := fun W b c (h1 : U32 W b ys) (hp : Pow W) => q_Trunc W b c iy h1 hp
  have C4 := fun W b c (h1 : U32 W b (Num.limbs R.1.m)) (hp : Pow W) => q_Abs W b c (is_own gr) h1 hp
  have C5 := fun W b c (h1 : U32 W b (Num.limbs YT.1.m)) (hp : Pow W) => q_Abs W b c (is_own gyt) h1 hp
  have C6 := fun W b c b2 c2 (h1 : U32 W b (Num.limbs (absD R.1).m)) (h2 : U32 W b2 (Num.limbs (absD YT.1).m)) (hp : Pow W) => c_Cmp W b c b2 c2 (is_own gs) (is_own gt) h1 h2 hp
  have C7 := fun W b c (h1 : U32 W b (Num.limbs R.1.m)) (hp : Pow W) => c_Neg W b c (is_own gr) h1 hp
  have C8 := fun W b c b2 c2 (h1 : U32 W b (Num.limbs XT.1.m)) (h2 : U32 W b2 (Num.limbs (negD R.1).m)) (hp : Pow W) => c_Add W b c b2 c2 (is_own gxt) (is_own gn) h1 h2 hp
  have C9 := fun W b c b2 c2 (h1 : U32 W b (Num.limbs Q.1.m)) (h2 : U32 W b2 ys) (hp : Pow W) => q_Rem W b c b2 c2 (is_own gq) iy h1 h2 hp
  have CW := fun W b c (h1 : U32 W b (Num.limbs R.1.m)) (hp : Pow W) => q_Whole W b c true (is_own gr) (by simp [FL.whole]) h1 hp
  rw [← hR, show R.2 = k by rw [hR, hk]] at C1
  rw [← hXT] at C2
  rw [← hYT] at C3
  have less := FL.less
  have sign := FL.sign
  have left := FL.left Q (by rw [hQ, hXT])
  rw [← hYT] at less
  rw [← hXT] at sign
  rw [show bothE 0 0 = 0 from rfl] at hZ
  rw [← hZ] at left
  rw [show bothE 0 0 = 0 from rfl, if_pos rfl, less] at C6
  rw [show bothE 0 0 = 0 from rfl, show binR 0 (addR XT.1 (negD R.1)) = Q from hQ.symm] at C8
  rw [show bothE 0 0 = 0 from rfl, ← hZ] at C9
  have hne : ((k : Int) != 0) = false := by rw [bne_eq_false_iff_eq]; omega
  obtain ⟨zr, hzr⟩ : ∃ z : Nat, z = 0 := ⟨_, rfl⟩
  obtain ⟨rr, hrr⟩ : ∃ r, r = R.1 := ⟨_, rfl⟩
  obtain ⟨xt, hxt⟩ : ∃ r, r = XT.1 := ⟨_, rfl⟩
  obtain ⟨yt, hyt⟩ : ∃ r, r = YT.1 := ⟨_, rfl⟩
  obtain ⟨qq, hqq⟩ : ∃ r, r = Q.1 := ⟨_, rfl⟩
  obtain ⟨zz, hzz⟩ : ∃ r, r = Z.1 := ⟨_, rfl⟩
  obtain ⟨qk, hqk⟩ : ∃ r, r = Q.2 := ⟨_, rfl⟩
  obtain ⟨zk, hzk⟩ : ∃ r, r = Z.2 := ⟨_, rfl⟩
  obtain ⟨xk, hxk⟩ : ∃ r, r = XT.2 := ⟨_, rfl⟩
  obtain ⟨yk, hyk⟩ : ∃ r, r = YT.2 := ⟨_, rfl⟩
  rw [← hrr] at C1 C4 C6 C7 C8 CW sign
  rw [← hxt, ← hxk] at C2
  rw [← hyt, ← hyk] at C3
  rw [← hyt] at C5 C6
  rw [← hxt] at C8 sign
  rw [← hqq, ← hqk] at C8
  rw [← hqq, ← hzz, ← hzk] at C9
  rw [← hzz, ← hqk, ← hzk] at left
  clear hrr hxt hyt hqq hzz hqk hzk hxk hyk hZ hQ hXT hYT hR FL gx gy gr gxt gyt gn gs gt gq less tx ty
  replace C0 := hid C0
  replace C1 := hid C1
  replace C2 := hid C2
  replace C3 := hid C3
  replace C4 := hid C4
  replace C5 := hid C5
  replace C6 := hid C6
  replace C7 := hid C7
  replace C8 := hid C8
  replace C9 := hid C9
  replace CW := hid CW
  replace sign := hid sign
  replace left := hid left
  have HTAB := hid htab
  have HX0 := hid h
  have HY0 := hid h2
  clear htab h h2 ix iy hk h0 hzr
  go_enter Tryz.func8, Tryz.ntmps8
  go_upto_region 1 with fail
  go_cut [5] from 24 (fun v w' => v = .bool true ∧ HasD w' (w.heap.size) g xs e a cap ∧ HasD w' (w.heap.size + 1) g2 ys e2 a2 cap2 ∧ Below w.heap.size w w')
  case first =>
    as_aux_lemma =>
      go_wp2_with fail
      refine (C0.out _ ((HTAB.out.alloc _).alloc _)).mono ?_
      rintro e1 w1 ⟨rfl, hb1⟩
      have HB1 := hid hb1
      clear hb1
      go_wp2_with fail
      go_meet
      case rel => exact ⟨rfl, boxed2 HX0.out HY0.out HB1.out⟩
  case rest =>
    obtain ⟨rfl, hX, hY, hb⟩ := hcut
    have HX := hid hX
    have HY := hid hY
    have HB := hid hb
    clear hb hX hY HX0 HY0 C0
    go_upto_region 2 with fail
    go_cut [6, 7] from 24 (fun v e w' => ∃ N b c, v = .pointer (some ⟨N, 0, none⟩) ∧ e = .int .i64 (k : Nat) ∧ HasD w' N rr.neg (Num.limbs rr.m) rr.e b c ∧ Below wc.heap.size wc w')
    case first =>
      as_aux_lemma =>
        obtain ⟨⟨k00, k01, k02⟩, _⟩ := blk_three HX.out.blk
        have z0 := blk_lt HX.out.blk
        obtain ⟨⟨k10, k11, k12⟩, _⟩ := blk_three HY.out.blk
        have z1 := blk_lt HY.out.blk
        go_wp2_with fail
        refine (C1.out _ _ _ _ _ HX.out.u HY.out.u (HTAB.out.next HB.out)).mono ?_
        rintro e1 w1 ⟨b1, c1, rfl, ho⟩
        have HO := hid ho
        clear ho
        unfold decV
        go_wp2_with fail
        go_meet
        case rel => exact ⟨w1.heap.size, b1, c1, rfl, rfl, HasD.new HO.out.inD, HO.out.1.alloc HO.out.1.size _⟩
    case rest =>
      obtain ⟨NR, bR, cR, rfl, rfl, hR, hb⟩ := hcut
      replace HX := hid (HX.out.below hb)
      replace HY := hid (HY.out.below hb)
      replace HB := hid (below_trans HB.out hb)
      clear hb
      have HR := hid hR
      clear hR
      go_upto_region 3 with fail
      go_cut [32] from 24 (fun v w' => v = .bool false ∧ Below wc.heap.size wc w')
      case first =>
        as_aux_lemma =>
          go_wp2_with fail
          go_meet
          case rel => exact ⟨rfl, Below.refl _ _⟩
      case rest =>
        obtain ⟨rfl, hb⟩ := hcut
        replace HX := hid (HX.out.below hb)
        replace HY := hid (HY.out.below hb)
        replace HR := hid (HR.out.below hb)
        replace HB := hid (below_trans HB.out hb)
        clear hb
        go_upto_region 5 with fail
        go_cut [8, 9] from 24 (fun v e w' => ∃ N b c, v = .pointer (some ⟨N, 0, none⟩) ∧ e = .int .i64 (xk : Nat) ∧ HasD w' N xt.neg (Num.limbs xt.m) xt.e b c ∧ Below wc.heap.size wc w')
        case first =>
          as_aux_lemma =>
            obtain ⟨⟨k00, k01, k02⟩, _⟩ := blk_three HX.out.blk
            have z0 := blk_lt HX.out.blk
            go_wp2_with fail
            refine (C2.out _ _ _ HX.out.u (HTAB.out.next HB.out)).mono ?_
            rintro e1 w1 ⟨b1, c1, rfl, ho⟩
            have HO := hid ho
            clear ho
            unfold decV
            go_wp2_with fail
            go_meet
            case rel => exact ⟨w1.heap.size, b1, c1, rfl, rfl, HasD.new HO.out.inD, HO.out.1.alloc HO.out.1.size _⟩
        case rest =>
          obtain ⟨NXT, bXT, cXT, rfl, rfl, hXT, hb⟩ := hcut
          replace HX := hid (HX.out.below hb)
          replace HY := hid (HY.out.below hb)
          replace HR := hid (HR.out.below hb)
          replace HB := hid (below_trans HB.out hb)
          clear hb
          have HXT := hid hXT
          clear hXT
          go_upto_region 6 with fail
          go_cut [10, 11] from 24 (fun v e w' => ∃ N b c, v = .pointer (some ⟨N, 0, none⟩) ∧ e = .int .i64 (yk : Nat) ∧ HasD w' N yt.neg (Num.limbs yt.m) yt.e b c ∧ Below wc.heap.size wc w')
          case first =>
            as_aux_lemma =>
              obtain ⟨⟨k00, k01, k02⟩, _⟩ := blk_three HY.out.blk
              have z0 := blk_lt HY.out.blk
              go_wp2_with fail
              refine (C3.out _ _ _ HY.out.u (HTAB.out.next HB.out)).mono ?_
              rintro e1 w1 ⟨b1, c1, rfl, ho⟩
              have HO := hid ho
              clear ho
              unfold decV
              go_wp2_with fail
              go_meet
              case rel => exact ⟨w1.heap.size, b1, c1, rfl, rfl, HasD.new HO.out.inD, HO.out.1.alloc HO.out.1.size _⟩
          case rest =>
            obtain ⟨NYT, bYT, cYT, rfl, rfl, hYT, hb⟩ := hcut
            replace HX := hid (HX.out.below hb)
            replace HY := hid (HY.out.below hb)
            replace HR := hid (HR.out.below hb)
            replace HXT := hid (HXT.out.below hb)
            replace HB := hid (below_trans HB.out hb)
            clear hb
            have HYT := hid hYT
            clear hYT
            go_upto_region 7 with fail
            go_cut [12, 13] from 24 (fun v e w' => ∃ N b c, v = .pointer (some ⟨N, 0, none⟩) ∧ e = .int .i64 (0 : Nat) ∧ HasD w' N (absD rr).neg (Num.limbs (absD rr).m) (absD rr).e b c ∧ Below wc.heap.size wc w')
            case first =>
              as_aux_lemma =>
                obtain ⟨⟨k00, k01, k02⟩, _⟩ := blk_three HR.out.blk
                have z0 := blk_lt HR.out.blk
                go_wp2_with fail
                refine (C4.out _ _ _ HR.out.u (HTAB.out.next HB.out)).mono ?_
                rintro e1 w1 ⟨b1, c1, rfl, ho⟩
                have HO := hid ho
                clear ho
                unfold decV
                go_wp2_with fail
                go_meet
                case rel => exact ⟨w1.heap.size, b1, c1, rfl, rfl, HasD.new HO.out.inD, HO.out.1.alloc HO.out.1.size _⟩
            case rest =>
              obtain ⟨NS, bS, cS, rfl, rfl, hS, hb⟩ := hcut
              replace HX := hid (HX.out.below hb)
              replace HY := hid (HY.out.below hb)
              replace HR := hid (HR.out.below hb)
              replace HXT := hid (HXT.out.below hb)
              replace HYT := hid (HYT.out.below hb)
              replace HB := hid (below_trans HB.out hb)
              clear hb
              have HS := hid hS
              clear hS
              go_upto_region 8 with fail
              go_cut [14, 15] from 24 (fun v e w' => ∃ N b c, v = .pointer (some ⟨N, 0, none⟩) ∧ e = .int .i64 (0 : Nat) ∧ HasD w' N (absD yt).neg (Num.limbs (absD yt).m) (absD yt).e b c ∧ Below wc.heap.size wc w')
              case first =>
                as_aux_lemma =>
                  obtain ⟨⟨k00, k01, k02⟩, _⟩ := blk_three HYT.out.blk
                  have z0 := blk_lt HYT.out.blk
                  go_wp2_with fail
                  refine (C5.out _ _ _ HYT.out.u (HTAB.out.next HB.out)).mono ?_
                  rintro e1 w1 ⟨b1, c1, rfl, ho⟩
                  have HO := hid ho
                  clear ho
                  unfold decV
                  go_wp2_with fail
                  go_meet
                  case rel => exact ⟨w1.heap.size, b1, c1, rfl, rfl, HasD.new HO.out.inD, HO.out.1.alloc HO.out.1.size _⟩
              case rest =>
                obtain ⟨NT, bT, cT, rfl, rfl, hT, hb⟩ := hcut
                replace HX := hid (HX.out.below hb)
                replace HY := hid (HY.out.below hb)
                replace HR := hid (HR.out.below hb)
                replace HXT := hid (HXT.out.below hb)
                replace HYT := hid (HYT.out.below hb)
                replace HS := hid (HS.out.below hb)
                replace HB := hid (below_trans HB.out hb)
                clear hb
                have HT := hid hT
                clear hT
                go_upto_region 9 with fail
                go_cut [16, 17] from 24 (fun v e w' => v = .int .i64 (-1) ∧ e = .int .i64 (0 : Nat) ∧ Below wc.heap.size wc w')
                case first =>
                  as_aux_lemma =>
                    obtain ⟨⟨k00, k01, k02⟩, _⟩ := blk_three HS.out.blk
                    have z0 := blk_lt HS.out.blk
                    obtain ⟨⟨k10, k11, k12⟩, _⟩ := blk_three HT.out.blk
                    have z1 := blk_lt HT.out.blk
                    go_wp2_with fail
                    refine (C6.out _ _ _ _ _ HS.out.u HT.out.u (HTAB.out.next HB.out)).mono ?_
                    rintro e1 w1 ⟨rfl, ho⟩
                    have HO := hid ho
                    clear ho
                    go_wp2_with fail
                    go_meet
                    case rel => exact ⟨rfl, rfl, HO.out⟩
                case rest =>
                  obtain ⟨rfl, rfl, hb⟩ := hcut
                  replace HX := hid (HX.out.below hb)
                  replace HY := hid (HY.out.below hb)
                  replace HR := hid (HR.out.below hb)
                  replace HXT := hid (HXT.out.below hb)
                  replace HYT := hid (HYT.out.below hb)
                  replace HS := hid (HS.out.below hb)
                  replace HT := hid (HT.out.below hb)
                  replace HB := hid (below_trans HB.out hb)
                  clear hb
                  clear HS HT HYT
                  go_upto_region 10 with fail
                  go_cut [18, 19] from 24 (fun v e w' => ∃ N b c, v = .pointer (some ⟨N, 0, none⟩) ∧ e = .int .i64 (0 : Nat) ∧ HasD w' N (negD rr).neg (Num.limbs (negD rr).m) (negD rr).e b c ∧ Below wc.heap.size wc w')
                  case first =>
                    as_aux_lemma =>
                      obtain ⟨⟨k00, k01, k02⟩, _⟩ := blk_three HR.out.blk
                      have z0 := blk_lt HR.out.blk
                      go_wp2_with fail
                      refine (C7.out _ _ _ HR.out.u (HTAB.out.next HB.out)).mono ?_
                      rintro e1 w1 ⟨b1, c1, rfl, ho⟩
                      have HO := hid ho
                      clear ho
                      unfold decV
                      go_wp2_with fail
                      go_meet
                      case rel => exact ⟨w1.heap.size, b1, c1, rfl, rfl, HasD.new HO.out.inD, HO.out.1.alloc HO.out.1.size _⟩
                  case rest =>
                    obtain ⟨NN, bN, cN, rfl, rfl, hN, hb⟩ := hcut
                    replace HX := hid (HX.out.below hb)
                    replace HY := hid (HY.out.below hb)
                    replace HR := hid (HR.out.below hb)
                    replace HXT := hid (HXT.out.below hb)
                    replace HB := hid (below_trans HB.out hb)
                    clear hb
                    have HN := hid hN
                    clear hN
                    go_upto_region 11 with fail
                    go_cut [20, 21] from 24 (fun v e w' => ∃ N b c, v = .pointer (some ⟨N, 0, none⟩) ∧ e = .int .i64 (qk : Nat) ∧ HasD w' N qq.neg (Num.limbs qq.m) qq.e b c ∧ Below wc.heap.size wc w')
                    case first =>
                      as_aux_lemma =>
                        obtain ⟨⟨k00, k01, k02⟩, _⟩ := blk_three HXT.out.blk
                        have z0 := blk_lt HXT.out.blk
                        obtain ⟨⟨k10, k11, k12⟩, _⟩ := blk_three HN.out.blk
                        have z1 := blk_lt HN.out.blk
                        go_wp2_with fail
                        refine (C8.out _ _ _ _ _ HXT.out.u HN.out.u (HTAB.out.next HB.out)).mono ?_
                        rintro e1 w1 ⟨b1, c1, rfl, ho⟩
                        have HO := hid ho
                        clear ho
                        unfold decV
                        go_wp2_with fail
                        go_meet
                        case rel => exact ⟨w1.heap.size, b1, c1, rfl, rfl, HasD.new HO.out.inD, HO.out.1.alloc HO.out.1.size _⟩
                    case rest =>
                      obtain ⟨NQ, bQ, cQ, rfl, rfl, hQ, hb⟩ := hcut
                      replace HX := hid (HX.out.below hb)
                      replace HY := hid (HY.out.below hb)
                      replace HR := hid (HR.out.below hb)
                      replace HXT := hid (HXT.out.below hb)
                      replace HN := hid (HN.out.below hb)
                      replace HB := hid (below_trans HB.out hb)
                      clear hb
                      have HQ := hid hQ
                      clear hQ
                      go_upto_region 12 with fail
                      go_cut [22, 23] from 24 (fun v e w' => ∃ N b c, v = .pointer (some ⟨N, 0, none⟩) ∧ e = .int .i64 (zk : Nat) ∧ HasD w' N zz.neg (Num.limbs zz.m) zz.e b c ∧ Below wc.heap.size wc w')
                      case first =>
                        as_aux_lemma =>
                          obtain ⟨⟨k00, k01, k02⟩, _⟩ := blk_three HQ.out.blk
                          have z0 := blk_lt HQ.out.blk
                          obtain ⟨⟨k10, k11, k12⟩, _⟩ := blk_three HY.out.blk
                          have z1 := blk_lt HY.out.blk
                          go_wp2_with fail
                          refine (C9.out _ _ _ _ _ HQ.out.u HY.out.u (HTAB.out.next HB.out)).mono ?_
                          rintro e1 w1 ⟨b1, c1, rfl, ho⟩
                          have HO := hid ho
                          clear ho
                          unfold decV
                          go_wp2_with fail
                          go_meet
                          case rel => exact ⟨w1.heap.size, b1, c1, rfl, rfl, HasD.new HO.out.inD, HO.out.1.alloc HO.out.1.size _⟩
                      case rest =>
                        obtain ⟨NZ, bZ, cZ, rfl, rfl, hZ, hb⟩ := hcut
                        replace HX := hid (HX.out.below hb)
                        replace HY := hid (HY.out.below hb)
                        replace HR := hid (HR.out.below hb)
                        replace HXT := hid (HXT.out.below hb)
                        replace HN := hid (HN.out.below hb)
                        replace HQ := hid (HQ.out.below hb)
                        replace HB := hid (below_trans HB.out hb)
                        clear hb
                        have HZ := hid hZ
                        clear hZ
                        obtain ⟨n, hn⟩ : ∃ n, n = Num.limbs rr.m := ⟨_, rfl⟩
                        obtain ⟨m, hm⟩ : ∃ n, n = Num.limbs zz.m := ⟨_, rfl⟩
                        have fz : qk = 0 → zk = 0 ∧ m.length = 0 := fun h => ⟨(left.out h).1, by rw [hm, limbs_zero_iff]; exact (left.out h).2⟩
                        have fs : n.length = 0 ∨ rr.neg = xt.neg := by rw [hn, limbs_zero_iff]; exact sign.out
                        rw [← hn] at HR CW
                        rw [← hm] at HZ
                        clear hn hm
                        obtain ⟨⟨k00, k01, k02⟩, _⟩ := blk_three HR.out.blk
                        have z0 := blk_lt HR.out.blk
                        go_wp2_with fail
                        refine (CW.out _ _ _ HR.out.u (HTAB.out.next HB.out)).mono ?_
                        rintro e1 w1 ⟨rfl, hb1⟩
                        have HR1 := hid (HR.out.below hb1)
                        have HX1 := hid (HXT.out.below hb1)
                        have HZ1 := hid (HZ.out.below hb1)
                        have HB1 := hid (below_trans HB.out hb1)
                        clear hb1 k00 k01 k02 z0
                        obtain ⟨⟨k00, k01, k02⟩, _⟩ := blk_three HR1.out.blk
                        have z0 := blk_lt HR1.out.blk
                        obtain ⟨⟨k10, k11, k12⟩, _⟩ := blk_three HX1.out.blk
                        have z1 := blk_lt HX1.out.blk
                        obtain ⟨⟨k20, k21, k22⟩, _⟩ := blk_three HZ1.out.blk
                        have z2 := blk_lt HZ1.out.blk
                        replace left := left
                        obtain ⟨nl, hnl⟩ : ∃ l, l = n.length := ⟨_, rfl⟩
                        obtain ⟨ml, hml⟩ : ∃ l, l = m.length := ⟨_, rfl⟩
                        rw [← hnl] at k01 fs
                        rw [← hml] at k21 fz
                        clear hnl hml
                        by_cases hq : qk = 0
                        · obtain ⟨f1, f2⟩ := fz hq
                          have i1 : ((qk : Int) != 0) = false := by rw [bne_eq_false_iff_eq]; omega
                          have i2 : ((zk : Int) == 0) = true := by rw [beq_iff_eq]; omega
                          have i3 : ((ml : Int) == 0) = true := by rw [beq_iff_eq]; omega
                          clear hq f1 f2 fz
                          by_cases hl : nl = 0
                          · have i4 : ((nl : Int) == 0) = true := by rw [beq_iff_eq]; omega
                            clear hl fs
                            go_wp2
                            go_ret
                            exact ⟨rfl, HB1.out⟩
                          · have i4 : ((nl : Int) == 0) = false := by rw [beq_eq_false_iff_ne]; omega
                            have i5 := fs.resolve_left hl
                            rw [← i5] at k10
                            clear hl fs
                            cases rr.neg
                            all_goals
                              go_wp2
                              go_ret
                              exact ⟨rfl, HB1.out⟩
                        · have i1 : ((qk : Int) != 0) = true := by rw [bne_iff_ne]; omega
                          clear hq fz
                          by_cases hl : nl = 0
                          · have i4 : ((nl : Int) == 0) = true := by rw [beq_iff_eq]; omega
                            clear hl fs
                            go_wp2
                            go_ret
                            exact ⟨rfl, HB1.out⟩
                          · have i4 : ((nl : Int) == 0) = false := by rw [beq_eq_false_iff_ne]; omega
                            have i5 := fs.resolve_left hl
                            rw [← i5] at k10
                            clear hl fs
                            cases rr.neg
                            all_goals
                              go_wp2
                              go_ret
                              exact ⟨rfl, HB1.out⟩

theorem law_QuotLess (g : Bool) (a : Option Addr) (cap : Nat) (e : Int) (xs : List Nat) (g2 : Bool) (a2 : Option Addr) (cap2 : Nat) (e2 : Int) (ys : List Nat) (w : World) (h : U32 w a xs) (h2 : U32 w a2 ys) (htab : Pow w) :
    Calls Tryz.prog 8 #[.agg #[.bool g, .slice a xs.length cap, .int .i64 e], .agg #[.bool g2, .slice a2 ys.length cap2, .int .i64 e2]] w fun en w' => en = .returned (.bool true) ∧ Below w.heap.size w w' := by
  obtain ⟨ex, x, ix, tx, vx⟩ := is_arg g xs e
  obtain ⟨ey, y, iy, ty, vy⟩ := is_arg g2 ys e2
  by_cases h0 : (remR (bothE ex ey) x y).2 = 0
  · obtain ⟨rfl, rfl⟩ := bothE_zero (less_facts tx.good ty.good rfl h0).1
    exact less_ok g a cap e xs g2 a2 cap2 e2 ys w h h2 htab x y ix iy tx ty _ rfl h0
  · exact less_no g a cap e xs g2 a2 cap2 e2 ys w h h2 htab ex ey x y ix iy _ rfl h0

end Go.Proofs.YtiblmkecipoanaaGreatDoor
