/- The law QuotRounds: the walk. Printed by gen_quot. -/
import Derived.Test.YtiblmkecipoanaaGreatDoorQuotO
import Derived.Test.YtiblmkecipoanaaGreatDoorRef3F
import Derived.Deep.CutBlock
namespace Go.Proofs.YtiblmkecipoanaaGreatDoor
open Go.RowKit

set_option maxRecDepth 100000 in
set_option maxHeartbeats 6400000 in
theorem law_QuotRounds (g : Bool) (a : Option Addr) (cap : Nat) (e : Int) (xs : List Nat) (w : World) (h : U32 w a xs) (htab : Pow w) :
    Calls Tryz.prog 6 #[.agg #[.bool g, .slice a xs.length cap, .int .i64 e]] w fun en w' => en = .returned (.bool true) ∧ Below w.heap.size w w' := by
  obtain ⟨ex, x, ix, tx, vx⟩ := is_arg g xs e
  have gx := tx.good
  have ga := abs_good gx
  have C0 := fun W (hp : Pow W) => law3_shown W hp
  have C1 := fun W b c (h1 : U32 W b xs) (hp : Pow W) => q_Trunc W b c ix h1 hp
  have C2 := fun W b c (h1 : U32 W b xs) (hp : Pow W) => q_Floor W b c ix h1 hp
  have C3 := fun W b c (h1 : U32 W b xs) (hp : Pow W) => q_Ceil W b c ix h1 hp
  have C4 := fun W b c (h1 : U32 W b xs) (hp : Pow W) => q_Round W b c ix h1 hp
  have C5 := fun W b c (h1 : U32 W b xs) (hp : Pow W) => q_Abs W b c ix h1 hp
  have R1 : ∀ W b c, U32 W b xs → Pow W → Calls Tryz.prog 25 #[.agg #[.bool g, .slice b xs.length c, .int .i64 e], .int .i64 0] W (OutDE W (roundR ex x 0).1 (roundR ex x 0).2) := fun W b c h1 _ => by
    have := ref3_Round g b c e xs W 0 (by decide) h1
    rw [ix.1, ix.2] at this
    exact this
  have R2 : ∀ W b c, U32 W b xs → Pow W → Calls Tryz.prog 25 #[.agg #[.bool g, .slice b xs.length c, .int .i64 e], .int .i64 1] W (OutDE W (roundR ex x 1).1 (roundR ex x 1).2) := fun W b c h1 _ => by
    have := ref3_Round g b c e xs W 1 (by decide) h1
    rw [ix.1, ix.2] at this
    exact this
  have R3 : ∀ W b c, U32 W b xs → Pow W → Calls Tryz.prog 25 #[.agg #[.bool g, .slice b xs.length c, .int .i64 e], .int .i64 2] W (OutDE W (roundR ex x 2).1 (roundR ex x 2).2) := fun W b c h1 _ => by
    have := ref3_Round g b c e xs W 2 (by decide) h1
    rw [ix.1, ix.2] at this
    exact this
  have R4 : ∀ W b c, U32 W b xs → Pow W → Calls Tryz.prog 25 #[.agg #[.bool g, .slice b xs.length c, .int .i64 e], .int .i64 3] W (OutDE W (roundR ex x 3).1 (roundR ex x 3).2) := fun W b c h1 _ => by
    have := ref3_Round g b c e xs W 3 (by decide) h1
    rw [ix.1, ix.2] at this
    exact this
  have R5 : ∀ W b c, U32 W b xs → Pow W → Calls Tryz.prog 26 #[.agg #[.bool g, .slice b xs.length c, .int .i64 e]] W (OutDE W (absD x) ex) := fun W b c h1 _ => by
    have := ref3_Abs g b c e xs W h1
    rw [ix.1, ix.2] at this
    exact this
  have g1 : IsPlain (roundR ex x 0).1 ∧ fitsB (roundR ex x 0).1 = true := round_good gx ex 0
  obtain ⟨d1, hd1⟩ : ∃ d, d = (roundR ex x 0).1 := ⟨_, rfl⟩
  obtain ⟨k1, hk1⟩ : ∃ d, d = (roundR ex x 0).2 := ⟨_, rfl⟩
  rw [← hd1, ← hk1] at C1 R1
  rw [← hd1] at g1
  have g2 : IsPlain (roundR ex x 1).1 ∧ fitsB (roundR ex x 1).1 = true := round_good gx ex 1
  obtain ⟨d2, hd2⟩ : ∃ d, d = (roundR ex x 1).1 := ⟨_, rfl⟩
  obtain ⟨k2, hk2⟩ : ∃ d, d = (roundR ex x 1).2 := ⟨_, rfl⟩
  rw [← hd2, ← hk2] at C2 R2
  rw [← hd2] at g2
  have g3 : IsPlain (roundR ex x 2).1 ∧ fitsB (roundR ex x 2).1 = true := round_good gx ex 2
  obtain ⟨d3, hd3⟩ : ∃ d, d = (roundR ex x 2).1 := ⟨_, rfl⟩
  obtain ⟨k3, hk3⟩ : ∃ d, d = (roundR ex x 2).2 := ⟨_, rfl⟩
  rw [← hd3, ← hk3] at C3 R3
  rw [← hd3] at g3
  have g4 : IsPlain (roundR ex x 3).1 ∧ fitsB (roundR ex x 3).1 = true := round_good gx ex 3
  obtain ⟨d4, hd4⟩ : ∃ d, d = (roundR ex x 3).1 := ⟨_, rfl⟩
  obtain ⟨k4, hk4⟩ : ∃ d, d = (roundR ex x 3).2 := ⟨_, rfl⟩
  rw [← hd4, ← hk4] at C4 R4
  rw [← hd4] at g4
  obtain ⟨d5, hd5⟩ : ∃ d, d = absD x := ⟨_, rfl⟩
  rw [← hd5] at C5 R5 ga
  have S1 := fun W b c b2 c2 (h1 : U32 W b (Num.limbs d1.m)) (h2 : U32 W b2 (Num.limbs d1.m)) (_hp : Pow W) => q_same W b c b2 c2 true d1 d1 (by simp) g1 h1 h2
  have S2 := fun W b c b2 c2 (h1 : U32 W b (Num.limbs d2.m)) (h2 : U32 W b2 (Num.limbs d2.m)) (_hp : Pow W) => q_same W b c b2 c2 true d2 d2 (by simp) g2 h1 h2
  have S3 := fun W b c b2 c2 (h1 : U32 W b (Num.limbs d3.m)) (h2 : U32 W b2 (Num.limbs d3.m)) (_hp : Pow W) => q_same W b c b2 c2 true d3 d3 (by simp) g3 h1 h2
  have S4 := fun W b c b2 c2 (h1 : U32 W b (Num.limbs d4.m)) (h2 : U32 W b2 (Num.limbs d4.m)) (_hp : Pow W) => q_same W b c b2 c2 true d4 d4 (by simp) g4 h1 h2
  have S5 := fun W b c b2 c2 (h1 : U32 W b (Num.limbs d5.m)) (h2 : U32 W b2 (Num.limbs d5.m)) (_hp : Pow W) => q_same W b c b2 c2 true d5 d5 (by simp) ga h1 h2
  have ek1 : ((k1 : Int) == (k1 : Int)) = true := by simp
  have ek2 : ((k2 : Int) == (k2 : Int)) = true := by simp
  have ek3 : ((k3 : Int) == (k3 : Int)) = true := by simp
  have ek4 : ((k4 : Int) == (k4 : Int)) = true := by simp
  have eex : ((ex : Int) == (ex : Int)) = true := by simp
  replace C0 := hid C0
  replace C1 := hid C1
  replace C2 := hid C2
  replace C3 := hid C3
  replace C4 := hid C4
  replace C5 := hid C5
  replace R1 := hid R1
  replace R2 := hid R2
  replace R3 := hid R3
  replace R4 := hid R4
  replace R5 := hid R5
  replace S1 := hid S1
  replace S2 := hid S2
  replace S3 := hid S3
  replace S4 := hid S4
  replace S5 := hid S5
  have HTAB := hid htab
  have HX0 := hid h
  clear htab h ix tx vx gx ga g1 g2 g3 g4 hd1 hd2 hd3 hd4 hd5 hk1 hk2 hk3 hk4
  go_enter Tryz.func6, Tryz.ntmps6
  go_upto_region 1 with fail
  go_cut [3] from 25 (fun v w' => v = .bool true ∧ HasD w' (w.heap.size) g xs e a cap ∧ Below w.heap.size w w')
  case first =>
    as_aux_lemma =>
      go_wp2_with fail
      refine (C0.out _ (HTAB.out.alloc _)).mono ?_
      rintro e1 w1 ⟨rfl, hb1⟩
      have HB1 := hid hb1
      clear hb1
      go_wp2_with fail
      go_meet
      case rel => exact ⟨rfl, boxed1 HX0.out HB1.out⟩
  case rest =>
    obtain ⟨rfl, hX, hb⟩ := hcut
    have HX := hid hX
    have HB := hid hb
    clear hb hX HX0 C0
    go_upto_region 2 with fail
    go_cut [4, 5] from 25 (fun v e w' => ∃ N b c, v = .pointer (some ⟨N, 0, none⟩) ∧ e = .int .i64 (k1 : Nat) ∧ HasD w' N d1.neg (Num.limbs d1.m) d1.e b c ∧ Below wc.heap.size wc w')
    case first =>
      as_aux_lemma =>
        obtain ⟨⟨k00, k01, k02⟩, _⟩ := blk_three HX.out.blk
        have z0 := blk_lt HX.out.blk
        go_wp2_with fail
        refine (C1.out _ _ _ HX.out.u (HTAB.out.next HB.out)).mono ?_
        rintro e1 w1 ⟨b1, c1, rfl, ho⟩
        have HO := hid ho
        clear ho
        unfold decV
        go_wp2_with fail
        go_meet
        case rel => exact ⟨w1.heap.size, b1, c1, rfl, rfl, HasD.new HO.out.inD, HO.out.1.alloc HO.out.1.size _⟩
    case rest =>
      obtain ⟨NP1, bP1, cP1, rfl, rfl, hP1, hb⟩ := hcut
      replace HX := hid (HX.out.below hb)
      replace HB := hid (below_trans HB.out hb)
      clear hb
      have HP1 := hid hP1
      clear hP1
      go_upto_region 3 with fail
      go_cut [6, 7] from 25 (fun v e w' => ∃ N b c, v = .pointer (some ⟨N, 0, none⟩) ∧ e = .int .i64 (k2 : Nat) ∧ HasD w' N d2.neg (Num.limbs d2.m) d2.e b c ∧ Below wc.heap.size wc w')
      case first =>
        as_aux_lemma =>
          obtain ⟨⟨k00, k01, k02⟩, _⟩ := blk_three HX.out.blk
          have z0 := blk_lt HX.out.blk
          go_wp2_with fail
          refine (C2.out _ _ _ HX.out.u (HTAB.out.next HB.out)).mono ?_
          rintro e1 w1 ⟨b1, c1, rfl, ho⟩
          have HO := hid ho
          clear ho
          unfold decV
          go_wp2_with fail
          go_meet
          case rel => exact ⟨w1.heap.size, b1, c1, rfl, rfl, HasD.new HO.out.inD, HO.out.1.alloc HO.out.1.size _⟩
      case rest =>
        obtain ⟨NP2, bP2, cP2, rfl, rfl, hP2, hb⟩ := hcut
        replace HX := hid (HX.out.below hb)
        replace HP1 := hid (HP1.out.below hb)
        replace HB := hid (below_trans HB.out hb)
        clear hb
        have HP2 := hid hP2
        clear hP2
        go_upto_region 4 with fail
        go_cut [8, 9] from 25 (fun v e w' => ∃ N b c, v = .pointer (some ⟨N, 0, none⟩) ∧ e = .int .i64 (k3 : Nat) ∧ HasD w' N d3.neg (Num.limbs d3.m) d3.e b c ∧ Below wc.heap.size wc w')
        case first =>
          as_aux_lemma =>
            obtain ⟨⟨k00, k01, k02⟩, _⟩ := blk_three HX.out.blk
            have z0 := blk_lt HX.out.blk
            go_wp2_with fail
            refine (C3.out _ _ _ HX.out.u (HTAB.out.next HB.out)).mono ?_
            rintro e1 w1 ⟨b1, c1, rfl, ho⟩
            have HO := hid ho
            clear ho
            unfold decV
            go_wp2_with fail
            go_meet
            case rel => exact ⟨w1.heap.size, b1, c1, rfl, rfl, HasD.new HO.out.inD, HO.out.1.alloc HO.out.1.size _⟩
        case rest =>
          obtain ⟨NP3, bP3, cP3, rfl, rfl, hP3, hb⟩ := hcut
          replace HX := hid (HX.out.below hb)
          replace HP1 := hid (HP1.out.below hb)
          replace HP2 := hid (HP2.out.below hb)
          replace HB := hid (below_trans HB.out hb)
          clear hb
          have HP3 := hid hP3
          clear hP3
          go_upto_region 5 with fail
          go_cut [10, 11] from 25 (fun v e w' => ∃ N b c, v = .pointer (some ⟨N, 0, none⟩) ∧ e = .int .i64 (k4 : Nat) ∧ HasD w' N d4.neg (Num.limbs d4.m) d4.e b c ∧ Below wc.heap.size wc w')
          case first =>
            as_aux_lemma =>
              obtain ⟨⟨k00, k01, k02⟩, _⟩ := blk_three HX.out.blk
              have z0 := blk_lt HX.out.blk
              go_wp2_with fail
              refine (C4.out _ _ _ HX.out.u (HTAB.out.next HB.out)).mono ?_
              rintro e1 w1 ⟨b1, c1, rfl, ho⟩
              have HO := hid ho
              clear ho
              unfold decV
              go_wp2_with fail
              go_meet
              case rel => exact ⟨w1.heap.size, b1, c1, rfl, rfl, HasD.new HO.out.inD, HO.out.1.alloc HO.out.1.size _⟩
          case rest =>
            obtain ⟨NP4, bP4, cP4, rfl, rfl, hP4, hb⟩ := hcut
            replace HX := hid (HX.out.below hb)
            replace HP1 := hid (HP1.out.below hb)
            replace HP2 := hid (HP2.out.below hb)
            replace HP3 := hid (HP3.out.below hb)
            replace HB := hid (below_trans HB.out hb)
            clear hb
            have HP4 := hid hP4
            clear hP4
            go_upto_region 6 with fail
            go_cut [12, 13] from 25 (fun v e w' => ∃ N b c, v = .pointer (some ⟨N, 0, none⟩) ∧ e = .int .i64 (ex : Nat) ∧ HasD w' N d5.neg (Num.limbs d5.m) d5.e b c ∧ Below wc.heap.size wc w')
            case first =>
              as_aux_lemma =>
                obtain ⟨⟨k00, k01, k02⟩, _⟩ := blk_three HX.out.blk
                have z0 := blk_lt HX.out.blk
                go_wp2_with fail
                refine (C5.out _ _ _ HX.out.u (HTAB.out.next HB.out)).mono ?_
                rintro e1 w1 ⟨b1, c1, rfl, ho⟩
                have HO := hid ho
                clear ho
                unfold decV
                go_wp2_with fail
                go_meet
                case rel => exact ⟨w1.heap.size, b1, c1, rfl, rfl, HasD.new HO.out.inD, HO.out.1.alloc HO.out.1.size _⟩
            case rest =>
              obtain ⟨NP5, bP5, cP5, rfl, rfl, hP5, hb⟩ := hcut
              replace HX := hid (HX.out.below hb)
              replace HP1 := hid (HP1.out.below hb)
              replace HP2 := hid (HP2.out.below hb)
              replace HP3 := hid (HP3.out.below hb)
              replace HP4 := hid (HP4.out.below hb)
              replace HB := hid (below_trans HB.out hb)
              clear hb
              have HP5 := hid hP5
              clear hP5
              go_upto_region 7 with fail
              go_cut [14, 15] from 25 (fun v e w' => ∃ N b c, v = .pointer (some ⟨N, 0, none⟩) ∧ e = .int .i64 (k1 : Nat) ∧ HasD w' N d1.neg (Num.limbs d1.m) d1.e b c ∧ Below wc.heap.size wc w')
              case first =>
                as_aux_lemma =>
                  obtain ⟨⟨k00, k01, k02⟩, _⟩ := blk_three HX.out.blk
                  have z0 := blk_lt HX.out.blk
                  go_wp2_with fail
                  refine (R1.out _ _ _ HX.out.u (HTAB.out.next HB.out)).mono ?_
                  rintro e1 w1 ⟨b1, c1, rfl, ho⟩
                  have HO := hid ho
                  clear ho
                  unfold decV
                  go_wp2_with fail
                  go_meet
                  case rel => exact ⟨w1.heap.size, b1, c1, rfl, rfl, HasD.new HO.out.inD, HO.out.1.alloc HO.out.1.size _⟩
              case rest =>
                obtain ⟨NQ1, bQ1, cQ1, rfl, rfl, hQ1, hb⟩ := hcut
                replace HX := hid (HX.out.below hb)
                replace HP1 := hid (HP1.out.below hb)
                replace HP2 := hid (HP2.out.below hb)
                replace HP3 := hid (HP3.out.below hb)
                replace HP4 := hid (HP4.out.below hb)
                replace HP5 := hid (HP5.out.below hb)
                replace HB := hid (below_trans HB.out hb)
                clear hb
                have HQ1 := hid hQ1
                clear hQ1
                go_upto_region 8 with fail
                go_cut [16, 17] from 25 (fun v e w' => ∃ N b c, v = .pointer (some ⟨N, 0, none⟩) ∧ e = .int .i64 (k2 : Nat) ∧ HasD w' N d2.neg (Num.limbs d2.m) d2.e b c ∧ Below wc.heap.size wc w')
                case first =>
                  as_aux_lemma =>
                    obtain ⟨⟨k00, k01, k02⟩, _⟩ := blk_three HX.out.blk
                    have z0 := blk_lt HX.out.blk
                    go_wp2_with fail
                    refine (R2.out _ _ _ HX.out.u (HTAB.out.next HB.out)).mono ?_
                    rintro e1 w1 ⟨b1, c1, rfl, ho⟩
                    have HO := hid ho
                    clear ho
                    unfold decV
                    go_wp2_with fail
                    go_meet
                    case rel => exact ⟨w1.heap.size, b1, c1, rfl, rfl, HasD.new HO.out.inD, HO.out.1.alloc HO.out.1.size _⟩
                case rest =>
                  obtain ⟨NQ2, bQ2, cQ2, rfl, rfl, hQ2, hb⟩ := hcut
                  replace HX := hid (HX.out.below hb)
                  replace HP1 := hid (HP1.out.below hb)
                  replace HP2 := hid (HP2.out.below hb)
                  replace HP3 := hid (HP3.out.below hb)
                  replace HP4 := hid (HP4.out.below hb)
                  replace HP5 := hid (HP5.out.below hb)
                  replace HQ1 := hid (HQ1.out.below hb)
                  replace HB := hid (below_trans HB.out hb)
                  clear hb
                  have HQ2 := hid hQ2
                  clear hQ2
                  go_upto_region 9 with fail
                  go_cut [18, 19] from 25 (fun v e w' => ∃ N b c, v = .pointer (some ⟨N, 0, none⟩) ∧ e = .int .i64 (k3 : Nat) ∧ HasD w' N d3.neg (Num.limbs d3.m) d3.e b c ∧ Below wc.heap.size wc w')
                  case first =>
                    as_aux_lemma =>
                      obtain ⟨⟨k00, k01, k02⟩, _⟩ := blk_three HX.out.blk
                      have z0 := blk_lt HX.out.blk
                      go_wp2_with fail
                      refine (R3.out _ _ _ HX.out.u (HTAB.out.next HB.out)).mono ?_
                      rintro e1 w1 ⟨b1, c1, rfl, ho⟩
                      have HO := hid ho
                      clear ho
                      unfold decV
                      go_wp2_with fail
                      go_meet
                      case rel => exact ⟨w1.heap.size, b1, c1, rfl, rfl, HasD.new HO.out.inD, HO.out.1.alloc HO.out.1.size _⟩
                  case rest =>
                    obtain ⟨NQ3, bQ3, cQ3, rfl, rfl, hQ3, hb⟩ := hcut
                    replace HX := hid (HX.out.below hb)
                    replace HP1 := hid (HP1.out.below hb)
                    replace HP2 := hid (HP2.out.below hb)
                    replace HP3 := hid (HP3.out.below hb)
                    replace HP4 := hid (HP4.out.below hb)
                    replace HP5 := hid (HP5.out.below hb)
                    replace HQ1 := hid (HQ1.out.below hb)
                    replace HQ2 := hid (HQ2.out.below hb)
                    replace HB := hid (below_trans HB.out hb)
                    clear hb
                    have HQ3 := hid hQ3
                    clear hQ3
                    go_upto_region 10 with fail
                    go_cut [20, 21] from 25 (fun v e w' => ∃ N b c, v = .pointer (some ⟨N, 0, none⟩) ∧ e = .int .i64 (k4 : Nat) ∧ HasD w' N d4.neg (Num.limbs d4.m) d4.e b c ∧ Below wc.heap.size wc w')
                    case first =>
                      as_aux_lemma =>
                        obtain ⟨⟨k00, k01, k02⟩, _⟩ := blk_three HX.out.blk
                        have z0 := blk_lt HX.out.blk
                        go_wp2_with fail
                        refine (R4.out _ _ _ HX.out.u (HTAB.out.next HB.out)).mono ?_
                        rintro e1 w1 ⟨b1, c1, rfl, ho⟩
                        have HO := hid ho
                        clear ho
                        unfold decV
                        go_wp2_with fail
                        go_meet
                        case rel => exact ⟨w1.heap.size, b1, c1, rfl, rfl, HasD.new HO.out.inD, HO.out.1.alloc HO.out.1.size _⟩
                    case rest =>
                      obtain ⟨NQ4, bQ4, cQ4, rfl, rfl, hQ4, hb⟩ := hcut
                      replace HX := hid (HX.out.below hb)
                      replace HP1 := hid (HP1.out.below hb)
                      replace HP2 := hid (HP2.out.below hb)
                      replace HP3 := hid (HP3.out.below hb)
                      replace HP4 := hid (HP4.out.below hb)
                      replace HP5 := hid (HP5.out.below hb)
                      replace HQ1 := hid (HQ1.out.below hb)
                      replace HQ2 := hid (HQ2.out.below hb)
                      replace HQ3 := hid (HQ3.out.below hb)
                      replace HB := hid (below_trans HB.out hb)
                      clear hb
                      have HQ4 := hid hQ4
                      clear hQ4
                      go_upto_region 11 with fail
                      go_cut [22, 23] from 25 (fun v e w' => ∃ N b c, v = .pointer (some ⟨N, 0, none⟩) ∧ e = .int .i64 (ex : Nat) ∧ HasD w' N d5.neg (Num.limbs d5.m) d5.e b c ∧ Below wc.heap.size wc w')
                      case first =>
                        as_aux_lemma =>
                          obtain ⟨⟨k00, k01, k02⟩, _⟩ := blk_three HX.out.blk
                          have z0 := blk_lt HX.out.blk
                          go_wp2_with fail
                          refine (R5.out _ _ _ HX.out.u (HTAB.out.next HB.out)).mono ?_
                          rintro e1 w1 ⟨b1, c1, rfl, ho⟩
                          have HO := hid ho
                          clear ho
                          unfold decV
                          go_wp2_with fail
                          go_meet
                          case rel => exact ⟨w1.heap.size, b1, c1, rfl, rfl, HasD.new HO.out.inD, HO.out.1.alloc HO.out.1.size _⟩
                      case rest =>
                        obtain ⟨NQ5, bQ5, cQ5, rfl, rfl, hQ5, hb⟩ := hcut
                        replace HX := hid (HX.out.below hb)
                        replace HP1 := hid (HP1.out.below hb)
                        replace HP2 := hid (HP2.out.below hb)
                        replace HP3 := hid (HP3.out.below hb)
                        replace HP4 := hid (HP4.out.below hb)
                        replace HP5 := hid (HP5.out.below hb)
                        replace HQ1 := hid (HQ1.out.below hb)
                        replace HQ2 := hid (HQ2.out.below hb)
                        replace HQ3 := hid (HQ3.out.below hb)
                        replace HQ4 := hid (HQ4.out.below hb)
                        replace HB := hid (below_trans HB.out hb)
                        clear hb
                        have HQ5 := hid hQ5
                        clear hQ5
                        clear HX
                        go_upto_region 12 with fail
                        go_cut [24] from 25 (fun v w' => v = .bool true ∧ Below wc.heap.size wc w')
                        case first =>
                          as_aux_lemma =>
                            obtain ⟨⟨k00, k01, k02⟩, _⟩ := blk_three HP1.out.blk
                            have z0 := blk_lt HP1.out.blk
                            obtain ⟨⟨k10, k11, k12⟩, _⟩ := blk_three HQ1.out.blk
                            have z1 := blk_lt HQ1.out.blk
                            go_wp2_with fail
                            refine (S1.out _ _ _ _ _ HP1.out.u HQ1.out.u (HTAB.out.next HB.out)).mono ?_
                            rintro e1 w1 ⟨rfl, hb⟩
                            have HW := hid hb
                            replace HP1 := hid (HP1.out.below hb)
                            replace HP2 := hid (HP2.out.below hb)
                            replace HP3 := hid (HP3.out.below hb)
                            replace HP4 := hid (HP4.out.below hb)
                            replace HP5 := hid (HP5.out.below hb)
                            replace HQ1 := hid (HQ1.out.below hb)
                            replace HQ2 := hid (HQ2.out.below hb)
                            replace HQ3 := hid (HQ3.out.below hb)
                            replace HQ4 := hid (HQ4.out.below hb)
                            replace HQ5 := hid (HQ5.out.below hb)
                            replace HB := hid (below_trans HB.out hb)
                            clear hb
                            clear k00 k01 k02 z0
                            clear k10 k11 k12 z1
                            obtain ⟨⟨k00, k01, k02⟩, _⟩ := blk_three HP2.out.blk
                            have z0 := blk_lt HP2.out.blk
                            obtain ⟨⟨k10, k11, k12⟩, _⟩ := blk_three HQ2.out.blk
                            have z1 := blk_lt HQ2.out.blk
                            go_wp2_with fail
                            refine (S2.out _ _ _ _ _ HP2.out.u HQ2.out.u (HTAB.out.next HB.out)).mono ?_
                            rintro e1 w1 ⟨rfl, hb⟩
                            replace HW := hid (below_trans HW.out hb)
                            replace HP1 := hid (HP1.out.below hb)
                            replace HP2 := hid (HP2.out.below hb)
                            replace HP3 := hid (HP3.out.below hb)
                            replace HP4 := hid (HP4.out.below hb)
                            replace HP5 := hid (HP5.out.below hb)
                            replace HQ1 := hid (HQ1.out.below hb)
                            replace HQ2 := hid (HQ2.out.below hb)
                            replace HQ3 := hid (HQ3.out.below hb)
                            replace HQ4 := hid (HQ4.out.below hb)
                            replace HQ5 := hid (HQ5.out.below hb)
                            replace HB := hid (below_trans HB.out hb)
                            clear hb
                            clear k00 k01 k02 z0
                            clear k10 k11 k12 z1
                            obtain ⟨⟨k00, k01, k02⟩, _⟩ := blk_three HP3.out.blk
                            have z0 := blk_lt HP3.out.blk
                            obtain ⟨⟨k10, k11, k12⟩, _⟩ := blk_three HQ3.out.blk
                            have z1 := blk_lt HQ3.out.blk
                            go_wp2_with fail
                            refine (S3.out _ _ _ _ _ HP3.out.u HQ3.out.u (HTAB.out.next HB.out)).mono ?_
                            rintro e1 w1 ⟨rfl, hb⟩
                            replace HW := hid (below_trans HW.out hb)
                            replace HP1 := hid (HP1.out.below hb)
                            replace HP2 := hid (HP2.out.below hb)
                            replace HP3 := hid (HP3.out.below hb)
                            replace HP4 := hid (HP4.out.below hb)
                            replace HP5 := hid (HP5.out.below hb)
                            replace HQ1 := hid (HQ1.out.below hb)
                            replace HQ2 := hid (HQ2.out.below hb)
                            replace HQ3 := hid (HQ3.out.below hb)
                            replace HQ4 := hid (HQ4.out.below hb)
                            replace HQ5 := hid (HQ5.out.below hb)
                            replace HB := hid (below_trans HB.out hb)
                            clear hb
                            clear k00 k01 k02 z0
                            clear k10 k11 k12 z1
                            obtain ⟨⟨k00, k01, k02⟩, _⟩ := blk_three HP4.out.blk
                            have z0 := blk_lt HP4.out.blk
                            obtain ⟨⟨k10, k11, k12⟩, _⟩ := blk_three HQ4.out.blk
                            have z1 := blk_lt HQ4.out.blk
                            go_wp2_with fail
                            refine (S4.out _ _ _ _ _ HP4.out.u HQ4.out.u (HTAB.out.next HB.out)).mono ?_
                            rintro e1 w1 ⟨rfl, hb⟩
                            replace HW := hid (below_trans HW.out hb)
                            replace HP1 := hid (HP1.out.below hb)
                            replace HP2 := hid (HP2.out.below hb)
                            replace HP3 := hid (HP3.out.below hb)
                            replace HP4 := hid (HP4.out.below hb)
                            replace HP5 := hid (HP5.out.below hb)
                            replace HQ1 := hid (HQ1.out.below hb)
                            replace HQ2 := hid (HQ2.out.below hb)
                            replace HQ3 := hid (HQ3.out.below hb)
                            replace HQ4 := hid (HQ4.out.below hb)
                            replace HQ5 := hid (HQ5.out.below hb)
                            replace HB := hid (below_trans HB.out hb)
                            clear hb
                            clear k00 k01 k02 z0
                            clear k10 k11 k12 z1
                            obtain ⟨⟨k00, k01, k02⟩, _⟩ := blk_three HP5.out.blk
                            have z0 := blk_lt HP5.out.blk
                            obtain ⟨⟨k10, k11, k12⟩, _⟩ := blk_three HQ5.out.blk
                            have z1 := blk_lt HQ5.out.blk
                            go_wp2_with fail
                            refine (S5.out _ _ _ _ _ HP5.out.u HQ5.out.u (HTAB.out.next HB.out)).mono ?_
                            rintro e1 w1 ⟨rfl, hb⟩
                            replace HW := hid (below_trans HW.out hb)
                            replace HP1 := hid (HP1.out.below hb)
                            replace HP2 := hid (HP2.out.below hb)
                            replace HP3 := hid (HP3.out.below hb)
                            replace HP4 := hid (HP4.out.below hb)
                            replace HP5 := hid (HP5.out.below hb)
                            replace HQ1 := hid (HQ1.out.below hb)
                            replace HQ2 := hid (HQ2.out.below hb)
                            replace HQ3 := hid (HQ3.out.below hb)
                            replace HQ4 := hid (HQ4.out.below hb)
                            replace HQ5 := hid (HQ5.out.below hb)
                            replace HB := hid (below_trans HB.out hb)
                            clear hb
                            clear k00 k01 k02 z0
                            clear k10 k11 k12 z1
                            go_wp2_with fail
                            go_meet
                            case rel => exact ⟨rfl, HW.out⟩
                        case rest =>
                          obtain ⟨rfl, hb⟩ := hcut
                          replace HB := hid (below_trans HB.out hb)
                          clear hb
                          go_wp2
                          go_ret
                          exact ⟨rfl, HB.out⟩

end Go.Proofs.YtiblmkecipoanaaGreatDoor
