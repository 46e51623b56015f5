/- The law QuotOff: the walk. Printed by gen_quot. -/
import Derived.Test.YtiblmkecipoanaaGreatDoorQuotO
import Derived.Deep.CutBlock
namespace Go.Proofs.YtiblmkecipoanaaGreatDoor
open Go.RowKit

set_option maxRecDepth 100000 in
set_option maxHeartbeats 6400000 in
theorem off_no (g : Bool) (a : Option Addr) (cap : Nat) (e : Int) (xs : List Nat) (g2 : Bool) (a2 : Option Addr) (cap2 : Nat) (e2 : Int) (ys : List Nat) (w : World) (h : U32 w a xs) (h2 : U32 w a2 ys) (htab : Pow w) (ex ey : Nat) (x y : D) (ix : Is g xs e ex x) (iy : Is g2 ys e2 ey y) (q : D) (hq : q = (divR (bothE ex ey) x y).1) (k : Nat) (hk : k = (divR (bothE ex ey) x y).2) (h0 : k ≠ 0) :
    Calls Tryz.prog 9 #[.agg #[.bool g, .slice a xs.length cap, .int .i64 e], .agg #[.bool g2, .slice a2 ys.length cap2, .int .i64 e2]] w fun en w' => en = .returned (.bool true) ∧ Below w.heap.size w w' := by
  have C0 := fun W (hp : Pow W) => law3_shown W hp
  have C1 := fun W b c b2 c2 (h1 : U32 W b xs) (h2 : U32 W b2 ys) (hp : Pow W) => q_Div W b c b2 c2 ix iy h1 h2 hp
  rw [← hq, ← hk] at C1
  have hne : ((k : Int) != 0) = true := by rw [bne_iff_ne]; omega
  replace C0 := hid C0
  replace C1 := hid C1
  have HTAB := hid htab
  have HX0 := hid h
  have HY0 := hid h2
  clear htab h h2 ix iy hk h0 hq
  go_enter Tryz.func9, Tryz.ntmps9
  go_upto_region 1 with fail
  go_cut [5] from 22 (fun v w' => v = .bool true ∧ HasD w' (w.heap.size) g xs e a cap ∧ HasD w' (w.heap.size + 1) g2 ys e2 a2 cap2 ∧ Below w.heap.size w w')
  case first =>
    as_aux_lemma =>
      go_wp2_with fail
      refine (C0.out _ ((HTAB.out.alloc _).alloc _)).mono ?_
      rintro e1 w1 ⟨rfl, hb1⟩
      have HB1 := hid hb1
      clear hb1
      go_wp2_with fail
      go_meet
      case rel => exact ⟨rfl, boxed2 HX0.out HY0.out HB1.out⟩
  case rest =>
    obtain ⟨rfl, hX, hY, hb⟩ := hcut
    have HX := hid hX
    have HY := hid hY
    have HB := hid hb
    clear hb hX hY HX0 HY0 C0
    go_upto_region 2 with fail
    go_cut [6, 7] from 22 (fun v e w' => ∃ N b c, v = .pointer (some ⟨N, 0, none⟩) ∧ e = .int .i64 (k : Nat) ∧ HasD w' N q.neg (Num.limbs q.m) q.e b c ∧ Below wc.heap.size wc w')
    case first =>
      as_aux_lemma =>
        obtain ⟨⟨k00, k01, k02⟩, _⟩ := blk_three HX.out.blk
        have z0 := blk_lt HX.out.blk
        obtain ⟨⟨k10, k11, k12⟩, _⟩ := blk_three HY.out.blk
        have z1 := blk_lt HY.out.blk
        go_wp2_with fail
        refine (C1.out _ _ _ _ _ HX.out.u HY.out.u (HTAB.out.next HB.out)).mono ?_
        rintro e1 w1 ⟨b1, c1, rfl, ho⟩
        have HO := hid ho
        clear ho
        unfold decV
        go_wp2_with fail
        go_meet
        case rel => exact ⟨w1.heap.size, b1, c1, rfl, rfl, HasD.new HO.out.inD, HO.out.1.alloc HO.out.1.size _⟩
    case rest =>
      obtain ⟨NR, bR, cR, rfl, rfl, hR, hb⟩ := hcut
      replace HX := hid (HX.out.below hb)
      replace HY := hid (HY.out.below hb)
      replace HB := hid (below_trans HB.out hb)
      clear hb
      have HR := hid hR
      clear hR
      go_wp2
      go_ret
      exact ⟨rfl, HB.out⟩

set_option maxRecDepth 100000 in
set_option maxHeartbeats 6400000 in
theorem off_ok (g : Bool) (a : Option Addr) (cap : Nat) (e : Int) (xs : List Nat) (g2 : Bool) (a2 : Option Addr) (cap2 : Nat) (e2 : Int) (ys : List Nat) (w : World) (h : U32 w a xs) (h2 : U32 w a2 ys) (htab : Pow w) (x y : D) (ix : Is g xs e 0 x) (iy : Is g2 ys e2 0 y) (tx : Tk 0 x) (ty : Tk 0 y) (k : Nat) (hk : k = (divR (bothE 0 0) x y).2) (h0 : k = 0) :
    Calls Tryz.prog 9 #[.agg #[.bool g, .slice a xs.length cap, .int .i64 e], .agg #[.bool g2, .slice a2 ys.length cap2, .int .i64 e2]] w fun en w' => en = .returned (.bool true) ∧ Below w.heap.size w w' := by
  have gx := tx.good
  have gy := ty.good
  obtain ⟨Q, hQ⟩ : ∃ R, R = divR (bothE 0 0) x y := ⟨_, rfl⟩
  have gq : IsPlain Q.1 ∧ fitsB Q.1 = true := by rw [hQ]; exact div_good
  obtain ⟨P, hP⟩ : ∃ R, R = mulR Q.1 y := ⟨_, rfl⟩
  have gp : IsPlain P.1 ∧ fitsB P.1 = true := by rw [hP]; exact tell_good (prod_plain _ _)
  have gn : IsPlain (negD P.1) ∧ fitsB (negD P.1) = true := ⟨neg_plain gp.1, neg_fits gp.2⟩
  obtain ⟨T, hT⟩ : ∃ R, R = addR x (negD P.1) := ⟨_, rfl⟩
  have gt : IsPlain T.1 ∧ fitsB T.1 = true := by rw [hT]; exact tell_good (sumD_plain _ _)
  have ga := abs_good gt
  have gs := abs_good gx
  obtain ⟨M, hM⟩ : ∃ R, R = mulR (absD x) (plainD false 1 (-33)) := ⟨_, rfl⟩
  have gm : IsPlain M.1 ∧ fitsB M.1 = true := by rw [hM]; exact tell_good (prod_plain _ _)
  have iM : Is false [1] (-33) 0 (plainD false 1 (-33)) := by unfold Is; decide +kernel
  have fact : P.2 = 0 → T.2 = 0 → M.2 = 0 → (absD T.1).m = 0 ∨ cmpR (absD T.1) M.1 = -1 := fun z1 z2 z3 => off_facts gx gy hQ (by rw [hQ, ← hk]; exact h0) hP z1 hT z2 hM z3
  have C0 := fun W (hp : Pow W) => law3_shown W hp
  have C1 := fun W b c b2 c2 (h1 : U32 W b xs) (h2 : U32 W b2 ys) (hp : Pow W) => q_Div W b c b2 c2 ix iy h1 h2 hp
  have C2 := fun W b c b2 c2 (h1 : U32 W b (Num.limbs Q.1.m)) (h2 : U32 W b2 ys) (hp : Pow W) => c_Mul W b c b2 c2 (is_own gq) iy h1 h2 hp
  have C3 := fun W b c (h1 : U32 W b (Num.limbs P.1.m)) (hp : Pow W) => c_Neg W b c (is_own gp) h1 hp
  have C4 := fun W b c b2 c2 (h1 : U32 W b xs) (h2 : U32 W b2 (Num.limbs (negD P.1).m)) (hp : Pow W) => c_Add W b c b2 c2 ix (is_own gn) h1 h2 hp
  have C5 := fun W b c (h1 : U32 W b (Num.limbs T.1.m)) (hp : Pow W) => q_Abs W b c (is_own gt) h1 hp
  have C6 := fun W b c (h1 : U32 W b xs) (hp : Pow W) => q_Abs W b c ix h1 hp
  have C7 := fun W b c b2 c2 (h1 : U32 W b (Num.limbs (absD x).m)) (h2 : U32 W b2 [1]) (hp : Pow W) => c_Mul W b c b2 c2 (is_own gs) iM h1 h2 hp
  have C8 := fun W b c b2 c2 (h1 : U32 W b (Num.limbs (absD T.1).m)) (h2 : U32 W b2 (Num.limbs M.1.m)) (hp : Pow W) => c_Cmp W b c b2 c2 (is_own ga) (is_own gm) h1 h2 hp
  rw [← hQ, show Q.2 = k by rw [hQ, hk]] at C1
  rw [show bothE 0 0 = 0 from rfl, show binR 0 (mulR Q.1 y) = P from hP.symm] at C2
  rw [show bothE 0 0 = 0 from rfl, show binR 0 (addR x (negD P.1)) = T from hT.symm] at C4
  rw [show bothE 0 0 = 0 from rfl, show binR 0 (mulR (absD x) (plainD false 1 (-33))) = M from hM.symm] at C7
  rw [show bothE 0 0 = 0 from rfl, if_pos rfl] at C8
  simp only [List.length_cons, List.length_nil, Nat.zero_add] at C7
  obtain ⟨cc, hcc⟩ : ∃ c, c = cmpR (absD T.1) M.1 := ⟨_, rfl⟩
  rw [← hcc] at C8 fact
  have hne : ((k : Int) != 0) = false := by rw [bne_eq_false_iff_eq]; omega
  have hP3 : P.2 ≤ 3 := by rw [hP]; exact tell_le _
  have hT3 : T.2 ≤ 3 := by rw [hT]; exact tell_le _
  have hM3 : M.2 ≤ 3 := by rw [hM]; exact tell_le _
  obtain ⟨q, hq⟩ : ∃ r, r = Q.1 := ⟨_, rfl⟩
  obtain ⟨p, hp⟩ : ∃ r, r = P.1 := ⟨_, rfl⟩
  obtain ⟨pk, hpk⟩ : ∃ r, r = P.2 := ⟨_, rfl⟩
  obtain ⟨d, hd⟩ : ∃ r, r = T.1 := ⟨_, rfl⟩
  obtain ⟨dk, hdk⟩ : ∃ r, r = T.2 := ⟨_, rfl⟩
  obtain ⟨mm, hmm⟩ : ∃ r, r = M.1 := ⟨_, rfl⟩
  obtain ⟨mk, hmk⟩ : ∃ r, r = M.2 := ⟨_, rfl⟩
  rw [← hq] at C1 C2
  rw [← hp, ← hpk] at C2
  rw [← hp] at C3 C4
  rw [← hd, ← hdk] at C4
  rw [← hd] at C5 C8 fact
  rw [← hmm, ← hmk] at C7
  rw [← hmm] at C8
  rw [← hpk, ← hdk, ← hmk] at fact
  rw [← hpk] at hP3
  rw [← hdk] at hT3
  rw [← hmk] at hM3
  clear hq hp hpk hd hdk hmm hmk hQ hP hT hM gx gy gq gp gn gt ga gs gm iM hcc tx ty
  replace C0 := hid C0
  replace C1 := hid C1
  replace C2 := hid C2
  replace C3 := hid C3
  replace C4 := hid C4
  replace C5 := hid C5
  replace C6 := hid C6
  replace C7 := hid C7
  replace C8 := hid C8
  replace fact := hid fact
  have HTAB := hid htab
  have HX0 := hid h
  have HY0 := hid h2
  clear htab h h2 ix iy hk h0
  go_enter Tryz.func9, Tryz.ntmps9
  go_upto_region 1 with fail
  go_cut [5] from 22 (fun v w' => v = .bool true ∧ HasD w' (w.heap.size) g xs e a cap ∧ HasD w' (w.heap.size + 1) g2 ys e2 a2 cap2 ∧ Below w.heap.size w w')
  case first =>
    as_aux_lemma =>
      go_wp2_with fail
      refine (C0.out _ ((HTAB.out.alloc _).alloc _)).mono ?_
      rintro e1 w1 ⟨rfl, hb1⟩
      have HB1 := hid hb1
      clear hb1
      go_wp2_with fail
      go_meet
      case rel => exact ⟨rfl, boxed2 HX0.out HY0.out HB1.out⟩
  case rest =>
    obtain ⟨rfl, hX, hY, hb⟩ := hcut
    have HX := hid hX
    have HY := hid hY
    have HB := hid hb
    clear hb hX hY HX0 HY0 C0
    go_upto_region 2 with fail
    go_cut [6, 7] from 22 (fun v e w' => ∃ N b c, v = .pointer (some ⟨N, 0, none⟩) ∧ e = .int .i64 (k : Nat) ∧ HasD w' N q.neg (Num.limbs q.m) q.e b c ∧ Below wc.heap.size wc w')
    case first =>
      as_aux_lemma =>
        obtain ⟨⟨k00, k01, k02⟩, _⟩ := blk_three HX.out.blk
        have z0 := blk_lt HX.out.blk
        obtain ⟨⟨k10, k11, k12⟩, _⟩ := blk_three HY.out.blk
        have z1 := blk_lt HY.out.blk
        go_wp2_with fail
        refine (C1.out _ _ _ _ _ HX.out.u HY.out.u (HTAB.out.next HB.out)).mono ?_
        rintro e1 w1 ⟨b1, c1, rfl, ho⟩
        have HO := hid ho
        clear ho
        unfold decV
        go_wp2_with fail
        go_meet
        case rel => exact ⟨w1.heap.size, b1, c1, rfl, rfl, HasD.new HO.out.inD, HO.out.1.alloc HO.out.1.size _⟩
    case rest =>
      obtain ⟨NQ, bQ, cQ, rfl, rfl, hQ, hb⟩ := hcut
      replace HX := hid (HX.out.below hb)
      replace HY := hid (HY.out.below hb)
      replace HB := hid (below_trans HB.out hb)
      clear hb
      have HQ := hid hQ
      clear hQ
      go_upto_region 3 with fail
      go_cut [30] from 22 (fun v w' => v = .bool false ∧ Below wc.heap.size wc w')
      case first =>
        as_aux_lemma =>
          go_wp2_with fail
          go_meet
          case rel => exact ⟨rfl, Below.refl _ _⟩
      case rest =>
        obtain ⟨rfl, hb⟩ := hcut
        replace HX := hid (HX.out.below hb)
        replace HY := hid (HY.out.below hb)
        replace HQ := hid (HQ.out.below hb)
        replace HB := hid (below_trans HB.out hb)
        clear hb
        go_upto_region 5 with fail
        go_cut [8, 9] from 22 (fun v e w' => ∃ N b c, v = .pointer (some ⟨N, 0, none⟩) ∧ e = .int .i64 (pk : Nat) ∧ HasD w' N p.neg (Num.limbs p.m) p.e b c ∧ Below wc.heap.size wc w')
        case first =>
          as_aux_lemma =>
            obtain ⟨⟨k00, k01, k02⟩, _⟩ := blk_three HQ.out.blk
            have z0 := blk_lt HQ.out.blk
            obtain ⟨⟨k10, k11, k12⟩, _⟩ := blk_three HY.out.blk
            have z1 := blk_lt HY.out.blk
            go_wp2_with fail
            refine (C2.out _ _ _ _ _ HQ.out.u HY.out.u (HTAB.out.next HB.out)).mono ?_
            rintro e1 w1 ⟨b1, c1, rfl, ho⟩
            have HO := hid ho
            clear ho
            unfold decV
            go_wp2_with fail
            go_meet
            case rel => exact ⟨w1.heap.size, b1, c1, rfl, rfl, HasD.new HO.out.inD, HO.out.1.alloc HO.out.1.size _⟩
        case rest =>
          obtain ⟨NP, bP, cP, rfl, rfl, hP, hb⟩ := hcut
          replace HX := hid (HX.out.below hb)
          replace HY := hid (HY.out.below hb)
          replace HQ := hid (HQ.out.below hb)
          replace HB := hid (below_trans HB.out hb)
          clear hb
          have HP := hid hP
          clear hP
          clear HQ HY
          go_upto_region 6 with fail
          go_cut [10, 11] from 22 (fun v e w' => ∃ N b c, v = .pointer (some ⟨N, 0, none⟩) ∧ e = .int .i64 (0 : Nat) ∧ HasD w' N (negD p).neg (Num.limbs (negD p).m) (negD p).e b c ∧ Below wc.heap.size wc w')
          case first =>
            as_aux_lemma =>
              obtain ⟨⟨k00, k01, k02⟩, _⟩ := blk_three HP.out.blk
              have z0 := blk_lt HP.out.blk
              go_wp2_with fail
              refine (C3.out _ _ _ HP.out.u (HTAB.out.next HB.out)).mono ?_
              rintro e1 w1 ⟨b1, c1, rfl, ho⟩
              have HO := hid ho
              clear ho
              unfold decV
              go_wp2_with fail
              go_meet
              case rel => exact ⟨w1.heap.size, b1, c1, rfl, rfl, HasD.new HO.out.inD, HO.out.1.alloc HO.out.1.size _⟩
          case rest =>
            obtain ⟨NN, bN, cN, rfl, rfl, hN, hb⟩ := hcut
            replace HX := hid (HX.out.below hb)
            replace HP := hid (HP.out.below hb)
            replace HB := hid (below_trans HB.out hb)
            clear hb
            have HN := hid hN
            clear hN
            go_upto_region 7 with fail
            go_cut [12, 13] from 22 (fun v e w' => ∃ N b c, v = .pointer (some ⟨N, 0, none⟩) ∧ e = .int .i64 (dk : Nat) ∧ HasD w' N d.neg (Num.limbs d.m) d.e b c ∧ Below wc.heap.size wc w')
            case first =>
              as_aux_lemma =>
                obtain ⟨⟨k00, k01, k02⟩, _⟩ := blk_three HX.out.blk
                have z0 := blk_lt HX.out.blk
                obtain ⟨⟨k10, k11, k12⟩, _⟩ := blk_three HN.out.blk
                have z1 := blk_lt HN.out.blk
                go_wp2_with fail
                refine (C4.out _ _ _ _ _ HX.out.u HN.out.u (HTAB.out.next HB.out)).mono ?_
                rintro e1 w1 ⟨b1, c1, rfl, ho⟩
                have HO := hid ho
                clear ho
                unfold decV
                go_wp2_with fail
                go_meet
                case rel => exact ⟨w1.heap.size, b1, c1, rfl, rfl, HasD.new HO.out.inD, HO.out.1.alloc HO.out.1.size _⟩
            case rest =>
              obtain ⟨NDD, bDD, cDD, rfl, rfl, hDD, hb⟩ := hcut
              replace HX := hid (HX.out.below hb)
              replace HP := hid (HP.out.below hb)
              replace HN := hid (HN.out.below hb)
              replace HB := hid (below_trans HB.out hb)
              clear hb
              have HDD := hid hDD
              clear hDD
              clear HP HN
              go_upto_region 8 with fail
              go_cut [14, 15] from 22 (fun v e w' => ∃ N b c, v = .pointer (some ⟨N, 0, none⟩) ∧ e = .int .i64 (0 : Nat) ∧ HasD w' N (absD d).neg (Num.limbs (absD d).m) (absD d).e b c ∧ Below wc.heap.size wc w')
              case first =>
                as_aux_lemma =>
                  obtain ⟨⟨k00, k01, k02⟩, _⟩ := blk_three HDD.out.blk
                  have z0 := blk_lt HDD.out.blk
                  go_wp2_with fail
                  refine (C5.out _ _ _ HDD.out.u (HTAB.out.next HB.out)).mono ?_
                  rintro e1 w1 ⟨b1, c1, rfl, ho⟩
                  have HO := hid ho
                  clear ho
                  unfold decV
                  go_wp2_with fail
                  go_meet
                  case rel => exact ⟨w1.heap.size, b1, c1, rfl, rfl, HasD.new HO.out.inD, HO.out.1.alloc HO.out.1.size _⟩
              case rest =>
                obtain ⟨NO, bO, cO, rfl, rfl, hO, hb⟩ := hcut
                replace HX := hid (HX.out.below hb)
                replace HDD := hid (HDD.out.below hb)
                replace HB := hid (below_trans HB.out hb)
                clear hb
                have HO := hid hO
                clear hO
                go_upto_region 9 with fail
                go_cut [16, 17] from 22 (fun v e w' => ∃ N b c, v = .pointer (some ⟨N, 0, none⟩) ∧ e = .int .i64 (0 : Nat) ∧ HasD w' N (absD x).neg (Num.limbs (absD x).m) (absD x).e b c ∧ Below wc.heap.size wc w')
                case first =>
                  as_aux_lemma =>
                    obtain ⟨⟨k00, k01, k02⟩, _⟩ := blk_three HX.out.blk
                    have z0 := blk_lt HX.out.blk
                    go_wp2_with fail
                    refine (C6.out _ _ _ HX.out.u (HTAB.out.next HB.out)).mono ?_
                    rintro e1 w1 ⟨b1, c1, rfl, ho⟩
                    have HO := hid ho
                    clear ho
                    unfold decV
                    go_wp2_with fail
                    go_meet
                    case rel => exact ⟨w1.heap.size, b1, c1, rfl, rfl, HasD.new HO.out.inD, HO.out.1.alloc HO.out.1.size _⟩
                case rest =>
                  obtain ⟨NS, bS, cS, rfl, rfl, hS, hb⟩ := hcut
                  replace HX := hid (HX.out.below hb)
                  replace HDD := hid (HDD.out.below hb)
                  replace HO := hid (HO.out.below hb)
                  replace HB := hid (below_trans HB.out hb)
                  clear hb
                  have HS := hid hS
                  clear hS
                  go_upto_region 10 with fail
                  go_cut [18, 19] from 22 (fun v e w' => ∃ N b c, v = .pointer (some ⟨N, 0, none⟩) ∧ e = .int .i64 (mk : Nat) ∧ HasD w' N mm.neg (Num.limbs mm.m) mm.e b c ∧ Below wc.heap.size wc w')
                  case first =>
                    as_aux_lemma =>
                      obtain ⟨⟨k00, k01, k02⟩, _⟩ := blk_three HS.out.blk
                      have z0 := blk_lt HS.out.blk
                      go_wp2_with fail
                      refine (C7.out _ _ _ (some ⟨wc.heap.size, 0, none⟩) 1 (HS.out.u.below ((Below.refl _ _).alloc (Nat.le_refl _) _)) (u32_one (by decide) (blk_cell (blk_new wc _) 0)) ((HTAB.out.next HB.out).alloc _)).mono ?_
                      rintro e1 w1 ⟨b1, c1, rfl, ho⟩
                      have HO := hid ho
                      have HB1 := hid (below_alloc ho.1)
                      clear ho
                      unfold decV
                      go_wp2_with fail
                      go_meet
                      case rel => exact ⟨w1.heap.size, b1, c1, rfl, rfl, HasD.new HO.out.inD, HB1.out.alloc HB1.out.size _⟩
                  case rest =>
                    obtain ⟨NM, bM, cM, rfl, rfl, hM, hb⟩ := hcut
                    replace HX := hid (HX.out.below hb)
                    replace HDD := hid (HDD.out.below hb)
                    replace HO := hid (HO.out.below hb)
                    replace HS := hid (HS.out.below hb)
                    replace HB := hid (below_trans HB.out hb)
                    clear hb
                    have HM := hid hM
                    clear hM
                    by_cases hz : pk = 0 ∧ dk = 0 ∧ mk = 0
                    · obtain ⟨z1, z2, z3⟩ := hz
                      have fin := fact.out z1 z2 z3
                      have hs : ((pk : Int) + 0 + (dk : Int) + 0 + 0 + (mk : Int) != 0) = false := by rw [bne_eq_false_iff_eq]; omega
                      have hs2 := hs
                      simp only [Int.add_zero] at hs2
                      replace fin := hid fin
                      clear z1 z2 z3
                      go_upto_region 13 with fail
                      go_cut [20, 21] from 22 (fun v e w' => v = .int .i64 cc ∧ e = .int .i64 (0 : Nat) ∧ Below wc.heap.size wc w')
                      case first =>
                        as_aux_lemma =>
                          obtain ⟨⟨k00, k01, k02⟩, _⟩ := blk_three HO.out.blk
                          have z0 := blk_lt HO.out.blk
                          obtain ⟨⟨k10, k11, k12⟩, _⟩ := blk_three HM.out.blk
                          have z1 := blk_lt HM.out.blk
                          go_wp2_with fail
                          refine (C8.out _ _ _ _ _ HO.out.u HM.out.u (HTAB.out.next HB.out)).mono ?_
                          rintro e1 w1 ⟨rfl, ho⟩
                          have HO := hid ho
                          clear ho
                          go_wp2_with fail
                          go_meet
                          case rel => exact ⟨rfl, rfl, HO.out⟩
                      case rest =>
                        obtain ⟨rfl, rfl, hb⟩ := hcut
                        replace HX := hid (HX.out.below hb)
                        replace HDD := hid (HDD.out.below hb)
                        replace HO := hid (HO.out.below hb)
                        replace HS := hid (HS.out.below hb)
                        replace HM := hid (HM.out.below hb)
                        replace HB := hid (below_trans HB.out hb)
                        clear hb
                        obtain ⟨nl, hnl⟩ : ∃ l, l = (Num.limbs (absD d).m).length := ⟨_, rfl⟩
                        have f2 : nl = 0 ∨ cc = -1 := by rw [hnl, limbs_zero_iff]; exact fin.out
                        obtain ⟨⟨k00, k01, k02⟩, _⟩ := blk_three HO.out.blk
                        have z0 := blk_lt HO.out.blk
                        rw [← hnl] at k01
                        clear fin hnl
                        rcases f2 with f2 | f2
                        · have i1 : ((nl : Int) == 0) = true := by rw [beq_iff_eq]; omega
                          clear f2
                          by_cases hc : cc < 0
                          · go_wp2
                            go_ret
                            exact ⟨rfl, HB.out⟩
                          · go_wp2
                            go_ret
                            exact ⟨rfl, HB.out⟩
                        · subst f2
                          go_wp2
                          go_ret
                          exact ⟨rfl, HB.out⟩
                    · have hs : ((pk : Int) + 0 + (dk : Int) + 0 + 0 + (mk : Int) != 0) = true := by rw [bne_iff_ne]; omega
                      have hs2 := hs
                      simp only [Int.add_zero] at hs2
                      clear hz
                      go_wp2
                      go_ret
                      exact ⟨rfl, HB.out⟩

theorem law_QuotOff (g : Bool) (a : Option Addr) (cap : Nat) (e : Int) (xs : List Nat) (g2 : Bool) (a2 : Option Addr) (cap2 : Nat) (e2 : Int) (ys : List Nat) (w : World) (h : U32 w a xs) (h2 : U32 w a2 ys) (htab : Pow w) :
    Calls Tryz.prog 9 #[.agg #[.bool g, .slice a xs.length cap, .int .i64 e], .agg #[.bool g2, .slice a2 ys.length cap2, .int .i64 e2]] w fun en w' => en = .returned (.bool true) ∧ Below w.heap.size w w' := by
  obtain ⟨ex, x, ix, tx, vx⟩ := is_arg g xs e
  obtain ⟨ey, y, iy, ty, vy⟩ := is_arg g2 ys e2
  by_cases h0 : (divR (bothE ex ey) x y).2 = 0
  · obtain ⟨rfl, rfl⟩ : ex = 0 ∧ ey = 0 := bothE_zero (Classical.byContradiction fun h => by
      unfold divR at h0
      rw [if_pos h] at h0
      exact h h0)
    exact off_ok g a cap e xs g2 a2 cap2 e2 ys w h h2 htab x y ix iy tx ty _ rfl h0
  · exact off_no g a cap e xs g2 a2 cap2 e2 ys w h h2 htab ex ey x y ix iy _ rfl _ rfl h0

end Go.Proofs.YtiblmkecipoanaaGreatDoor
