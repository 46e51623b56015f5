/- The law QuotBetween: the walk. Printed by gen_quot. -/
import Derived.Test.YtiblmkecipoanaaGreatDoorQuotP
import Derived.Deep.CutBlock
namespace Go.Proofs.YtiblmkecipoanaaGreatDoor
open Go.RowKit

set_option maxRecDepth 100000 in
set_option maxHeartbeats 6400000 in
theorem between_no (g : Bool) (a : Option Addr) (cap : Nat) (e : Int) (xs : List Nat) (w : World) (h : U32 w a xs) (htab : Pow w) (ex : Nat) (x : D) (ix : Is g xs e ex x) (h0 : ex ≠ 0) :
    Calls Tryz.prog 7 #[.agg #[.bool g, .slice a xs.length cap, .int .i64 e]] w fun en w' => en = .returned (.bool true) ∧ Below w.heap.size w w' := by
  have C0 := fun W (hp : Pow W) => law3_shown W hp
  have C1 := fun W b c (h1 : U32 W b xs) (hp : Pow W) => c_Norm W b c ix h1 hp
  have C2 := fun W b c (h1 : U32 W b xs) (hp : Pow W) => q_Floor W b c ix h1 hp
  have C3 := fun W b c (h1 : U32 W b xs) (hp : Pow W) => q_Ceil W b c ix h1 hp
  have C4 := fun W b c (h1 : U32 W b xs) (hp : Pow W) => q_Trunc W b c ix h1 hp
  have C5 := fun W b c (h1 : U32 W b xs) (hp : Pow W) => q_Round W b c ix h1 hp
  have C6 := fun W b c (h1 : U32 W b xs) (hp : Pow W) => c_Neg W b c ix h1 hp
  rw [round_bad h0] at C2 C3 C4 C5
  have hne : ((ex : Int) != 0) = true := by rw [bne_iff_ne]; omega
  have heq : ((ex : Int) == (ex : Int)) = true := by simp
  replace C0 := hid C0
  replace C1 := hid C1
  replace C2 := hid C2
  replace C3 := hid C3
  replace C4 := hid C4
  replace C5 := hid C5
  replace C6 := hid C6
  have HTAB := hid htab
  have HX0 := hid h
  clear htab h ix h0
  go_enter Tryz.func7, Tryz.ntmps7
  go_upto_region 1 with fail
  go_cut [3] from 27 (fun v w' => v = .bool true ∧ HasD w' (w.heap.size) g xs e a cap ∧ Below w.heap.size w w')
  case first =>
    as_aux_lemma =>
      go_wp2_with fail
      refine (C0.out _ (HTAB.out.alloc _)).mono ?_
      rintro e1 w1 ⟨rfl, hb1⟩
      have HB1 := hid hb1
      clear hb1
      go_wp2_with fail
      go_meet
      case rel => exact ⟨rfl, boxed1 HX0.out HB1.out⟩
  case rest =>
    obtain ⟨rfl, hX, hb⟩ := hcut
    have HX := hid hX
    have HB := hid hb
    clear hb hX HX0 C0
    go_upto_region 2 with fail
    go_cut [4, 5] from 27 (fun v e w' => ∃ N b c, v = .pointer (some ⟨N, 0, none⟩) ∧ e = .int .i64 (ex : Nat) ∧ HasD w' N x.neg (Num.limbs x.m) x.e b c ∧ Below wc.heap.size wc w')
    case first =>
      as_aux_lemma =>
        obtain ⟨⟨k00, k01, k02⟩, _⟩ := blk_three HX.out.blk
        have z0 := blk_lt HX.out.blk
        go_wp2_with fail
        refine (C1.out _ _ _ HX.out.u (HTAB.out.next HB.out)).mono ?_
        rintro e1 w1 ⟨b1, c1, rfl, ho⟩
        have HO := hid ho
        clear ho
        unfold decV
        go_wp2_with fail
        go_meet
        case rel => exact ⟨w1.heap.size, b1, c1, rfl, rfl, HasD.new HO.out.inD, HO.out.1.alloc HO.out.1.size _⟩
    case rest =>
      obtain ⟨NNX, bNX, cNX, rfl, rfl, hNX, hb⟩ := hcut
      replace HX := hid (HX.out.below hb)
      replace HB := hid (below_trans HB.out hb)
      clear hb
      have HNX := hid hNX
      clear hNX
      go_upto_region 3 with fail
      go_cut [6, 7] from 27 (fun v e w' => ∃ N b c, v = .pointer (some ⟨N, 0, none⟩) ∧ e = .int .i64 (ex : Nat) ∧ HasD w' N x.neg (Num.limbs x.m) x.e b c ∧ Below wc.heap.size wc w')
      case first =>
        as_aux_lemma =>
          obtain ⟨⟨k00, k01, k02⟩, _⟩ := blk_three HX.out.blk
          have z0 := blk_lt HX.out.blk
          go_wp2_with fail
          refine (C2.out _ _ _ HX.out.u (HTAB.out.next HB.out)).mono ?_
          rintro e1 w1 ⟨b1, c1, rfl, ho⟩
          have HO := hid ho
          clear ho
          unfold decV
          go_wp2_with fail
          go_meet
          case rel => exact ⟨w1.heap.size, b1, c1, rfl, rfl, HasD.new HO.out.inD, HO.out.1.alloc HO.out.1.size _⟩
      case rest =>
        obtain ⟨NLO, bLO, cLO, rfl, rfl, hLO, hb⟩ := hcut
        replace HX := hid (HX.out.below hb)
        replace HB := hid (below_trans HB.out hb)
        clear hb
        have HLO := hid hLO
        clear hLO
        go_upto_region 4 with fail
        go_cut [8, 9] from 27 (fun v e w' => ∃ N b c, v = .pointer (some ⟨N, 0, none⟩) ∧ e = .int .i64 (ex : Nat) ∧ HasD w' N x.neg (Num.limbs x.m) x.e b c ∧ Below wc.heap.size wc w')
        case first =>
          as_aux_lemma =>
            obtain ⟨⟨k00, k01, k02⟩, _⟩ := blk_three HX.out.blk
            have z0 := blk_lt HX.out.blk
            go_wp2_with fail
            refine (C3.out _ _ _ HX.out.u (HTAB.out.next HB.out)).mono ?_
            rintro e1 w1 ⟨b1, c1, rfl, ho⟩
            have HO := hid ho
            clear ho
            unfold decV
            go_wp2_with fail
            go_meet
            case rel => exact ⟨w1.heap.size, b1, c1, rfl, rfl, HasD.new HO.out.inD, HO.out.1.alloc HO.out.1.size _⟩
        case rest =>
          obtain ⟨NHI, bHI, cHI, rfl, rfl, hHI, hb⟩ := hcut
          replace HX := hid (HX.out.below hb)
          replace HB := hid (below_trans HB.out hb)
          clear hb
          have HHI := hid hHI
          clear hHI
          go_upto_region 5 with fail
          go_cut [10, 11] from 27 (fun v e w' => ∃ N b c, v = .pointer (some ⟨N, 0, none⟩) ∧ e = .int .i64 (ex : Nat) ∧ HasD w' N x.neg (Num.limbs x.m) x.e b c ∧ Below wc.heap.size wc w')
          case first =>
            as_aux_lemma =>
              obtain ⟨⟨k00, k01, k02⟩, _⟩ := blk_three HX.out.blk
              have z0 := blk_lt HX.out.blk
              go_wp2_with fail
              refine (C4.out _ _ _ HX.out.u (HTAB.out.next HB.out)).mono ?_
              rintro e1 w1 ⟨b1, c1, rfl, ho⟩
              have HO := hid ho
              clear ho
              unfold decV
              go_wp2_with fail
              go_meet
              case rel => exact ⟨w1.heap.size, b1, c1, rfl, rfl, HasD.new HO.out.inD, HO.out.1.alloc HO.out.1.size _⟩
          case rest =>
            obtain ⟨NCU, bCU, cCU, rfl, rfl, hCU, hb⟩ := hcut
            replace HX := hid (HX.out.below hb)
            replace HB := hid (below_trans HB.out hb)
            clear hb
            have HCU := hid hCU
            clear hCU
            go_upto_region 6 with fail
            go_cut [12, 13] from 27 (fun v e w' => ∃ N b c, v = .pointer (some ⟨N, 0, none⟩) ∧ e = .int .i64 (ex : Nat) ∧ HasD w' N x.neg (Num.limbs x.m) x.e b c ∧ Below wc.heap.size wc w')
            case first =>
              as_aux_lemma =>
                obtain ⟨⟨k00, k01, k02⟩, _⟩ := blk_three HX.out.blk
                have z0 := blk_lt HX.out.blk
                go_wp2_with fail
                refine (C5.out _ _ _ HX.out.u (HTAB.out.next HB.out)).mono ?_
                rintro e1 w1 ⟨b1, c1, rfl, ho⟩
                have HO := hid ho
                clear ho
                unfold decV
                go_wp2_with fail
                go_meet
                case rel => exact ⟨w1.heap.size, b1, c1, rfl, rfl, HasD.new HO.out.inD, HO.out.1.alloc HO.out.1.size _⟩
            case rest =>
              obtain ⟨NNE, bNE, cNE, rfl, rfl, hNE, hb⟩ := hcut
              replace HX := hid (HX.out.below hb)
              replace HB := hid (below_trans HB.out hb)
              clear hb
              have HNE := hid hNE
              clear hNE
              go_upto_region 7 with fail
              go_cut [14, 15] from 27 (fun v e w' => ∃ N b c, v = .pointer (some ⟨N, 0, none⟩) ∧ e = .int .i64 (ex : Nat) ∧ HasD w' N (negD x).neg (Num.limbs (negD x).m) (negD x).e b c ∧ Below wc.heap.size wc w')
              case first =>
                as_aux_lemma =>
                  obtain ⟨⟨k00, k01, k02⟩, _⟩ := blk_three HX.out.blk
                  have z0 := blk_lt HX.out.blk
                  go_wp2_with fail
                  refine (C6.out _ _ _ HX.out.u (HTAB.out.next HB.out)).mono ?_
                  rintro e1 w1 ⟨b1, c1, rfl, ho⟩
                  have HO := hid ho
                  clear ho
                  unfold decV
                  go_wp2_with fail
                  go_meet
                  case rel => exact ⟨w1.heap.size, b1, c1, rfl, rfl, HasD.new HO.out.inD, HO.out.1.alloc HO.out.1.size _⟩
              case rest =>
                obtain ⟨NNG, bNG, cNG, rfl, rfl, hNG, hb⟩ := hcut
                replace HX := hid (HX.out.below hb)
                replace HB := hid (below_trans HB.out hb)
                clear hb
                have HNG := hid hNG
                clear hNG
                go_wp2
                go_ret
                exact ⟨rfl, HB.out⟩

set_option maxRecDepth 100000 in
set_option maxHeartbeats 6400000 in
theorem between_ok (g : Bool) (a : Option Addr) (cap : Nat) (e : Int) (xs : List Nat) (w : World) (h : U32 w a xs) (htab : Pow w) (x : D) (ix : Is g xs e 0 x) (tx : Tk 0 x) :
    Calls Tryz.prog 7 #[.agg #[.bool g, .slice a xs.length cap, .int .i64 e]] w fun en w' => en = .returned (.bool true) ∧ Below w.heap.size w w' := by
  have gx := tx.good
  obtain ⟨LO, hLO⟩ : ∃ R, R = roundR 0 x 1 := ⟨_, rfl⟩
  obtain ⟨HI, hHI⟩ : ∃ R, R = roundR 0 x 2 := ⟨_, rfl⟩
  obtain ⟨CU, hCU⟩ : ∃ R, R = roundR 0 x 0 := ⟨_, rfl⟩
  obtain ⟨NE, hNE⟩ : ∃ R, R = roundR 0 x 3 := ⟨_, rfl⟩
  have glo : IsPlain LO.1 ∧ fitsB LO.1 = true := by rw [hLO]; exact round_good gx 0 1
  have ghi : IsPlain HI.1 ∧ fitsB HI.1 = true := by rw [hHI]; exact round_good gx 0 2
  have gcu : IsPlain CU.1 ∧ fitsB CU.1 = true := by rw [hCU]; exact round_good gx 0 0
  have gne : IsPlain NE.1 ∧ fitsB NE.1 = true := by rw [hNE]; exact round_good gx 0 3
  have gng : IsPlain (negD x) ∧ fitsB (negD x) = true := ⟨neg_plain gx.1, neg_fits gx.2⟩
  have gone : IsPlain (plainD false 1 0) ∧ fitsB (plainD false 1 0) = true := ⟨plainD_plain _ _ _, by decide +kernel⟩
  obtain ⟨NX, hNX⟩ : ∃ R, R = addR LO.1 (plainD false 1 0) := ⟨_, rfl⟩
  obtain ⟨BK, hBK⟩ : ∃ R, R = roundR 0 (negD x) 1 := ⟨_, rfl⟩
  have gnx : IsPlain NX.1 ∧ fitsB NX.1 = true := by rw [hNX]; exact tell_good (sumD_plain _ _)
  have gbk : IsPlain BK.1 ∧ fitsB BK.1 = true := by rw [hBK]; exact round_good gng 0 1
  have C0 := fun W (hp : Pow W) => law3_shown W hp
  have C1 := fun W b c (h1 : U32 W b xs) (hp : Pow W) => c_Norm W b c ix h1 hp
  have C2 := fun W b c (h1 : U32 W b xs) (hp : Pow W) => q_Floor W b c ix h1 hp
  have C3 := fun W b c (h1 : U32 W b xs) (hp : Pow W) => q_Ceil W b c ix h1 hp
  have C4 := fun W b c (h1 : U32 W b xs) (hp : Pow W) => q_Trunc W b c ix h1 hp
  have C5 := fun W b c (h1 : U32 W b xs) (hp : Pow W) => q_Round W b c ix h1 hp
  have C6 := fun W b c (h1 : U32 W b xs) (hp : Pow W) => c_Neg W b c ix h1 hp
  rw [← hLO] at C2
  rw [← hHI] at C3
  rw [← hCU] at C4
  rw [← hNE] at C5
  obtain ⟨wb, hwb⟩ : ∃ b, b = (decide ((0 : Nat) = 0) && decide (0 ≤ x.e)) := ⟨_, rfl⟩
  have CW := fun W b c (h1 : U32 W b xs) (hp : Pow W) => q_Whole W b c wb ix hwb h1 hp
  have r1 : LO.2 = 0 ∨ LO.2 = 3 := by rw [hLO]; exact round_err _ _
  have r2 : HI.2 = 0 ∨ HI.2 = 3 := by rw [hHI]; exact round_err _ _
  have r3 : CU.2 = 0 ∨ CU.2 = 3 := by rw [hCU]; exact round_err _ _
  have r4 : NE.2 = 0 ∨ NE.2 = 3 := by rw [hNE]; exact round_err _ _
  have fW : wb = true → LO.1 = x ∧ HI.1 = x ∧ CU.1 = x ∧ NE.1 = x := fun h => by
    have h0 : 0 ≤ x.e := by rw [hwb] at h; simpa using h
    rw [hLO, hHI, hCU, hNE, round_e h0, round_e h0, round_e h0, round_e h0]
    exact ⟨rfl, rfl, rfl, rfl⟩
  have fF : wb = false → LO.2 = 0 → HI.2 = 0 → CU.2 = 0 → NE.2 = 0 → Between x LO.1 HI.1 CU.1 NE.1 := fun h z1 z2 z3 z4 => by
    have h0 : x.e < 0 := by
      rw [hwb] at h
      simpa using h
    exact between_facts gx h0 hLO hHI hCU hNE z1 z2 z3 z4
  have p1 : LO.2 ≤ 3 := by omega
  have p2 : HI.2 ≤ 3 := by omega
  have p3 : CU.2 ≤ 3 := by omega
  have p4 : NE.2 ≤ 3 := by omega
  obtain ⟨lo, hlo⟩ : ∃ r, r = LO.1 := ⟨_, rfl⟩
  obtain ⟨hi, hhi⟩ : ∃ r, r = HI.1 := ⟨_, rfl⟩
  obtain ⟨cu, hcu⟩ : ∃ r, r = CU.1 := ⟨_, rfl⟩
  obtain ⟨ne, hne⟩ : ∃ r, r = NE.1 := ⟨_, rfl⟩
  obtain ⟨k1, hk1⟩ : ∃ r, r = LO.2 := ⟨_, rfl⟩
  obtain ⟨k2, hk2⟩ : ∃ r, r = HI.2 := ⟨_, rfl⟩
  obtain ⟨k3, hk3⟩ : ∃ r, r = CU.2 := ⟨_, rfl⟩
  obtain ⟨k4, hk4⟩ : ∃ r, r = NE.2 := ⟨_, rfl⟩
  rw [← hlo, ← hk1] at C2
  rw [← hhi, ← hk2] at C3
  rw [← hcu, ← hk3] at C4
  rw [← hne, ← hk4] at C5
  rw [← hlo, ← hhi, ← hcu, ← hne] at fW
  rw [← hk1, ← hk2, ← hk3, ← hk4, ← hlo, ← hhi, ← hcu, ← hne] at fF
  rw [← hk1] at r1 p1
  rw [← hk2] at r2 p2
  rw [← hk3] at r3 p3
  rw [← hk4] at r4 p4
  rw [← hlo] at glo hNX
  rw [← hhi] at ghi
  rw [← hcu] at gcu
  rw [← hne] at gne
  have S0 := fun W b c b2 c2 (h1 : U32 W b (Num.limbs x.m)) (h2 : U32 W b2 (Num.limbs x.m)) (_hp : Pow W) => q_same W b c b2 c2 true x x (by simp) gx h1 h2
  have C7 := fun W b c (h1 : U32 W b (Num.limbs (negD x).m)) (hp : Pow W) => q_Floor W b c (is_own gng) h1 hp
  have C8 := fun W b c (h1 : U32 W b (Num.limbs hi.m)) (hp : Pow W) => c_Neg W b c (is_own ghi) h1 hp
  have C9 := fun W b c b2 c2 (h1 : U32 W b (Num.limbs lo.m)) (h2 : U32 W b2 (Num.limbs x.m)) (hp : Pow W) => c_Cmp W b c b2 c2 (is_own glo) (is_own gx) h1 h2 hp
  have C10 := fun W b c b2 c2 (h1 : U32 W b (Num.limbs x.m)) (h2 : U32 W b2 (Num.limbs hi.m)) (hp : Pow W) => c_Cmp W b c b2 c2 (is_own gx) (is_own ghi) h1 h2 hp
  have CA := fun W b c b2 c2 (h1 : U32 W b (Num.limbs lo.m)) (h2 : U32 W b2 (Num.limbs (plainD false 1 0).m)) (hp : Pow W) => c_Add W b c b2 c2 (is_own glo) (is_own gone) h1 h2 hp
  have CO := fun W (hp : Pow W) => dec_Of_pos 1 W (by decide) hp
  rw [← hBK] at C7
  rw [show bothE 0 0 = 0 from rfl, show binR 0 (addR lo (plainD false 1 0)) = NX from hNX.symm] at CA
  rw [show bothE 0 0 = 0 from rfl, if_pos rfl] at C9 C10
  obtain ⟨nx, hnx⟩ : ∃ r, r = NX.1 := ⟨_, rfl⟩
  obtain ⟨nk, hnk⟩ : ∃ r, r = NX.2 := ⟨_, rfl⟩
  obtain ⟨bk, hbk⟩ : ∃ r, r = BK.1 := ⟨_, rfl⟩
  obtain ⟨bkk, hbkk⟩ : ∃ r, r = BK.2 := ⟨_, rfl⟩
  have fN := fun (B : Between x lo hi cu ne) => B.next NX hNX
  have fB := fun (B : Between x lo hi cu ne) => B.back BK hBK
  rw [← hnx, ← hnk] at CA fN
  rw [← hbk, ← hbkk] at C7 fB
  rw [← hnx] at gnx
  rw [← hbk] at gbk
  have gnh : IsPlain (negD hi) ∧ fitsB (negD hi) = true := ⟨neg_plain ghi.1, neg_fits ghi.2⟩
  have SC := fun v (hv : v = decide (cu = lo)) W b c b2 c2 (h1 : U32 W b (Num.limbs cu.m)) (h2 : U32 W b2 (Num.limbs lo.m)) (_hp : Pow W) => q_same W b c b2 c2 v cu lo hv gcu h1 h2
  have SD := fun v (hv : v = decide (cu = hi)) W b c b2 c2 (h1 : U32 W b (Num.limbs cu.m)) (h2 : U32 W b2 (Num.limbs hi.m)) (_hp : Pow W) => q_same W b c b2 c2 v cu hi hv gcu h1 h2
  have SE := fun v (hv : v = decide (ne = lo)) W b c b2 c2 (h1 : U32 W b (Num.limbs ne.m)) (h2 : U32 W b2 (Num.limbs lo.m)) (_hp : Pow W) => q_same W b c b2 c2 v ne lo hv gne h1 h2
  have SF := fun v (hv : v = decide (ne = hi)) W b c b2 c2 (h1 : U32 W b (Num.limbs ne.m)) (h2 : U32 W b2 (Num.limbs hi.m)) (_hp : Pow W) => q_same W b c b2 c2 v ne hi hv gne h1 h2
  have SN := fun (hv : nx = hi) W b c b2 c2 (h1 : U32 W b (Num.limbs nx.m)) (h2 : U32 W b2 (Num.limbs hi.m)) (_hp : Pow W) => q_same W b c b2 c2 true nx hi (by rw [hv]; simp) gnx h1 h2
  have SB := fun (hv : bk = negD hi) W b c b2 c2 (h1 : U32 W b (Num.limbs bk.m)) (h2 : U32 W b2 (Num.limbs (negD hi).m)) (_hp : Pow W) => q_same W b c b2 c2 true bk (negD hi) (by rw [hv]; simp) gbk h1 h2
  have W1 := fun (h0 : 0 ≤ lo.e) W b c (h1 : U32 W b (Num.limbs lo.m)) (hp : Pow W) => q_Whole W b c true (is_own glo) (by simp [h0]) h1 hp
  have W2 := fun (h0 : 0 ≤ hi.e) W b c (h1 : U32 W b (Num.limbs hi.m)) (hp : Pow W) => q_Whole W b c true (is_own ghi) (by simp [h0]) h1 hp
  clear hlo hhi hcu hne hk1 hk2 hk3 hk4 hnx hnk hbk hbkk hNX hBK hLO hHI hCU hNE gx glo ghi gcu gne gng gone gnx gbk gnh tx hwb
  replace C0 := hid C0
  replace C1 := hid C1
  replace C2 := hid C2
  replace C3 := hid C3
  replace C4 := hid C4
  replace C5 := hid C5
  replace C6 := hid C6
  replace C7 := hid C7
  replace C8 := hid C8
  replace C9 := hid C9
  replace C10 := hid C10
  replace CA := hid CA
  replace CO := hid CO
  replace CW := hid CW
  replace S0 := hid S0
  replace SC := hid SC
  replace SD := hid SD
  replace SE := hid SE
  replace SF := hid SF
  replace SN := hid SN
  replace SB := hid SB
  replace W1 := hid W1
  replace W2 := hid W2
  replace fW := hid fW
  replace fF := hid fF
  replace fN := hid fN
  replace fB := hid fB
  replace r1 := hid r1
  replace r2 := hid r2
  replace r3 := hid r3
  replace r4 := hid r4
  have HTAB := hid htab
  have HX0 := hid h
  clear htab h ix
  go_enter Tryz.func7, Tryz.ntmps7
  go_upto_region 1 with fail
  go_cut [3] from 27 (fun v w' => v = .bool true ∧ HasD w' (w.heap.size) g xs e a cap ∧ Below w.heap.size w w')
  case first =>
    as_aux_lemma =>
      go_wp2_with fail
      refine (C0.out _ (HTAB.out.alloc _)).mono ?_
      rintro e1 w1 ⟨rfl, hb1⟩
      have HB1 := hid hb1
      clear hb1
      go_wp2_with fail
      go_meet
      case rel => exact ⟨rfl, boxed1 HX0.out HB1.out⟩
  case rest =>
    obtain ⟨rfl, hX, hb⟩ := hcut
    have HX := hid hX
    have HB := hid hb
    clear hb hX HX0 C0
    go_upto_region 2 with fail
    go_cut [4, 5] from 27 (fun v e w' => ∃ N b c, v = .pointer (some ⟨N, 0, none⟩) ∧ e = .int .i64 (0 : Nat) ∧ HasD w' N x.neg (Num.limbs x.m) x.e b c ∧ Below wc.heap.size wc w')
    case first =>
      as_aux_lemma =>
        obtain ⟨⟨k00, k01, k02⟩, _⟩ := blk_three HX.out.blk
        have z0 := blk_lt HX.out.blk
        go_wp2_with fail
        refine (C1.out _ _ _ HX.out.u (HTAB.out.next HB.out)).mono ?_
        rintro e1 w1 ⟨b1, c1, rfl, ho⟩
        have HO := hid ho
        clear ho
        unfold decV
        go_wp2_with fail
        go_meet
        case rel => exact ⟨w1.heap.size, b1, c1, rfl, rfl, HasD.new HO.out.inD, HO.out.1.alloc HO.out.1.size _⟩
    case rest =>
      obtain ⟨NNX, bNX, cNX, rfl, rfl, hNX, hb⟩ := hcut
      replace HX := hid (HX.out.below hb)
      replace HB := hid (below_trans HB.out hb)
      clear hb
      have HNX := hid hNX
      clear hNX
      go_upto_region 3 with fail
      go_cut [6, 7] from 27 (fun v e w' => ∃ N b c, v = .pointer (some ⟨N, 0, none⟩) ∧ e = .int .i64 (k1 : Nat) ∧ HasD w' N lo.neg (Num.limbs lo.m) lo.e b c ∧ Below wc.heap.size wc w')
      case first =>
        as_aux_lemma =>
          obtain ⟨⟨k00, k01, k02⟩, _⟩ := blk_three HX.out.blk
          have z0 := blk_lt HX.out.blk
          go_wp2_with fail
          refine (C2.out _ _ _ HX.out.u (HTAB.out.next HB.out)).mono ?_
          rintro e1 w1 ⟨b1, c1, rfl, ho⟩
          have HO := hid ho
          clear ho
          unfold decV
          go_wp2_with fail
          go_meet
          case rel => exact ⟨w1.heap.size, b1, c1, rfl, rfl, HasD.new HO.out.inD, HO.out.1.alloc HO.out.1.size _⟩
      case rest =>
        obtain ⟨NLO, bLO, cLO, rfl, rfl, hLO, hb⟩ := hcut
        replace HX := hid (HX.out.below hb)
        replace HNX := hid (HNX.out.below hb)
        replace HB := hid (below_trans HB.out hb)
        clear hb
        have HLO := hid hLO
        clear hLO
        go_upto_region 4 with fail
        go_cut [8, 9] from 27 (fun v e w' => ∃ N b c, v = .pointer (some ⟨N, 0, none⟩) ∧ e = .int .i64 (k2 : Nat) ∧ HasD w' N hi.neg (Num.limbs hi.m) hi.e b c ∧ Below wc.heap.size wc w')
        case first =>
          as_aux_lemma =>
            obtain ⟨⟨k00, k01, k02⟩, _⟩ := blk_three HX.out.blk
            have z0 := blk_lt HX.out.blk
            go_wp2_with fail
            refine (C3.out _ _ _ HX.out.u (HTAB.out.next HB.out)).mono ?_
            rintro e1 w1 ⟨b1, c1, rfl, ho⟩
            have HO := hid ho
            clear ho
            unfold decV
            go_wp2_with fail
            go_meet
            case rel => exact ⟨w1.heap.size, b1, c1, rfl, rfl, HasD.new HO.out.inD, HO.out.1.alloc HO.out.1.size _⟩
        case rest =>
          obtain ⟨NHI, bHI, cHI, rfl, rfl, hHI, hb⟩ := hcut
          replace HX := hid (HX.out.below hb)
          replace HNX := hid (HNX.out.below hb)
          replace HLO := hid (HLO.out.below hb)
          replace HB := hid (below_trans HB.out hb)
          clear hb
          have HHI := hid hHI
          clear hHI
          go_upto_region 5 with fail
          go_cut [10, 11] from 27 (fun v e w' => ∃ N b c, v = .pointer (some ⟨N, 0, none⟩) ∧ e = .int .i64 (k3 : Nat) ∧ HasD w' N cu.neg (Num.limbs cu.m) cu.e b c ∧ Below wc.heap.size wc w')
          case first =>
            as_aux_lemma =>
              obtain ⟨⟨k00, k01, k02⟩, _⟩ := blk_three HX.out.blk
              have z0 := blk_lt HX.out.blk
              go_wp2_with fail
              refine (C4.out _ _ _ HX.out.u (HTAB.out.next HB.out)).mono ?_
              rintro e1 w1 ⟨b1, c1, rfl, ho⟩
              have HO := hid ho
              clear ho
              unfold decV
              go_wp2_with fail
              go_meet
              case rel => exact ⟨w1.heap.size, b1, c1, rfl, rfl, HasD.new HO.out.inD, HO.out.1.alloc HO.out.1.size _⟩
          case rest =>
            obtain ⟨NCU, bCU, cCU, rfl, rfl, hCU, hb⟩ := hcut
            replace HX := hid (HX.out.below hb)
            replace HNX := hid (HNX.out.below hb)
            replace HLO := hid (HLO.out.below hb)
            replace HHI := hid (HHI.out.below hb)
            replace HB := hid (below_trans HB.out hb)
            clear hb
            have HCU := hid hCU
            clear hCU
            go_upto_region 6 with fail
            go_cut [12, 13] from 27 (fun v e w' => ∃ N b c, v = .pointer (some ⟨N, 0, none⟩) ∧ e = .int .i64 (k4 : Nat) ∧ HasD w' N ne.neg (Num.limbs ne.m) ne.e b c ∧ Below wc.heap.size wc w')
            case first =>
              as_aux_lemma =>
                obtain ⟨⟨k00, k01, k02⟩, _⟩ := blk_three HX.out.blk
                have z0 := blk_lt HX.out.blk
                go_wp2_with fail
                refine (C5.out _ _ _ HX.out.u (HTAB.out.next HB.out)).mono ?_
                rintro e1 w1 ⟨b1, c1, rfl, ho⟩
                have HO := hid ho
                clear ho
                unfold decV
                go_wp2_with fail
                go_meet
                case rel => exact ⟨w1.heap.size, b1, c1, rfl, rfl, HasD.new HO.out.inD, HO.out.1.alloc HO.out.1.size _⟩
            case rest =>
              obtain ⟨NNE, bNE, cNE, rfl, rfl, hNE, hb⟩ := hcut
              replace HX := hid (HX.out.below hb)
              replace HNX := hid (HNX.out.below hb)
              replace HLO := hid (HLO.out.below hb)
              replace HHI := hid (HHI.out.below hb)
              replace HCU := hid (HCU.out.below hb)
              replace HB := hid (below_trans HB.out hb)
              clear hb
              have HNE := hid hNE
              clear hNE
              go_upto_region 7 with fail
              go_cut [14, 15] from 27 (fun v e w' => ∃ N b c, v = .pointer (some ⟨N, 0, none⟩) ∧ e = .int .i64 (0 : Nat) ∧ HasD w' N (negD x).neg (Num.limbs (negD x).m) (negD x).e b c ∧ Below wc.heap.size wc w')
              case first =>
                as_aux_lemma =>
                  obtain ⟨⟨k00, k01, k02⟩, _⟩ := blk_three HX.out.blk
                  have z0 := blk_lt HX.out.blk
                  go_wp2_with fail
                  refine (C6.out _ _ _ HX.out.u (HTAB.out.next HB.out)).mono ?_
                  rintro e1 w1 ⟨b1, c1, rfl, ho⟩
                  have HO := hid ho
                  clear ho
                  unfold decV
                  go_wp2_with fail
                  go_meet
                  case rel => exact ⟨w1.heap.size, b1, c1, rfl, rfl, HasD.new HO.out.inD, HO.out.1.alloc HO.out.1.size _⟩
              case rest =>
                obtain ⟨NNG, bNG, cNG, rfl, rfl, hNG, hb⟩ := hcut
                replace HX := hid (HX.out.below hb)
                replace HNX := hid (HNX.out.below hb)
                replace HLO := hid (HLO.out.below hb)
                replace HHI := hid (HHI.out.below hb)
                replace HCU := hid (HCU.out.below hb)
                replace HNE := hid (HNE.out.below hb)
                replace HB := hid (below_trans HB.out hb)
                clear hb
                have HNG := hid hNG
                clear hNG
                go_upto_region 8 with fail
                go_cut [59] from 27 (fun v w' => v = .bool false ∧ Below wc.heap.size wc w')
                case first =>
                  as_aux_lemma =>
                    go_wp2_with fail
                    go_meet
                    case rel => exact ⟨rfl, Below.refl _ _⟩
                case rest =>
                  obtain ⟨rfl, hb⟩ := hcut
                  replace HX := hid (HX.out.below hb)
                  replace HNX := hid (HNX.out.below hb)
                  replace HLO := hid (HLO.out.below hb)
                  replace HHI := hid (HHI.out.below hb)
                  replace HCU := hid (HCU.out.below hb)
                  replace HNE := hid (HNE.out.below hb)
                  replace HNG := hid (HNG.out.below hb)
                  replace HB := hid (below_trans HB.out hb)
                  clear hb
                  by_cases hz : k1 = 0 ∧ k2 = 0 ∧ k3 = 0 ∧ k4 = 0
                  · as_aux_lemma =>
                      obtain ⟨z1, z2, z3, z4⟩ := hz
                      have fF1 := hid fun h => fF.out h z1 z2 z3 z4
                      have hs : ((k1 : Int) + (k2 : Int) + (k3 : Int) + (k4 : Int) + 0 != 0) = false := by rw [bne_eq_false_iff_eq]; omega
                      have hs2 := hs
                      simp only [Int.add_zero] at hs2
                      clear z1 z2 z3 z4
                      go_upto_region 10 with fail
                      go_cut [90] from 27 (fun v w' => v = .bool false ∧ Below wc.heap.size wc w')
                      case first =>
                        as_aux_lemma =>
                          go_wp2_with fail
                          go_meet
                          case rel => exact ⟨rfl, Below.refl _ _⟩
                      case rest =>
                        obtain ⟨rfl, hb⟩ := hcut
                        replace HX := hid (HX.out.below hb)
                        replace HNX := hid (HNX.out.below hb)
                        replace HLO := hid (HLO.out.below hb)
                        replace HHI := hid (HHI.out.below hb)
                        replace HCU := hid (HCU.out.below hb)
                        replace HNE := hid (HNE.out.below hb)
                        replace HNG := hid (HNG.out.below hb)
                        replace HB := hid (below_trans HB.out hb)
                        clear hb
                        go_upto_region 12 with fail
                        go_cut [109] from 27 (fun v w' => v = .bool wb ∧ Below wc.heap.size wc w')
                        case first =>
                          as_aux_lemma =>
                            obtain ⟨⟨k00, k01, k02⟩, _⟩ := blk_three HX.out.blk
                            have z0 := blk_lt HX.out.blk
                            go_wp2_with fail
                            refine (CW.out _ _ _ HX.out.u (HTAB.out.next HB.out)).mono ?_
                            rintro e1 w1 ⟨rfl, ho⟩
                            have HO := hid ho
                            clear ho
                            go_wp2_with fail
                            go_meet
                            case rel => exact ⟨rfl, HO.out⟩
                        case rest =>
                          obtain ⟨rfl, hb⟩ := hcut
                          replace HX := hid (HX.out.below hb)
                          replace HNX := hid (HNX.out.below hb)
                          replace HLO := hid (HLO.out.below hb)
                          replace HHI := hid (HHI.out.below hb)
                          replace HCU := hid (HCU.out.below hb)
                          replace HNE := hid (HNE.out.below hb)
                          replace HNG := hid (HNG.out.below hb)
                          replace HB := hid (below_trans HB.out hb)
                          clear hb
                          clear CW
                          cases wb with
                          | true =>
                            as_aux_lemma =>
                              obtain ⟨rfl, rfl, rfl, rfl⟩ := fW.out rfl
                              obtain ⟨⟨k00, k01, k02⟩, _⟩ := blk_three HLO.out.blk
                              have z0 := blk_lt HLO.out.blk
                              obtain ⟨⟨k10, k11, k12⟩, _⟩ := blk_three HNX.out.blk
                              have z1 := blk_lt HNX.out.blk
                              go_wp2_with fail
                              refine (S0.out _ _ _ _ _ HLO.out.u HNX.out.u (HTAB.out.next HB.out)).mono ?_
                              rintro e1 w1 ⟨rfl, hb⟩
                              have HW := hid hb
                              replace HNX := hid (HNX.out.below hb)
                              replace HLO := hid (HLO.out.below hb)
                              replace HHI := hid (HHI.out.below hb)
                              replace HCU := hid (HCU.out.below hb)
                              replace HNE := hid (HNE.out.below hb)
                              replace HB := hid (below_trans HB.out hb)
                              clear hb
                              clear k00 k01 k02 z0
                              clear k10 k11 k12 z1
                              obtain ⟨⟨k00, k01, k02⟩, _⟩ := blk_three HHI.out.blk
                              have z0 := blk_lt HHI.out.blk
                              obtain ⟨⟨k10, k11, k12⟩, _⟩ := blk_three HNX.out.blk
                              have z1 := blk_lt HNX.out.blk
                              go_wp2_with fail
                              refine (S0.out _ _ _ _ _ HHI.out.u HNX.out.u (HTAB.out.next HB.out)).mono ?_
                              rintro e1 w1 ⟨rfl, hb⟩
                              replace HW := hid (below_trans HW.out hb)
                              replace HNX := hid (HNX.out.below hb)
                              replace HLO := hid (HLO.out.below hb)
                              replace HHI := hid (HHI.out.below hb)
                              replace HCU := hid (HCU.out.below hb)
                              replace HNE := hid (HNE.out.below hb)
                              replace HB := hid (below_trans HB.out hb)
                              clear hb
                              clear k00 k01 k02 z0
                              clear k10 k11 k12 z1
                              obtain ⟨⟨k00, k01, k02⟩, _⟩ := blk_three HCU.out.blk
                              have z0 := blk_lt HCU.out.blk
                              obtain ⟨⟨k10, k11, k12⟩, _⟩ := blk_three HNX.out.blk
                              have z1 := blk_lt HNX.out.blk
                              go_wp2_with fail
                              refine (S0.out _ _ _ _ _ HCU.out.u HNX.out.u (HTAB.out.next HB.out)).mono ?_
                              rintro e1 w1 ⟨rfl, hb⟩
                              replace HW := hid (below_trans HW.out hb)
                              replace HNX := hid (HNX.out.below hb)
                              replace HLO := hid (HLO.out.below hb)
                              replace HHI := hid (HHI.out.below hb)
                              replace HCU := hid (HCU.out.below hb)
                              replace HNE := hid (HNE.out.below hb)
                              replace HB := hid (below_trans HB.out hb)
                              clear hb
                              clear k00 k01 k02 z0
                              clear k10 k11 k12 z1
                              obtain ⟨⟨k00, k01, k02⟩, _⟩ := blk_three HNE.out.blk
                              have z0 := blk_lt HNE.out.blk
                              obtain ⟨⟨k10, k11, k12⟩, _⟩ := blk_three HNX.out.blk
                              have z1 := blk_lt HNX.out.blk
                              go_wp2_with fail
                              refine (S0.out _ _ _ _ _ HNE.out.u HNX.out.u (HTAB.out.next HB.out)).mono ?_
                              rintro e1 w1 ⟨rfl, hb⟩
                              replace HW := hid (below_trans HW.out hb)
                              replace HNX := hid (HNX.out.below hb)
                              replace HLO := hid (HLO.out.below hb)
                              replace HHI := hid (HHI.out.below hb)
                              replace HCU := hid (HCU.out.below hb)
                              replace HNE := hid (HNE.out.below hb)
                              replace HB := hid (below_trans HB.out hb)
                              clear hb
                              clear k00 k01 k02 z0
                              clear k10 k11 k12 z1
                              go_wp2
                              go_ret
                              exact ⟨rfl, HB.out⟩
                          | false =>
                            as_aux_lemma =>
                              have B := fF1.out rfl
                              have fN1 := hid (fN.out B)
                              have fB1 := hid (fB.out B)
                              have c1 := B.less1
                              have c2 := B.less2
                              have HC := hid B.cut
                              have HN := hid B.near
                              have V1 := hid (W1.out B.lo0)
                              have V2 := hid (W2.out B.hi0)
                              rw [c1] at C9
                              rw [c2] at C10
                              clear B fF fF1 fN fB c1 c2 fW W1 W2
                              obtain ⟨⟨k00, k01, k02⟩, _⟩ := blk_three HLO.out.blk
                              have z0 := blk_lt HLO.out.blk
                              have CO1 : ∀ W, Below wc.heap.size wc W → Calls Tryz.prog 30 #[.int .i64 1] W (OutD W (plainD false 1 0)) := fun W hb => CO.out W (HTAB.out.next (HB.out.trans (hb.mono HB.out.size)))
                              have CA1 : ∀ W b2 c2, Below wc.heap.size wc W → U32 W b2 (Num.limbs (plainD false 1 0).m) → Calls Tryz.prog 29 #[.agg #[.bool lo.neg, .slice bLO (Num.limbs lo.m).length cLO, .int .i64 lo.e], .agg #[.bool (plainD false 1 0).neg, .slice b2 (Num.limbs (plainD false 1 0).m).length c2, .int .i64 (plainD false 1 0).e]] W (OutDE W nx nk) := fun W b2 c2 hb hu => CA.out W bLO cLO b2 c2 (HLO.out.u.below hb) hu (HTAB.out.next (HB.out.trans (hb.mono HB.out.size)))
                              obtain ⟨one, hone⟩ : ∃ d, d = plainD false 1 0 := ⟨_, rfl⟩
                              rw [← hone] at CO1 CA1
                              unfold OutD OwnD decV at CO1
                              unfold OutDE OwnD decV at CA1
                              replace CO1 := hid CO1
                              replace CA1 := hid CA1
                              clear hone CO CA
                              go_upto_region 14 with fail
                              go_cut [16, 17] from 27 (fun v e w' => ∃ N b c, v = .pointer (some ⟨N, 0, none⟩) ∧ e = .int .i64 (nk : Nat) ∧ HasD w' N nx.neg (Num.limbs nx.m) nx.e b c ∧ Below wc.heap.size wc w')
                              case first =>
                                as_aux_lemma =>
                                  have hsz := z0
                                  go_region_held3 (fun w' => w'.cell? ⟨NLO, 0, none⟩ = some (.bool lo.neg) ∧ w'.cell? ⟨NLO, 1, none⟩ = some (.slice bLO (Num.limbs lo.m).length cLO) ∧ w'.cell? ⟨NLO, 2, none⟩ = some (.int .i64 lo.e) ∧ Below wc.heap.size wc w') (first | (exact ⟨k00, k01, k02, (Below.refl _ _).drew⟩) | (exact keepQ3 (by assumption) (by assumption)) | (exact keepQ3a (by assumption) (by omega) (by omega)) | (exact keepQ3s (M := wc.heap.size) (by assumption) _ _ _ _ _ (by omega) (by omega) _ rfl) | (exact keepQ3s (M := w1.heap.size) (by assumption) _ _ _ _ _ (by omega) (by omega) _ rfl) | (exact keepQ3 (by assumption) ((Below.refl _ _).alloc (Nat.le_refl _) _))) ((first | (go_at_call 30; (with_reducible refine (CO1.out _ ?_).mono ?_); (simp only [*]); rintro e1 w1 ⟨bo1, co1, rfl, ho1⟩; have hb1 := ho1.1; have hs1 : wc.heap.size ≤ w1.heap.size := (by first | exact hb1.size | (have hh := hb1.size; simp at hh; omega)); (try have hqa : RecD w1 wc.heap.size := (by first | exact RecD.below ⟨_, _, _, _, _, blk_new wc _⟩ hb1 | exact RecD.below ⟨_, _, _, _, _, blk_new wc.drew _⟩ hb1))) | (go_at_call 29; (with_reducible refine (CA1.out _ _ _ ?_ (by first | exact u32_limbs ho1.2 | exact (u32_limbs ho1.2).below ((Below.refl _ _).alloc (Nat.le_refl _) _))).mono ?_); (simp only [*]); rintro e2 w2 ⟨bo2, co2, rfl, ho2⟩; have hb2 := ho2.1; have hs2 : w1.heap.size ≤ w2.heap.size := (by first | exact hb2.size | (have hh := hb2.size; simp at hh; omega)); have hsz2 : NLO < w2.heap.size := (by omega); (try have hqb : RecD w2 w1.heap.size := RecD.below ⟨_, _, _, _, _, blk_new _ _⟩ hb2); (try have hqb : RecD w2 wc.heap.size := hqa.below hb2); (try obtain ⟨_, _, _, u0, u1, u2⟩ := hqb.rec.cells.get); (try have v0 := hqb.rec.cells.frozen 0); (try have v1 := hqb.rec.cells.frozen 1); (try have v2 := hqb.rec.cells.frozen 2))))
                                  all_goals
                                    rename_i hHeld
                                    obtain ⟨_, _, _, hH⟩ := hHeld
                                    go_wp2_with fail
                                    go_meet
                                    case rel =>
                                      refine ⟨_, bo2, co2, rfl, rfl, ?_, hH⟩
                                      first | exact HasD.of_put hqb nx bo2 co2 (u32_limbs ho2.2) | exact HasD.new ⟨u32_limbs ho2.2⟩
                              case rest =>
                                obtain ⟨NNN, bNN, cNN, rfl, rfl, hNN, hb⟩ := hcut
                                clear k00 k01 k02 z0 CO1 CA1
                                replace HX := hid (HX.out.below hb)
                                replace HNX := hid (HNX.out.below hb)
                                replace HLO := hid (HLO.out.below hb)
                                replace HHI := hid (HHI.out.below hb)
                                replace HCU := hid (HCU.out.below hb)
                                replace HNE := hid (HNE.out.below hb)
                                replace HNG := hid (HNG.out.below hb)
                                replace HB := hid (below_trans HB.out hb)
                                clear hb
                                have HNN := hid hNN
                                clear hNN
                                go_upto_region 15 with fail
                                go_cut [18, 19] from 27 (fun v e w' => ∃ N b c, v = .pointer (some ⟨N, 0, none⟩) ∧ e = .int .i64 (bkk : Nat) ∧ HasD w' N bk.neg (Num.limbs bk.m) bk.e b c ∧ Below wc.heap.size wc w')
                                case first =>
                                  as_aux_lemma =>
                                    obtain ⟨⟨k00, k01, k02⟩, _⟩ := blk_three HNG.out.blk
                                    have z0 := blk_lt HNG.out.blk
                                    go_wp2_with fail
                                    refine (C7.out _ _ _ HNG.out.u (HTAB.out.next HB.out)).mono ?_
                                    rintro e1 w1 ⟨b1, c1, rfl, ho⟩
                                    have HO := hid ho
                                    clear ho
                                    unfold decV
                                    go_wp2_with fail
                                    go_meet
                                    case rel => exact ⟨w1.heap.size, b1, c1, rfl, rfl, HasD.new HO.out.inD, HO.out.1.alloc HO.out.1.size _⟩
                                case rest =>
                                  obtain ⟨NBK, bBK, cBK, rfl, rfl, hBK, hb⟩ := hcut
                                  replace HX := hid (HX.out.below hb)
                                  replace HNX := hid (HNX.out.below hb)
                                  replace HLO := hid (HLO.out.below hb)
                                  replace HHI := hid (HHI.out.below hb)
                                  replace HCU := hid (HCU.out.below hb)
                                  replace HNE := hid (HNE.out.below hb)
                                  replace HNG := hid (HNG.out.below hb)
                                  replace HNN := hid (HNN.out.below hb)
                                  replace HB := hid (below_trans HB.out hb)
                                  clear hb
                                  have HBK := hid hBK
                                  clear hBK
                                  go_upto_region 16 with fail
                                  go_cut [20, 21] from 27 (fun v e w' => ∃ N b c, v = .pointer (some ⟨N, 0, none⟩) ∧ e = .int .i64 (0 : Nat) ∧ HasD w' N (negD hi).neg (Num.limbs (negD hi).m) (negD hi).e b c ∧ Below wc.heap.size wc w')
                                  case first =>
                                    as_aux_lemma =>
                                      obtain ⟨⟨k00, k01, k02⟩, _⟩ := blk_three HHI.out.blk
                                      have z0 := blk_lt HHI.out.blk
                                      go_wp2_with fail
                                      refine (C8.out _ _ _ HHI.out.u (HTAB.out.next HB.out)).mono ?_
                                      rintro e1 w1 ⟨b1, c1, rfl, ho⟩
                                      have HO := hid ho
                                      clear ho
                                      unfold decV
                                      go_wp2_with fail
                                      go_meet
                                      case rel => exact ⟨w1.heap.size, b1, c1, rfl, rfl, HasD.new HO.out.inD, HO.out.1.alloc HO.out.1.size _⟩
                                  case rest =>
                                    obtain ⟨NOT, bOT, cOT, rfl, rfl, hOT, hb⟩ := hcut
                                    replace HX := hid (HX.out.below hb)
                                    replace HNX := hid (HNX.out.below hb)
                                    replace HLO := hid (HLO.out.below hb)
                                    replace HHI := hid (HHI.out.below hb)
                                    replace HCU := hid (HCU.out.below hb)
                                    replace HNE := hid (HNE.out.below hb)
                                    replace HNG := hid (HNG.out.below hb)
                                    replace HNN := hid (HNN.out.below hb)
                                    replace HBK := hid (HBK.out.below hb)
                                    replace HB := hid (below_trans HB.out hb)
                                    clear hb
                                    have HOT := hid hOT
                                    clear hOT
                                    go_upto_region 17 with fail
                                    go_cut [22, 23] from 27 (fun v e w' => v = .int .i64 (-1) ∧ e = .int .i64 (0 : Nat) ∧ Below wc.heap.size wc w')
                                    case first =>
                                      as_aux_lemma =>
                                        obtain ⟨⟨k00, k01, k02⟩, _⟩ := blk_three HLO.out.blk
                                        have z0 := blk_lt HLO.out.blk
                                        obtain ⟨⟨k10, k11, k12⟩, _⟩ := blk_three HNX.out.blk
                                        have z1 := blk_lt HNX.out.blk
                                        go_wp2_with fail
                                        refine (C9.out _ _ _ _ _ HLO.out.u HNX.out.u (HTAB.out.next HB.out)).mono ?_
                                        rintro e1 w1 ⟨rfl, ho⟩
                                        have HO := hid ho
                                        clear ho
                                        go_wp2_with fail
                                        go_meet
                                        case rel => exact ⟨rfl, rfl, HO.out⟩
                                    case rest =>
                                      obtain ⟨rfl, rfl, hb⟩ := hcut
                                      replace HX := hid (HX.out.below hb)
                                      replace HNX := hid (HNX.out.below hb)
                                      replace HLO := hid (HLO.out.below hb)
                                      replace HHI := hid (HHI.out.below hb)
                                      replace HCU := hid (HCU.out.below hb)
                                      replace HNE := hid (HNE.out.below hb)
                                      replace HNG := hid (HNG.out.below hb)
                                      replace HNN := hid (HNN.out.below hb)
                                      replace HBK := hid (HBK.out.below hb)
                                      replace HOT := hid (HOT.out.below hb)
                                      replace HB := hid (below_trans HB.out hb)
                                      clear hb
                                      go_upto_region 18 with fail
                                      go_cut [24, 25] from 27 (fun v e w' => v = .int .i64 (-1) ∧ e = .int .i64 (0 : Nat) ∧ Below wc.heap.size wc w')
                                      case first =>
                                        as_aux_lemma =>
                                          obtain ⟨⟨k00, k01, k02⟩, _⟩ := blk_three HNX.out.blk
                                          have z0 := blk_lt HNX.out.blk
                                          obtain ⟨⟨k10, k11, k12⟩, _⟩ := blk_three HHI.out.blk
                                          have z1 := blk_lt HHI.out.blk
                                          go_wp2_with fail
                                          refine (C10.out _ _ _ _ _ HNX.out.u HHI.out.u (HTAB.out.next HB.out)).mono ?_
                                          rintro e1 w1 ⟨rfl, ho⟩
                                          have HO := hid ho
                                          clear ho
                                          go_wp2_with fail
                                          go_meet
                                          case rel => exact ⟨rfl, rfl, HO.out⟩
                                      case rest =>
                                        obtain ⟨rfl, rfl, hb⟩ := hcut
                                        replace HX := hid (HX.out.below hb)
                                        replace HNX := hid (HNX.out.below hb)
                                        replace HLO := hid (HLO.out.below hb)
                                        replace HHI := hid (HHI.out.below hb)
                                        replace HCU := hid (HCU.out.below hb)
                                        replace HNE := hid (HNE.out.below hb)
                                        replace HNG := hid (HNG.out.below hb)
                                        replace HNN := hid (HNN.out.below hb)
                                        replace HBK := hid (HBK.out.below hb)
                                        replace HOT := hid (HOT.out.below hb)
                                        replace HB := hid (below_trans HB.out hb)
                                        clear hb
                                        clear HX HNX HNG
                                        go_upto_region 19 with fail
                                        go_cut [26] from 27 (fun v w' => v = .bool true ∧ Below wc.heap.size wc w')
                                        case first =>
                                          as_aux_lemma =>
                                            by_cases h1 : cu = lo
                                            · as_aux_lemma =>
                                                have QC := hid (SC.out true (by simp [h1]))
                                                clear h1
                                                by_cases h2 : ne = lo
                                                · as_aux_lemma =>
                                                    have QE := hid (SE.out true (by simp [h2]))
                                                    clear h2
                                                    obtain ⟨⟨k00, k01, k02⟩, _⟩ := blk_three HCU.out.blk
                                                    have z0 := blk_lt HCU.out.blk
                                                    obtain ⟨⟨k10, k11, k12⟩, _⟩ := blk_three HLO.out.blk
                                                    have z1 := blk_lt HLO.out.blk
                                                    go_wp2_with fail
                                                    refine (QC.out _ _ _ _ _ HCU.out.u HLO.out.u (HTAB.out.next HB.out)).mono ?_
                                                    rintro e1 w1 ⟨rfl, hb⟩
                                                    have HW := hid hb
                                                    replace HLO := hid (HLO.out.below hb)
                                                    replace HHI := hid (HHI.out.below hb)
                                                    replace HCU := hid (HCU.out.below hb)
                                                    replace HNE := hid (HNE.out.below hb)
                                                    replace HB := hid (below_trans HB.out hb)
                                                    clear hb
                                                    clear k00 k01 k02 z0
                                                    clear k10 k11 k12 z1
                                                    obtain ⟨⟨k00, k01, k02⟩, _⟩ := blk_three HNE.out.blk
                                                    have z0 := blk_lt HNE.out.blk
                                                    obtain ⟨⟨k10, k11, k12⟩, _⟩ := blk_three HLO.out.blk
                                                    have z1 := blk_lt HLO.out.blk
                                                    go_wp2_with fail
                                                    refine (QE.out _ _ _ _ _ HNE.out.u HLO.out.u (HTAB.out.next HB.out)).mono ?_
                                                    rintro e1 w1 ⟨rfl, hb⟩
                                                    replace HW := hid (below_trans HW.out hb)
                                                    replace HLO := hid (HLO.out.below hb)
                                                    replace HHI := hid (HHI.out.below hb)
                                                    replace HCU := hid (HCU.out.below hb)
                                                    replace HNE := hid (HNE.out.below hb)
                                                    replace HB := hid (below_trans HB.out hb)
                                                    clear hb
                                                    clear k00 k01 k02 z0
                                                    clear k10 k11 k12 z1
                                                    obtain ⟨⟨k00, k01, k02⟩, _⟩ := blk_three HLO.out.blk
                                                    have z0 := blk_lt HLO.out.blk
                                                    go_wp2_with fail
                                                    refine (V1.out _ _ _ HLO.out.u (HTAB.out.next HB.out)).mono ?_
                                                    rintro e1 w1 ⟨rfl, hb⟩
                                                    replace HW := hid (below_trans HW.out hb)
                                                    replace HLO := hid (HLO.out.below hb)
                                                    replace HHI := hid (HHI.out.below hb)
                                                    replace HCU := hid (HCU.out.below hb)
                                                    replace HNE := hid (HNE.out.below hb)
                                                    replace HB := hid (below_trans HB.out hb)
                                                    clear hb
                                                    clear k00 k01 k02 z0
                                                    obtain ⟨⟨k00, k01, k02⟩, _⟩ := blk_three HHI.out.blk
                                                    have z0 := blk_lt HHI.out.blk
                                                    go_wp2_with fail
                                                    refine (V2.out _ _ _ HHI.out.u (HTAB.out.next HB.out)).mono ?_
                                                    rintro e1 w1 ⟨rfl, hb⟩
                                                    replace HW := hid (below_trans HW.out hb)
                                                    replace HLO := hid (HLO.out.below hb)
                                                    replace HHI := hid (HHI.out.below hb)
                                                    replace HCU := hid (HCU.out.below hb)
                                                    replace HNE := hid (HNE.out.below hb)
                                                    replace HB := hid (below_trans HB.out hb)
                                                    clear hb
                                                    clear k00 k01 k02 z0
                                                    go_wp2_with fail
                                                    go_meet
                                                    case rel => exact ⟨rfl, HW.out⟩
                                                · as_aux_lemma =>
                                                    have QE := hid (SE.out false (by simp [h2]))
                                                    have QF := hid (SF.out true (by simp [HN.out.resolve_left h2]))
                                                    clear h2
                                                    obtain ⟨⟨k00, k01, k02⟩, _⟩ := blk_three HCU.out.blk
                                                    have z0 := blk_lt HCU.out.blk
                                                    obtain ⟨⟨k10, k11, k12⟩, _⟩ := blk_three HLO.out.blk
                                                    have z1 := blk_lt HLO.out.blk
                                                    go_wp2_with fail
                                                    refine (QC.out _ _ _ _ _ HCU.out.u HLO.out.u (HTAB.out.next HB.out)).mono ?_
                                                    rintro e1 w1 ⟨rfl, hb⟩
                                                    have HW := hid hb
                                                    replace HLO := hid (HLO.out.below hb)
                                                    replace HHI := hid (HHI.out.below hb)
                                                    replace HCU := hid (HCU.out.below hb)
                                                    replace HNE := hid (HNE.out.below hb)
                                                    replace HB := hid (below_trans HB.out hb)
                                                    clear hb
                                                    clear k00 k01 k02 z0
                                                    clear k10 k11 k12 z1
                                                    obtain ⟨⟨k00, k01, k02⟩, _⟩ := blk_three HNE.out.blk
                                                    have z0 := blk_lt HNE.out.blk
                                                    obtain ⟨⟨k10, k11, k12⟩, _⟩ := blk_three HLO.out.blk
                                                    have z1 := blk_lt HLO.out.blk
                                                    go_wp2_with fail
                                                    refine (QE.out _ _ _ _ _ HNE.out.u HLO.out.u (HTAB.out.next HB.out)).mono ?_
                                                    rintro e1 w1 ⟨rfl, hb⟩
                                                    replace HW := hid (below_trans HW.out hb)
                                                    replace HLO := hid (HLO.out.below hb)
                                                    replace HHI := hid (HHI.out.below hb)
                                                    replace HCU := hid (HCU.out.below hb)
                                                    replace HNE := hid (HNE.out.below hb)
                                                    replace HB := hid (below_trans HB.out hb)
                                                    clear hb
                                                    clear k00 k01 k02 z0
                                                    clear k10 k11 k12 z1
                                                    obtain ⟨⟨k00, k01, k02⟩, _⟩ := blk_three HNE.out.blk
                                                    have z0 := blk_lt HNE.out.blk
                                                    obtain ⟨⟨k10, k11, k12⟩, _⟩ := blk_three HHI.out.blk
                                                    have z1 := blk_lt HHI.out.blk
                                                    go_wp2_with fail
                                                    refine (QF.out _ _ _ _ _ HNE.out.u HHI.out.u (HTAB.out.next HB.out)).mono ?_
                                                    rintro e1 w1 ⟨rfl, hb⟩
                                                    replace HW := hid (below_trans HW.out hb)
                                                    replace HLO := hid (HLO.out.below hb)
                                                    replace HHI := hid (HHI.out.below hb)
                                                    replace HCU := hid (HCU.out.below hb)
                                                    replace HNE := hid (HNE.out.below hb)
                                                    replace HB := hid (below_trans HB.out hb)
                                                    clear hb
                                                    clear k00 k01 k02 z0
                                                    clear k10 k11 k12 z1
                                                    obtain ⟨⟨k00, k01, k02⟩, _⟩ := blk_three HLO.out.blk
                                                    have z0 := blk_lt HLO.out.blk
                                                    go_wp2_with fail
                                                    refine (V1.out _ _ _ HLO.out.u (HTAB.out.next HB.out)).mono ?_
                                                    rintro e1 w1 ⟨rfl, hb⟩
                                                    replace HW := hid (below_trans HW.out hb)
                                                    replace HLO := hid (HLO.out.below hb)
                                                    replace HHI := hid (HHI.out.below hb)
                                                    replace HCU := hid (HCU.out.below hb)
                                                    replace HNE := hid (HNE.out.below hb)
                                                    replace HB := hid (below_trans HB.out hb)
                                                    clear hb
                                                    clear k00 k01 k02 z0
                                                    obtain ⟨⟨k00, k01, k02⟩, _⟩ := blk_three HHI.out.blk
                                                    have z0 := blk_lt HHI.out.blk
                                                    go_wp2_with fail
                                                    refine (V2.out _ _ _ HHI.out.u (HTAB.out.next HB.out)).mono ?_
                                                    rintro e1 w1 ⟨rfl, hb⟩
                                                    replace HW := hid (below_trans HW.out hb)
                                                    replace HLO := hid (HLO.out.below hb)
                                                    replace HHI := hid (HHI.out.below hb)
                                                    replace HCU := hid (HCU.out.below hb)
                                                    replace HNE := hid (HNE.out.below hb)
                                                    replace HB := hid (below_trans HB.out hb)
                                                    clear hb
                                                    clear k00 k01 k02 z0
                                                    go_wp2_with fail
                                                    go_meet
                                                    case rel => exact ⟨rfl, HW.out⟩
                                            · as_aux_lemma =>
                                                have QC := hid (SC.out false (by simp [h1]))
                                                have QD := hid (SD.out true (by simp [HC.out.resolve_left h1]))
                                                clear h1
                                                by_cases h2 : ne = lo
                                                · as_aux_lemma =>
                                                    have QE := hid (SE.out true (by simp [h2]))
                                                    clear h2
                                                    obtain ⟨⟨k00, k01, k02⟩, _⟩ := blk_three HCU.out.blk
                                                    have z0 := blk_lt HCU.out.blk
                                                    obtain ⟨⟨k10, k11, k12⟩, _⟩ := blk_three HLO.out.blk
                                                    have z1 := blk_lt HLO.out.blk
                                                    go_wp2_with fail
                                                    refine (QC.out _ _ _ _ _ HCU.out.u HLO.out.u (HTAB.out.next HB.out)).mono ?_
                                                    rintro e1 w1 ⟨rfl, hb⟩
                                                    have HW := hid hb
                                                    replace HLO := hid (HLO.out.below hb)
                                                    replace HHI := hid (HHI.out.below hb)
                                                    replace HCU := hid (HCU.out.below hb)
                                                    replace HNE := hid (HNE.out.below hb)
                                                    replace HB := hid (below_trans HB.out hb)
                                                    clear hb
                                                    clear k00 k01 k02 z0
                                                    clear k10 k11 k12 z1
                                                    obtain ⟨⟨k00, k01, k02⟩, _⟩ := blk_three HCU.out.blk
                                                    have z0 := blk_lt HCU.out.blk
                                                    obtain ⟨⟨k10, k11, k12⟩, _⟩ := blk_three HHI.out.blk
                                                    have z1 := blk_lt HHI.out.blk
                                                    go_wp2_with fail
                                                    refine (QD.out _ _ _ _ _ HCU.out.u HHI.out.u (HTAB.out.next HB.out)).mono ?_
                                                    rintro e1 w1 ⟨rfl, hb⟩
                                                    replace HW := hid (below_trans HW.out hb)
                                                    replace HLO := hid (HLO.out.below hb)
                                                    replace HHI := hid (HHI.out.below hb)
                                                    replace HCU := hid (HCU.out.below hb)
                                                    replace HNE := hid (HNE.out.below hb)
                                                    replace HB := hid (below_trans HB.out hb)
                                                    clear hb
                                                    clear k00 k01 k02 z0
                                                    clear k10 k11 k12 z1
                                                    obtain ⟨⟨k00, k01, k02⟩, _⟩ := blk_three HNE.out.blk
                                                    have z0 := blk_lt HNE.out.blk
                                                    obtain ⟨⟨k10, k11, k12⟩, _⟩ := blk_three HLO.out.blk
                                                    have z1 := blk_lt HLO.out.blk
                                                    go_wp2_with fail
                                                    refine (QE.out _ _ _ _ _ HNE.out.u HLO.out.u (HTAB.out.next HB.out)).mono ?_
                                                    rintro e1 w1 ⟨rfl, hb⟩
                                                    replace HW := hid (below_trans HW.out hb)
                                                    replace HLO := hid (HLO.out.below hb)
                                                    replace HHI := hid (HHI.out.below hb)
                                                    replace HCU := hid (HCU.out.below hb)
                                                    replace HNE := hid (HNE.out.below hb)
                                                    replace HB := hid (below_trans HB.out hb)
                                                    clear hb
                                                    clear k00 k01 k02 z0
                                                    clear k10 k11 k12 z1
                                                    obtain ⟨⟨k00, k01, k02⟩, _⟩ := blk_three HLO.out.blk
                                                    have z0 := blk_lt HLO.out.blk
                                                    go_wp2_with fail
                                                    refine (V1.out _ _ _ HLO.out.u (HTAB.out.next HB.out)).mono ?_
                                                    rintro e1 w1 ⟨rfl, hb⟩
                                                    replace HW := hid (below_trans HW.out hb)
                                                    replace HLO := hid (HLO.out.below hb)
                                                    replace HHI := hid (HHI.out.below hb)
                                                    replace HCU := hid (HCU.out.below hb)
                                                    replace HNE := hid (HNE.out.below hb)
                                                    replace HB := hid (below_trans HB.out hb)
                                                    clear hb
                                                    clear k00 k01 k02 z0
                                                    obtain ⟨⟨k00, k01, k02⟩, _⟩ := blk_three HHI.out.blk
                                                    have z0 := blk_lt HHI.out.blk
                                                    go_wp2_with fail
                                                    refine (V2.out _ _ _ HHI.out.u (HTAB.out.next HB.out)).mono ?_
                                                    rintro e1 w1 ⟨rfl, hb⟩
                                                    replace HW := hid (below_trans HW.out hb)
                                                    replace HLO := hid (HLO.out.below hb)
                                                    replace HHI := hid (HHI.out.below hb)
                                                    replace HCU := hid (HCU.out.below hb)
                                                    replace HNE := hid (HNE.out.below hb)
                                                    replace HB := hid (below_trans HB.out hb)
                                                    clear hb
                                                    clear k00 k01 k02 z0
                                                    go_wp2_with fail
                                                    go_meet
                                                    case rel => exact ⟨rfl, HW.out⟩
                                                · as_aux_lemma =>
                                                    have QE := hid (SE.out false (by simp [h2]))
                                                    have QF := hid (SF.out true (by simp [HN.out.resolve_left h2]))
                                                    clear h2
                                                    obtain ⟨⟨k00, k01, k02⟩, _⟩ := blk_three HCU.out.blk
                                                    have z0 := blk_lt HCU.out.blk
                                                    obtain ⟨⟨k10, k11, k12⟩, _⟩ := blk_three HLO.out.blk
                                                    have z1 := blk_lt HLO.out.blk
                                                    go_wp2_with fail
                                                    refine (QC.out _ _ _ _ _ HCU.out.u HLO.out.u (HTAB.out.next HB.out)).mono ?_
                                                    rintro e1 w1 ⟨rfl, hb⟩
                                                    have HW := hid hb
                                                    replace HLO := hid (HLO.out.below hb)
                                                    replace HHI := hid (HHI.out.below hb)
                                                    replace HCU := hid (HCU.out.below hb)
                                                    replace HNE := hid (HNE.out.below hb)
                                                    replace HB := hid (below_trans HB.out hb)
                                                    clear hb
                                                    clear k00 k01 k02 z0
                                                    clear k10 k11 k12 z1
                                                    obtain ⟨⟨k00, k01, k02⟩, _⟩ := blk_three HCU.out.blk
                                                    have z0 := blk_lt HCU.out.blk
                                                    obtain ⟨⟨k10, k11, k12⟩, _⟩ := blk_three HHI.out.blk
                                                    have z1 := blk_lt HHI.out.blk
                                                    go_wp2_with fail
                                                    refine (QD.out _ _ _ _ _ HCU.out.u HHI.out.u (HTAB.out.next HB.out)).mono ?_
                                                    rintro e1 w1 ⟨rfl, hb⟩
                                                    replace HW := hid (below_trans HW.out hb)
                                                    replace HLO := hid (HLO.out.below hb)
                                                    replace HHI := hid (HHI.out.below hb)
                                                    replace HCU := hid (HCU.out.below hb)
                                                    replace HNE := hid (HNE.out.below hb)
                                                    replace HB := hid (below_trans HB.out hb)
                                                    clear hb
                                                    clear k00 k01 k02 z0
                                                    clear k10 k11 k12 z1
                                                    obtain ⟨⟨k00, k01, k02⟩, _⟩ := blk_three HNE.out.blk
                                                    have z0 := blk_lt HNE.out.blk
                                                    obtain ⟨⟨k10, k11, k12⟩, _⟩ := blk_three HLO.out.blk
                                                    have z1 := blk_lt HLO.out.blk
                                                    go_wp2_with fail
                                                    refine (QE.out _ _ _ _ _ HNE.out.u HLO.out.u (HTAB.out.next HB.out)).mono ?_
                                                    rintro e1 w1 ⟨rfl, hb⟩
                                                    replace HW := hid (below_trans HW.out hb)
                                                    replace HLO := hid (HLO.out.below hb)
                                                    replace HHI := hid (HHI.out.below hb)
                                                    replace HCU := hid (HCU.out.below hb)
                                                    replace HNE := hid (HNE.out.below hb)
                                                    replace HB := hid (below_trans HB.out hb)
                                                    clear hb
                                                    clear k00 k01 k02 z0
                                                    clear k10 k11 k12 z1
                                                    obtain ⟨⟨k00, k01, k02⟩, _⟩ := blk_three HNE.out.blk
                                                    have z0 := blk_lt HNE.out.blk
                                                    obtain ⟨⟨k10, k11, k12⟩, _⟩ := blk_three HHI.out.blk
                                                    have z1 := blk_lt HHI.out.blk
                                                    go_wp2_with fail
                                                    refine (QF.out _ _ _ _ _ HNE.out.u HHI.out.u (HTAB.out.next HB.out)).mono ?_
                                                    rintro e1 w1 ⟨rfl, hb⟩
                                                    replace HW := hid (below_trans HW.out hb)
                                                    replace HLO := hid (HLO.out.below hb)
                                                    replace HHI := hid (HHI.out.below hb)
                                                    replace HCU := hid (HCU.out.below hb)
                                                    replace HNE := hid (HNE.out.below hb)
                                                    replace HB := hid (below_trans HB.out hb)
                                                    clear hb
                                                    clear k00 k01 k02 z0
                                                    clear k10 k11 k12 z1
                                                    obtain ⟨⟨k00, k01, k02⟩, _⟩ := blk_three HLO.out.blk
                                                    have z0 := blk_lt HLO.out.blk
                                                    go_wp2_with fail
                                                    refine (V1.out _ _ _ HLO.out.u (HTAB.out.next HB.out)).mono ?_
                                                    rintro e1 w1 ⟨rfl, hb⟩
                                                    replace HW := hid (below_trans HW.out hb)
                                                    replace HLO := hid (HLO.out.below hb)
                                                    replace HHI := hid (HHI.out.below hb)
                                                    replace HCU := hid (HCU.out.below hb)
                                                    replace HNE := hid (HNE.out.below hb)
                                                    replace HB := hid (below_trans HB.out hb)
                                                    clear hb
                                                    clear k00 k01 k02 z0
                                                    obtain ⟨⟨k00, k01, k02⟩, _⟩ := blk_three HHI.out.blk
                                                    have z0 := blk_lt HHI.out.blk
                                                    go_wp2_with fail
                                                    refine (V2.out _ _ _ HHI.out.u (HTAB.out.next HB.out)).mono ?_
                                                    rintro e1 w1 ⟨rfl, hb⟩
                                                    replace HW := hid (below_trans HW.out hb)
                                                    replace HLO := hid (HLO.out.below hb)
                                                    replace HHI := hid (HHI.out.below hb)
                                                    replace HCU := hid (HCU.out.below hb)
                                                    replace HNE := hid (HNE.out.below hb)
                                                    replace HB := hid (below_trans HB.out hb)
                                                    clear hb
                                                    clear k00 k01 k02 z0
                                                    go_wp2_with fail
                                                    go_meet
                                                    case rel => exact ⟨rfl, HW.out⟩
                                        case rest =>
                                          obtain ⟨rfl, hb⟩ := hcut
                                          replace HLO := hid (HLO.out.below hb)
                                          replace HHI := hid (HHI.out.below hb)
                                          replace HCU := hid (HCU.out.below hb)
                                          replace HNE := hid (HNE.out.below hb)
                                          replace HNN := hid (HNN.out.below hb)
                                          replace HBK := hid (HBK.out.below hb)
                                          replace HOT := hid (HOT.out.below hb)
                                          replace HB := hid (below_trans HB.out hb)
                                          clear hb
                                          by_cases h1 : nk = 0
                                          · as_aux_lemma =>
                                              have QN := hid (SN.out (fN1.out h1))
                                              have i1 : ((nk : Int) != 0) = false := by rw [bne_eq_false_iff_eq]; omega
                                              clear h1
                                              by_cases h2 : bkk = 0
                                              · as_aux_lemma =>
                                                  have QB := hid (SB.out (fB1.out h2))
                                                  have i2 : ((bkk : Int) != 0) = false := by rw [bne_eq_false_iff_eq]; omega
                                                  clear h2
                                                  obtain ⟨⟨k00, k01, k02⟩, _⟩ := blk_three HNN.out.blk
                                                  have z0 := blk_lt HNN.out.blk
                                                  obtain ⟨⟨k10, k11, k12⟩, _⟩ := blk_three HHI.out.blk
                                                  have z1 := blk_lt HHI.out.blk
                                                  go_wp2_with fail
                                                  refine (QN.out _ _ _ _ _ HNN.out.u HHI.out.u (HTAB.out.next HB.out)).mono ?_
                                                  rintro e1 w1 ⟨rfl, hb⟩
                                                  have HW := hid hb
                                                  replace HNN := hid (HNN.out.below hb)
                                                  replace HHI := hid (HHI.out.below hb)
                                                  replace HBK := hid (HBK.out.below hb)
                                                  replace HOT := hid (HOT.out.below hb)
                                                  replace HB := hid (below_trans HB.out hb)
                                                  clear hb
                                                  clear k00 k01 k02 z0
                                                  clear k10 k11 k12 z1
                                                  obtain ⟨⟨k00, k01, k02⟩, _⟩ := blk_three HBK.out.blk
                                                  have z0 := blk_lt HBK.out.blk
                                                  obtain ⟨⟨k10, k11, k12⟩, _⟩ := blk_three HOT.out.blk
                                                  have z1 := blk_lt HOT.out.blk
                                                  go_wp2_with fail
                                                  refine (QB.out _ _ _ _ _ HBK.out.u HOT.out.u (HTAB.out.next HB.out)).mono ?_
                                                  rintro e1 w1 ⟨rfl, hb⟩
                                                  replace HW := hid (below_trans HW.out hb)
                                                  replace HNN := hid (HNN.out.below hb)
                                                  replace HHI := hid (HHI.out.below hb)
                                                  replace HBK := hid (HBK.out.below hb)
                                                  replace HOT := hid (HOT.out.below hb)
                                                  replace HB := hid (below_trans HB.out hb)
                                                  clear hb
                                                  clear k00 k01 k02 z0
                                                  clear k10 k11 k12 z1
                                                  go_wp2
                                                  go_ret
                                                  exact ⟨rfl, HB.out⟩
                                              · as_aux_lemma =>
                                                  have i2 : ((bkk : Int) != 0) = true := by rw [bne_iff_ne]; omega
                                                  clear h2
                                                  obtain ⟨⟨k00, k01, k02⟩, _⟩ := blk_three HNN.out.blk
                                                  have z0 := blk_lt HNN.out.blk
                                                  obtain ⟨⟨k10, k11, k12⟩, _⟩ := blk_three HHI.out.blk
                                                  have z1 := blk_lt HHI.out.blk
                                                  go_wp2_with fail
                                                  refine (QN.out _ _ _ _ _ HNN.out.u HHI.out.u (HTAB.out.next HB.out)).mono ?_
                                                  rintro e1 w1 ⟨rfl, hb⟩
                                                  have HW := hid hb
                                                  replace HNN := hid (HNN.out.below hb)
                                                  replace HHI := hid (HHI.out.below hb)
                                                  replace HBK := hid (HBK.out.below hb)
                                                  replace HOT := hid (HOT.out.below hb)
                                                  replace HB := hid (below_trans HB.out hb)
                                                  clear hb
                                                  clear k00 k01 k02 z0
                                                  clear k10 k11 k12 z1
                                                  go_wp2
                                                  go_ret
                                                  exact ⟨rfl, HB.out⟩
                                          · as_aux_lemma =>
                                              have i1 : ((nk : Int) != 0) = true := by rw [bne_iff_ne]; omega
                                              clear h1
                                              by_cases h2 : bkk = 0
                                              · as_aux_lemma =>
                                                  have QB := hid (SB.out (fB1.out h2))
                                                  have i2 : ((bkk : Int) != 0) = false := by rw [bne_eq_false_iff_eq]; omega
                                                  clear h2
                                                  obtain ⟨⟨k00, k01, k02⟩, _⟩ := blk_three HBK.out.blk
                                                  have z0 := blk_lt HBK.out.blk
                                                  obtain ⟨⟨k10, k11, k12⟩, _⟩ := blk_three HOT.out.blk
                                                  have z1 := blk_lt HOT.out.blk
                                                  go_wp2_with fail
                                                  refine (QB.out _ _ _ _ _ HBK.out.u HOT.out.u (HTAB.out.next HB.out)).mono ?_
                                                  rintro e1 w1 ⟨rfl, hb⟩
                                                  have HW := hid hb
                                                  replace HNN := hid (HNN.out.below hb)
                                                  replace HHI := hid (HHI.out.below hb)
                                                  replace HBK := hid (HBK.out.below hb)
                                                  replace HOT := hid (HOT.out.below hb)
                                                  replace HB := hid (below_trans HB.out hb)
                                                  clear hb
                                                  clear k00 k01 k02 z0
                                                  clear k10 k11 k12 z1
                                                  go_wp2
                                                  go_ret
                                                  exact ⟨rfl, HB.out⟩
                                              · as_aux_lemma =>
                                                  have i2 : ((bkk : Int) != 0) = true := by rw [bne_iff_ne]; omega
                                                  clear h2
                                                  go_wp2
                                                  go_ret
                                                  exact ⟨rfl, HB.out⟩
                  · as_aux_lemma =>
                      have hs : ((k1 : Int) + (k2 : Int) + (k3 : Int) + (k4 : Int) + 0 != 0) = true := by rw [bne_iff_ne]; omega
                      have hs2 := hs
                      simp only [Int.add_zero] at hs2
                      have h4 : k1 = 3 ∨ k2 = 3 ∨ k3 = 3 ∨ k4 = 3 := by
                        have := r1.out
                        have := r2.out
                        have := r3.out
                        have := r4.out
                        omega
                      clear hz
                      by_cases q1 : k1 = 3
                      · as_aux_lemma =>
                          have i1 : ((k1 : Int) == 3) = true := by rw [beq_iff_eq]; omega
                          clear q1 h4
                          go_wp2
                          go_ret
                          exact ⟨rfl, HB.out⟩
                      · as_aux_lemma =>
                          have i1 : ((k1 : Int) == 3) = false := by rw [beq_eq_false_iff_ne]; omega
                          by_cases q2 : k2 = 3
                          · as_aux_lemma =>
                              have i2 : ((k2 : Int) == 3) = true := by rw [beq_iff_eq]; omega
                              clear q1 q2 h4
                              go_wp2
                              go_ret
                              exact ⟨rfl, HB.out⟩
                          · as_aux_lemma =>
                              have i2 : ((k2 : Int) == 3) = false := by rw [beq_eq_false_iff_ne]; omega
                              by_cases q3 : k3 = 3
                              · as_aux_lemma =>
                                  have i3 : ((k3 : Int) == 3) = true := by rw [beq_iff_eq]; omega
                                  clear q1 q2 q3 h4
                                  go_wp2
                                  go_ret
                                  exact ⟨rfl, HB.out⟩
                              · as_aux_lemma =>
                                  have i3 : ((k3 : Int) == 3) = false := by rw [beq_eq_false_iff_ne]; omega
                                  have i4 : ((k4 : Int) == 3) = true := by rw [beq_iff_eq]; omega
                                  clear q1 q2 q3 h4
                                  go_wp2
                                  go_ret
                                  exact ⟨rfl, HB.out⟩

theorem law_QuotBetween (g : Bool) (a : Option Addr) (cap : Nat) (e : Int) (xs : List Nat) (w : World) (h : U32 w a xs) (htab : Pow w) :
    Calls Tryz.prog 7 #[.agg #[.bool g, .slice a xs.length cap, .int .i64 e]] w fun en w' => en = .returned (.bool true) ∧ Below w.heap.size w w' := by
  obtain ⟨ex, x, ix, tx, vx⟩ := is_arg g xs e
  by_cases h0 : ex = 0
  · subst h0
    exact between_ok g a cap e xs w h htab x ix tx
  · exact between_no g a cap e xs w h htab ex x ix h0

end Go.Proofs.YtiblmkecipoanaaGreatDoor
