/- The document's answer of chapter 03, seventh part: Rem. -/
import Derived.Test.YtiblmkecipoanaaGreatDoorRef3F
import Derived.Test.YtiblmkecipoanaaGreatDoorMi
import Derived.Deep.RegionHeld3
import Derived.Deep.CutBlock
namespace Go.Proofs.YtiblmkecipoanaaGreatDoor
open Go.RowKit

theorem cut_whole (x : D) : 0 ≤ (roundD x 0).e ∧ wholeN (roundD x 0) = wholeN x := by
  unfold roundD
  by_cases h : 0 ≤ x.e
  · rw [if_pos h]
    exact ⟨h, rfl⟩
  · rw [if_neg h, show upB x 0 = false from rfl]
    exact ⟨e_whole _ _, whole_whole _ _⟩
theorem cut_shift (x : D) : (roundD x 0).m * 10 ^ (roundD x 0).e.toNat = wholeN x := by
  have h := cut_whole x
  rw [← h.2]
  show _ = if 0 ≤ (roundD x 0).e then _ else _
  rw [if_pos h.1]
theorem cut_zero (x : D) : (Num.digs 10 (roundD x 0).m).length = 0 ↔ wholeN x = 0 := by
  rw [List.length_eq_zero_iff, Num.digs_eq_nil (by decide), ← cut_shift x]
  constructor
  · intro h; rw [h, Nat.zero_mul]
  · intro h
    rcases Nat.mul_eq_zero.1 h with h | h
    · exact h
    · have := pow_pos10 (roundD x 0).e.toNat
      omega
theorem cut_long (x : D) (bx : (Num.digs 10 x.m).length ≤ 400 ∧ -10400 ≤ x.e ∧ x.e ≤ 10001) : (decide (0 < (Num.digs 10 (roundD x 0).m).length) && decide (400 ≤ headD (roundD x 0))) = longB x := by
  have zx : ∀ m, (Num.digs 10 m).length = 0 ↔ m = 0 := fun m => by rw [List.length_eq_zero_iff]; exact Num.digs_eq_nil (by decide)
  by_cases h : 0 ≤ x.e
  · rw [show roundD x 0 = x from if_pos h]
    unfold longB headD
    have := zx x.m
    rw [Bool.eq_iff_iff]
    simp only [Bool.and_eq_true, decide_eq_true_eq]
    omega
  · have h1 : longB x = false := by
      unfold longB
      rw [decide_eq_false (show ¬ 400 < x.e + (Num.digs 10 x.m).length by omega), Bool.and_false]
    rw [h1]
    have h2 : roundD x 0 = plainD x.neg (wholeN x) 0 := by
      unfold roundD
      rw [if_neg h]
      rfl
    rw [h2]
    have hW : (Num.digs 10 (wholeN x)).length ≤ 400 := by
      unfold wholeN
      rw [if_neg h]
      exact Nat.le_trans (Num.digs_length_mono (by decide) (Nat.div_le_self _ _)) bx.1
    have h3 := long_whole (g := x.neg) hW
    unfold longB at h3
    unfold headD
    have := zx (plainD x.neg (wholeN x) 0).m
    rw [Bool.eq_false_iff] at h3 ⊢
    intro h4
    refine h3 ?_
    simp only [Bool.and_eq_true, decide_eq_true_eq] at h4 ⊢
    omega

theorem keep4 {w W w1 : World} {A B : Nat} {x y z t : Value} (h : W.cell? ⟨A, 1, none⟩ = some x ∧ W.cell? ⟨A, 2, none⟩ = some y ∧ W.cell? ⟨B, 1, none⟩ = some z ∧ W.cell? ⟨B, 2, none⟩ = some t ∧ Below w.heap.size w W) (hb : Below W.heap.size W w1) :
    w1.cell? ⟨A, 1, none⟩ = some x ∧ w1.cell? ⟨A, 2, none⟩ = some y ∧ w1.cell? ⟨B, 1, none⟩ = some z ∧ w1.cell? ⟨B, 2, none⟩ = some t ∧ Below w.heap.size w w1 :=
  ⟨((bcell hb).1 _ _ (cell_lt h.1)).trans h.1, ((bcell hb).1 _ _ (cell_lt h.2.1)).trans h.2.1, ((bcell hb).1 _ _ (cell_lt h.2.2.1)).trans h.2.2.1, ((bcell hb).1 _ _ (cell_lt h.2.2.2.1)).trans h.2.2.2.1, below_trans h.2.2.2.2 hb⟩

set_option maxRecDepth 100000 in
set_option maxHeartbeats 6400000 in
theorem ref3_rem_walk (g : Bool) (a : Option Addr) (n cap : Nat) (e : Int) (g2 : Bool) (a2 : Option Addr) (n2 cap2 : Nat) (e2 : Int) (w : World) (x y : D) (er : Nat)
    (CT : ∀ W, Below w.heap.size w W → Calls Tryz.prog 42 #[.agg #[.bool g, .slice a n cap, .int .i64 e], .agg #[.bool g2, .slice a2 n2 cap2, .int .i64 e2]] W (OutRDD W x y er))
    (hp : er = 0 → (IsPlain x ∧ fitsB x = true) ∧ (IsPlain y ∧ fitsB y = true)) :
    Calls Tryz.prog 15 #[.agg #[.bool g, .slice a n cap, .int .i64 e], .agg #[.bool g2, .slice a2 n2 cap2, .int .i64 e2]] w (OutDE w (remR er x y).1 (remR er x y).2) := by
  obtain ⟨r, hr⟩ : ∃ r, r = remR er x y := ⟨_, rfl⟩
  rw [← hr]
  unfold OutRDD refV at CT
  replace hr := hid hr
  replace CT := hid CT
  replace hp := hid hp
  go_enter Tryz.func15, Tryz.ntmps15
  go_upto_region 1 with fail
  go_cut [6, 7, 8] from 13 (fun v6 v7 v8 w' => ∃ N M b1 c1 b2 c2, v6 = .pointer (some ⟨N, 0, none⟩) ∧ v7 = .pointer (some ⟨M, 0, none⟩) ∧ v8 = .int .i64 er ∧ w.heap.size + 1 + 1 < N ∧ w.heap.size + 1 + 1 < M ∧ HasR w' N x b1 c1 ∧ HasR w' M y b2 c2 ∧ RdD w' x b1 c1 ∧ RdD w' y b2 c2 ∧ Rec w' (w.heap.size + 1 + 1) ∧ Below w.heap.size w w')
  case first =>
    go_wp2_with fail
    refine (CT.out _ ((((Below.refl _ _).alloc (Nat.le_refl _) _).alloc (by simp) _).alloc (by simp; omega) _)).mono ?_
    rintro e1 w1 ⟨b1, c1, b2, c2, rfl, hb1, hr1, hr2⟩
    have HB1 := hid (below_alloc (below_alloc (below_alloc hb1)))
    have hz1 : w.heap.size + 1 + 1 < w1.heap.size := by have := hb1.size; simp at this; omega
    have R3 := hid (show Rec w1 (w.heap.size + 1 + 1) from Rec.below ⟨_, _, _, _, _, _, by simpa using blk_new2 (w.alloc _) _ _⟩ hb1)
    have HI1 := hid hr1
    have HI2 := hid hr2
    clear hb1 hr1 hr2 CT
    go_wp2_with fail
    go_meet
    case rel =>
      have k1 := (Below.refl w1.heap.size w1).alloc (Nat.le_refl _) (.cells #[.bool x.neg, .slice b1 (Num.digs 10 x.m).length c1, .int .i64 x.e] 57)
      have k2 := k1.alloc (by simp) (.cells #[.bool y.neg, .slice b2 (Num.digs 10 y.m).length c2, .int .i64 y.e] 57)
      have s2 := HasR.new (w1.alloc (.cells #[.bool x.neg, .slice b1 (Num.digs 10 x.m).length c1, .int .i64 x.e] 57)) y b2 c2 57
      have s1 := HasR.new w1 x b1 c1 57
      exact ⟨w1.heap.size, w1.heap.size + 1, b1, c1, b2, c2, rfl, rfl, rfl, hz1, by omega, s1.below ((Below.refl _ _).alloc (Nat.le_refl _) _), by simpa using s2, HI1.out.below k2, HI2.out.below k2, R3.out.below k2, below_trans HB1.out k2⟩
  case rest =>
    obtain ⟨N, M, b1, c1, b2, c2, rfl, rfl, rfl, n1, n2', h1, h2, h3, h4, h5, h6⟩ := hcut
    have HR1 := hid h3
    have HR2 := hid h4
    have HRC := hid h5
    have HB := hid h6
    have HN := hid h1
    have HM := hid h2
    clear h1 h2 h3 h4 h5 h6 CT n1 n2'
    by_cases h0 : er = 0
    · obtain ⟨⟨px, fx⟩, ⟨py, fy⟩⟩ := hp.out h0
      have bx := plain_bounds px fx
      have bY := plain_bounds py fy
      have hne : ((er : Int) != 0) = false := by rw [bne_eq_false_iff_eq]; omega
      have CR1 := ref3_Rounded x b1 c1 wc 0 (by decide) HR1.out px bx
      have CR2 := fun W (hb : Below wc.heap.size wc W) => ref3_Rounded y b2 c2 W 0 (by decide) (HR2.out.below hb) py bY
      have rbx := roundD_bounds 0 bx
      have rby := roundD_bounds 0 bY
      have lx := cut_long x bx
      have ly := cut_long y bY
      have zx := cut_zero x
      have zy := cut_zero y
      have sx := cut_shift x
      have sy := cut_shift y
      have ex0 := (cut_whole x).1
      have ey0 := (cut_whole y).1
      have hlx := fun h => whole_len bx.1 (d := x) h
      have hly := fun h => whole_len bY.1 (d := y) h
      have hR := hr.out
      unfold remR at hR
      rw [if_neg (by omega)] at hR
      obtain ⟨gx, hgx⟩ : ∃ g, g = x.neg := ⟨_, rfl⟩
      obtain ⟨WX, hWX⟩ : ∃ v, v = wholeN x := ⟨_, rfl⟩
      obtain ⟨WY, hWY⟩ : ∃ v, v = wholeN y := ⟨_, rfl⟩
      obtain ⟨u, hu⟩ : ∃ d, d = roundD x 0 := ⟨_, rfl⟩
      obtain ⟨v, hv⟩ : ∃ d, d = roundD y 0 := ⟨_, rfl⟩
      obtain ⟨Lx, hLx⟩ : ∃ b, b = longB x := ⟨_, rfl⟩
      obtain ⟨Ly, hLy⟩ : ∃ b, b = longB y := ⟨_, rfl⟩
      rw [← hu] at CR1 rbx lx zx sx ex0
      rw [← hv] at CR2 rby ly zy sy ey0
      rw [← hWX] at zx sx hlx hR
      rw [← hWY] at zy sy hly hR
      rw [← hLx] at lx hlx hR
      rw [← hLy] at ly hly hR
      rw [← hgx] at hR
      have HGX := hid hgx
      have HRR := hid hR
      clear h0 hp hr px fx py fy bx bY hR hWX hWY hu hv hLx hLy hgx
      unfold OutRD refV at CR1 CR2
      replace CR1 := hid CR1
      replace CR2 := hid CR2
      replace lx := hid lx
      replace ly := hid ly
      replace zx := hid zx
      replace zy := hid zy
      replace sx := hid sx
      replace sy := hid sy
      replace hlx := hid hlx
      replace hly := hid hly
      obtain ⟨⟨k0, k1, k2⟩, _⟩ := HN.out.get
      have z1 := HN.out.lt
      go_upto_region 4 with fail
      go_cut [9] from 13 (fun v9 w' => ∃ K b c, v9 = .pointer (some ⟨K, 0, none⟩) ∧ HasR w' K u b c ∧ RdD w' u b c ∧ Below wc.heap.size wc w')
      case first =>
        go_wp2_with fail
        refine CR1.out.mono ?_
        rintro e3 w3 ⟨a3, c3, rfl, hb3, hr3⟩
        have B3 := hid hb3
        have H3 := hid hr3
        clear hb3 hr3 CR1
        go_wp2_with fail
        go_meet
        case rel =>
          have k := (Below.refl w3.heap.size w3).alloc (Nat.le_refl _) (.cells #[.bool u.neg, .slice a3 (Num.digs 10 u.m).length c3, .int .i64 u.e] 57)
          exact ⟨w3.heap.size, a3, c3, rfl, HasR.new _ _ _ _ _, H3.out.below k, below_trans B3.out k⟩
      case rest =>
        obtain ⟨K, bK, cK, rfl, hK, hrK, hb⟩ := hcut
        have CR3 := hid (fun W (h : Below wc.heap.size wc W) => CR2.out W (below_trans hb h))
        replace HRC := hid (HRC.out.below hb)
        replace HB := hid (below_trans HB.out hb)
        replace HN := hid (HN.out.below hb)
        replace HM := hid (HM.out.below hb)
        have HK := hid hK
        have HRK := hid hrK
        clear hb hK hrK k0 k1 k2 z1 CR1 CR2 HR1 HR2
        obtain ⟨⟨q0, q1, q2⟩, _⟩ := HM.out.get
        have z2 := HM.out.lt
        go_upto_region 5 with fail
        go_cut [10] from 13 (fun v10 w' => ∃ J b c, v10 = .pointer (some ⟨J, 0, none⟩) ∧ HasR w' J v b c ∧ RdD w' v b c ∧ Below wc.heap.size wc w')
        case first =>
          go_wp2_with fail
          refine (CR3.out _ (Below.refl _ _)).mono ?_
          rintro e3 w3 ⟨a3, c3, rfl, hb3, hr3⟩
          have B3 := hid hb3
          have H3 := hid hr3
          clear hb3 hr3 CR3
          go_wp2_with fail
          go_meet
          case rel =>
            have k := (Below.refl w3.heap.size w3).alloc (Nat.le_refl _) (.cells #[.bool v.neg, .slice a3 (Num.digs 10 v.m).length c3, .int .i64 v.e] 57)
            exact ⟨w3.heap.size, a3, c3, rfl, HasR.new _ _ _ _ _, H3.out.below k, below_trans B3.out k⟩
        case rest =>
          obtain ⟨J, bJ, cJ, rfl, hJ, hrJ, hb⟩ := hcut
          replace HRC := hid (HRC.out.below hb)
          replace HB := hid (below_trans HB.out hb)
          replace HN := hid (HN.out.below hb)
          replace HK := hid (HK.out.below hb)
          replace HRK := hid (HRK.out.below hb)
          have HJ := hid hJ
          have HRJ := hid hrJ
          clear hb hJ hrJ q0 q1 q2 z2 CR3 HM
          obtain ⟨⟨k0, k1, k2⟩, _⟩ := HK.out.get
          have z1 := HK.out.lt
          obtain ⟨⟨q0, q1, q2⟩, _⟩ := HJ.out.get
          have z2 := HJ.out.lt
          have CH1 := fun W => ref2_Head u bK cK W (by omega) (by omega)
          have CH2 := fun W => ref2_Head v bJ cJ W (by omega) (by omega)
          unfold refV at CH1 CH2
          obtain ⟨hU, hhU⟩ : ∃ h, h = headD u := ⟨_, rfl⟩
          obtain ⟨hV, hhV⟩ : ∃ h, h = headD v := ⟨_, rfl⟩
          obtain ⟨lu, hlu⟩ : ∃ l, l = (Num.digs 10 u.m).length := ⟨_, rfl⟩
          obtain ⟨lv, hlv⟩ : ∃ l, l = (Num.digs 10 v.m).length := ⟨_, rfl⟩
          rw [← hhU, ← hlu] at CH1
          rw [← hhV, ← hlv] at CH2
          rw [← hlu] at k1
          rw [← hlv] at q1
          have LX := lx.out
          have LY := ly.out
          rw [← hhU, ← hlu] at LX
          rw [← hhV, ← hlv] at LY
          replace CH1 := hid CH1
          replace CH2 := hid CH2
          replace hlu := hid hlu
          replace hlv := hid hlv
          replace LX := hid LX
          replace LY := hid LY
          clear hhU hhV lx ly
          obtain ⟨LL, hLL⟩ : ∃ b, b = (Lx || Ly) := ⟨_, rfl⟩
          replace hLL := hid hLL
          go_upto_region 6 with fail
          go_cut [47] from 13 (fun v47 w' => v47 = .bool LL ∧ Below wc.heap.size wc w')
          case first =>
            have tail : ∀ (W : World), Below wc.heap.size wc W → W.cell? ⟨J, 0, none⟩ = some (.bool v.neg) ∧ W.cell? ⟨J, 1, none⟩ = some (.slice bJ lv cJ) ∧ W.cell? ⟨J, 2, none⟩ = some (.int .i64 v.e) := fun W hb =>
              ⟨((bcell hb).1 _ _ (cell_lt q0)).trans q0, ((bcell hb).1 _ _ (cell_lt q1)).trans q1, ((bcell hb).1 _ _ (cell_lt q2)).trans q2⟩
            have TAIL := hid tail
            clear tail
            by_cases hu0 : 0 < lu
            · have iu : (0 : Int) < (lu : Int) := by omega
              go_wp2_with fail
              refine (CH1.out _).mono ?_
              rintro e3 w3 ⟨rfl, hb3⟩
              obtain ⟨t0, t1, t2⟩ := TAIL.out _ hb3
              have B3 := hid hb3
              clear hb3 CH1
              by_cases hh : 400 ≤ hU
              · have hL : Lx = true := by rw [← LX.out]; simp [hu0, hh]
                subst hL
                go_wp2_with fail
                go_meet
                case rel => exact ⟨by rw [hLL.out]; rfl, B3.out⟩
              · have hL : Lx = false := by rw [← LX.out]; simp [hh]
                subst hL
                by_cases hv0 : 0 < lv
                · have iv : (0 : Int) < (lv : Int) := by omega
                  go_wp2_with fail
                  refine (CH2.out _).mono ?_
                  rintro e4 w4 ⟨rfl, hb4⟩
                  have B4 := hid (below_trans B3.out hb4)
                  clear hb4 CH2
                  have hLY : Ly = decide (400 ≤ hV) := by rw [← LY.out]; simp [hv0]
                  subst hLY
                  go_wp2_with fail
                  go_meet
                  case rel => exact ⟨by rw [hLL.out]; simp; intro h; omega, B4.out⟩
                · have iv : ¬ (0 : Int) < (lv : Int) := by omega
                  have hLY : Ly = false := by rw [← LY.out]; simp [hv0]
                  subst hLY
                  go_wp2_with fail
                  go_meet
                  case rel => exact ⟨by rw [hLL.out]; simp; omega, B3.out⟩
            · have iu : ¬ (0 : Int) < (lu : Int) := by omega
              have hL : Lx = false := by rw [← LX.out]; simp [hu0]
              subst hL
              by_cases hv0 : 0 < lv
              · have iv : (0 : Int) < (lv : Int) := by omega
                go_wp2_with fail
                refine (CH2.out _).mono ?_
                rintro e4 w4 ⟨rfl, hb4⟩
                have B4 := hid hb4
                clear hb4 CH2
                have hLY : Ly = decide (400 ≤ hV) := by rw [← LY.out]; simp [hv0]
                subst hLY
                go_wp2_with fail
                go_meet
                case rel => exact ⟨by rw [hLL.out]; simp, B4.out⟩
              · have iv : ¬ (0 : Int) < (lv : Int) := by omega
                have hLY : Ly = false := by rw [← LY.out]; simp [hv0]
                subst hLY
                go_wp2_with fail
                go_meet
                case rel => exact ⟨by rw [hLL.out]; rfl, Below.refl _ _⟩
          case rest =>
            obtain ⟨rfl, hb⟩ := hcut
            replace HRC := hid (HRC.out.below hb)
            replace HB := hid (below_trans HB.out hb)
            replace HN := hid (HN.out.below hb)
            replace HK := hid (HK.out.below hb)
            replace HRK := hid (HRK.out.below hb)
            replace HJ := hid (HJ.out.below hb)
            replace HRJ := hid (HRJ.out.below hb)
            clear hb k0 k1 k2 q0 q1 q2 z1 z2 CH1 CH2 LX LY
            obtain ⟨r0, r1, r2, p0, p1, p2⟩ := HRC.out.cells.get
            have f0 := HRC.out.cells.frozen 0
            have f1 := HRC.out.cells.frozen 1
            have f2 := HRC.out.cells.frozen 2
            have hlt := HRC.out.lt
            obtain ⟨⟨q0, q1, q2⟩, _⟩ := HJ.out.get
            have z2 := HJ.out.lt
            by_cases hL : Lx = true ∨ Ly = true
            · have hor : LL = true := by rw [hLL.out]; rcases hL with h | h <;> simp [h]
              subst hor
              have HR := hid (show r = (zeroD, 3) by rw [HRR.out, if_pos hL])
              clear hL HRR hLL
              go_wp2
              refine bodyPost_ret (v := .tuple #[decV zeroD none 0, .int .i64 3]) (by simp [results, Tryz.results15, go_sem, p0, p1, p2, decV, zeroD]; rfl) rfl ?_
              rw [HR.out]
              exact ⟨none, 0, rfl, below_put HB.out (by omega) false none 0 0 0, World.ownsRow_nil _ _ _ _⟩
            · have hLx : Lx = false := by cases Lx <;> simp at hL ⊢
              have hLy : Ly = false := by cases Ly <;> simp at hL ⊢
              have hor : LL = false := by rw [hLL.out, hLx, hLy]; rfl
              subst hor
              have hWx := hlx.out hLx
              have hWy := hly.out hLy
              have hR := HRR.out
              rw [if_neg hL] at hR
              clear hL HRR hlx hly hLL
              by_cases hw : WY = 0
              · have HR := hid (show r = (zeroD, 4) by rw [hR, if_pos hw])
                have hv0 := zy.out.2 hw
                have iv : (((Num.digs 10 v.m).length : Int) == 0) = true := by rw [beq_iff_eq]; omega
                clear hR hw hWx hWy hv0 hLx hLy
                go_wp2
                refine bodyPost_ret (v := .tuple #[decV zeroD none 0, .int .i64 4]) (by simp [results, Tryz.results15, go_sem, p0, p1, p2, decV, zeroD]; rfl) rfl ?_
                rw [HR.out]
                exact ⟨none, 0, rfl, below_put HB.out (by omega) false none 0 0 0, World.ownsRow_nil _ _ _ _⟩
              · have iv : (((Num.digs 10 v.m).length : Int) == 0) = false := by rw [beq_eq_false_iff_ne]; intro h; exact hw (zy.out.1 (by omega))
                rw [if_neg hw] at hR
                have he1 : u.e ≤ 400 ∨ u.m = 0 := by
                  by_cases hm : u.m = 0
                  · exact Or.inr hm
                  · left
                    have h := Num.digs_length_mul_pow (b := 10) (by decide) hm u.e.toNat
                    rw [sx.out] at h
                    omega
                have he2 : v.e ≤ 400 := by
                  have hm : v.m ≠ 0 := fun h => hw (by rw [← sy.out, h, Nat.zero_mul])
                  have h := Num.digs_length_mul_pow (b := 10) (by decide) hm v.e.toNat
                  rw [sy.out] at h
                  omega
                have CS1 : ∀ W, Below wc.heap.size wc W → Calls Tryz.prog 51 #[.slice bK (Num.digs 10 u.m).length cK, .int .i64 u.e] W (OutR8 W (Num.digs 10 WX)) := fun W hb => by
                  have h := ref1_Shift bK cK u.m u.e.toNat W (HRK.out.below hb).1 HRK.out.2.2.2 (by omega) (by omega)
                  rw [show ((u.e.toNat : Nat) : Int) = u.e by omega, sx.out] at h
                  exact h
                have CS2 : ∀ W, Below wc.heap.size wc W → Calls Tryz.prog 51 #[.slice bJ (Num.digs 10 v.m).length cJ, .int .i64 v.e] W (OutR8 W (Num.digs 10 WY)) := fun W hb => by
                  have h := ref1_Shift bJ cJ v.m v.e.toNat W (HRJ.out.below hb).1 HRJ.out.2.2.2 (by omega) (by omega)
                  rw [show ((v.e.toNat : Nat) : Int) = v.e by omega, sy.out] at h
                  exact h
                have CD := fun W b5 c5 b6 c6 (h5 : U8 W b5 (Num.digs 10 WX)) (h6 : U8 W b6 (Num.digs 10 WY)) => ref1_Div b5 b6 c5 c6 WX WY W h5 h6 hw (by omega) (by omega)
                have hmod : (Num.digs 10 (WX % WY)).length ≤ 400 := Nat.le_trans (Num.digs_length_mono (by decide) (Nat.mod_le _ _)) hWx
                have CM := fun W b7 c7 (h7 : RdN W (WX % WY) b7 c7) => ref2_Make gx b7 c7 (WX % WY) 0 W h7.1 h7.2.1 h7.2.2.1 (by omega) (by omega)
                have hfit : tellR (plainD gx (WX % WY) 0) = (plainD gx (WX % WY) 0, 0) := tell_yes (fits_whole hmod)
                rw [hfit] at hR
                obtain ⟨d, hd⟩ : ∃ d, d = plainD gx (WX % WY) 0 := ⟨_, rfl⟩
                have hdm : (Num.digs 10 d.m).length ≤ 400 := by rw [hd]; exact Nat.le_trans (Num.digs_length_mono (by decide) (plain_m_le _ _ _)) hmod
                rw [← hd] at CM hR
                have CTo := fun W b8 c8 (h8 : RdD W d b8 c8) => ref2_To d b8 c8 W h8.1 (by omega)
                unfold OutRD refV at CM
                unfold OutD refV decV at CTo
                unfold OutR8 at CS1 CS2
                obtain ⟨lu', hlu'⟩ : ∃ l, l = (Num.digs 10 u.m).length := ⟨_, rfl⟩
                obtain ⟨lv', hlv'⟩ : ∃ l, l = (Num.digs 10 v.m).length := ⟨_, rfl⟩
                obtain ⟨⟨k0, k1, k2⟩, _⟩ := HK.out.get
                have z1 := HK.out.lt
                rw [← hlu'] at CS1 k1
                rw [← hlv'] at CS2 q1 iv
                have HR := hid hR
                obtain ⟨Rm, hRm⟩ : ∃ m, m = WX % WY := ⟨_, rfl⟩
                obtain ⟨Qd, hQd⟩ : ∃ m, m = WX / WY := ⟨_, rfl⟩
                rw [← hRm] at CD CM
                rw [← hQd] at CD
                replace CS1 := hid CS1
                replace CS2 := hid CS2
                replace CD := hid CD
                replace CM := hid CM
                replace CTo := hid CTo
                clear hR hfit hd hdm hmod hWx hWy hLx hLy he1 he2 hw hlu' hlv' hRm hQd HRK HRJ
                go_upto_region 10 with fail
                go_cut [11, 12] from 13 (fun v11 v12 w' => ∃ a5 c5 a6 c6, v11 = .slice a5 (Num.digs 10 Qd).length c5 ∧ v12 = .slice a6 (Num.digs 10 Rm).length c6 ∧ RdN w' Rm a6 c6 ∧ Below wc.heap.size wc w')
                case first =>
                  go_region_held3 (fun w' => w'.cell? ⟨K, 1, none⟩ = some (.slice bK lu' cK) ∧ w'.cell? ⟨K, 2, none⟩ = some (.int .i64 u.e) ∧ w'.cell? ⟨J, 1, none⟩ = some (.slice bJ lv' cJ) ∧ w'.cell? ⟨J, 2, none⟩ = some (.int .i64 v.e) ∧ Below wc.heap.size wc w') (first | (exact ⟨k1, k2, q1, q2, (Below.refl _ _).drew⟩) | (exact keep4 (by assumption) (by assumption)) | assumption) ((first | (go_at_call 51; first | ((with_reducible refine (CS1.out _ ?_).mono ?_); (simp only [*]); rintro e1 w1 ⟨bx, cx, rfl, hbx, hux, _⟩) | ((with_reducible refine (CS2.out _ ?_).mono ?_); (simp only [*]); rintro e2 w2 ⟨bY, cY, rfl, hbY, huY, _⟩)) | (go_at_call 50; (first | (with_reducible refine (CD.out _ _ _ _ _ (hux.below hbY) huY).mono ?_) | (with_reducible refine (CD.out _ _ _ _ _ hux (huY.below hbx)).mono ?_)); rintro e3 w3 ⟨a5, c5, a6, c6, rfl, hb3, hr5, hr6⟩)))
                  all_goals
                    rename_i hHeld
                    obtain ⟨_, _, _, _, hH⟩ := hHeld
                    go_wp2_with fail
                    go_meet
                    case rel => exact ⟨a5, c5, a6, c6, rfl, rfl, hr6, hH⟩
                case rest =>
                  obtain ⟨a5, c5, a6, c6, rfl, rfl, hr6, hb⟩ := hcut
                  replace HRC := hid (HRC.out.below hb)
                  replace HB := hid (below_trans HB.out hb)
                  replace HN := hid (HN.out.below hb)
                  have H6 := hid hr6
                  clear hb hr6 k0 k1 k2 q0 q1 q2 z1 z2 p0 p1 p2 f0 f1 f2 CS1 CS2 CD HK HJ hlt
                  obtain ⟨⟨k0, k1, k2⟩, _⟩ := HN.out.get
                  have z1 := HN.out.lt
                  rw [← HGX.out] at k0
                  go_wp2_with fail
                  refine (CM.out _ _ _ H6.out).mono ?_
                  rintro e7 w7 ⟨a7, c7, rfl, hb7, hr7⟩
                  have HB7 := hid (below_trans HB.out hb7)
                  have HRC7 := hid (HRC.out.below hb7)
                  have H7 := hid hr7
                  clear hb7 hr7 CM H6 HB HRC HN k0 k1 k2 z1
                  go_wp2_with fail
                  refine (CTo.out _ _ _ H7.out).mono ?_
                  rintro e8 w8 ⟨a8, c8, rfl, ho8⟩
                  have HB8 := hid (below_trans HB7.out ho8.1)
                  have HRC8 := hid (HRC7.out.below ho8.1)
                  have hle7 := HB7.out.size
                  have hlt7 := HRC7.out.lt
                  have HO8 := hid (owns_mono (owns_set3 (R := w.heap.size + 1 + 1) ho8.2 (by omega) (.bool d.neg) (.slice a8 (Num.limbs d.m).length c8) (.int .i64 d.e)) (show w.heap.size ≤ _ by omega))
                  clear ho8 CTo H7
                  obtain ⟨_, _, _, p0, p1, p2⟩ := HRC8.out.cells.get
                  have f0 := HRC8.out.cells.frozen 0
                  have f1 := HRC8.out.cells.frozen 1
                  have f2 := HRC8.out.cells.frozen 2
                  go_wp2_with fail
                  refine bodyPost_ret (v := .tuple #[decV d a8 c8, .int .i64 0]) (by simp [results, Tryz.results15, go_sem, p0, p1, p2, decV]) rfl ?_
                  rw [HR.out]
                  exact ⟨a8, c8, rfl, below_put HB8.out (by omega) _ _ _ _ _, HO8.out⟩
    · have hne : ((er : Int) != 0) = true := by rw [bne_iff_ne]; omega
      have HR := hid (show r = (zeroD, er) by rw [hr.out]; unfold remR; rw [if_pos h0])
      obtain ⟨r0, r1, r2, p0, p1, p2⟩ := HRC.out.cells.get
      have f0 := HRC.out.cells.frozen 0
      have f1 := HRC.out.cells.frozen 1
      have f2 := HRC.out.cells.frozen 2
      clear h0 hp hr
      go_wp2
      refine bodyPost_ret (v := .tuple #[decV zeroD none 0, .int .i64 er]) (by simp [results, Tryz.results15, go_sem, p0, p1, p2, decV, zeroD]; rfl) rfl ?_
      rw [HR.out]
      exact ⟨none, 0, rfl, below_put HB.out (by omega) false none 0 0 0, World.ownsRow_nil _ _ _ _⟩

theorem ref3_Rem {g g2 : Bool} {xs ys : List Nat} {e e2 : Int} {ex ey : Nat} {x y : D} (W : World) (b : Option Addr) (c : Nat) (b2 : Option Addr) (c2 : Nat) (hx : Is g xs e ex x) (hy : Is g2 ys e2 ey y) (h : U32 W b xs) (h2 : U32 W b2 ys) :
    Calls Tryz.prog 15 #[.agg #[.bool g, .slice b xs.length c, .int .i64 e], .agg #[.bool g2, .slice b2 ys.length c2, .int .i64 e2]] W (OutDE W (remR (bothE ex ey) x y).1 (remR (bothE ex ey) x y).2) := by
  obtain ⟨rfl, rfl⟩ := hx
  obtain ⟨rfl, rfl⟩ := hy
  refine ref3_rem_walk g b xs.length c e g2 b2 ys.length c2 e2 W _ _ _ (fun W' hb => ref2_Two g b c e xs g2 b2 c2 e2 ys W' (h.below hb) (h2.below hb)) ?_
  intro h0
  obtain ⟨z1, z2⟩ := bothE_zero h0
  exact ⟨taken_facts z1, taken_facts z2⟩

end Go.Proofs.YtiblmkecipoanaaGreatDoor
