/- The document's answer of chapter 03, fifth part: Rounded. -/
import Derived.Test.YtiblmkecipoanaaGreatDoorRef3D
import Derived.Test.YtiblmkecipoanaaGreatDoorAlgC
import Derived.Deep.CutBlock
namespace Go.Proofs.YtiblmkecipoanaaGreatDoor
open Go.RowKit

/-- A number, rounded in a way, as far as it may be told. -/
def roundD (d : D) (way : Nat) : D := if 0 ≤ d.e then d else plainD d.neg (wholeN d + (if upB d way = true then 1 else 0)) 0
theorem round_tell {x : D} (gx : IsPlain x ∧ fitsB x = true) (way : Nat) : roundR 0 x way = tellR (roundD x way) := by
  unfold roundD
  by_cases h : 0 ≤ x.e
  · rw [round_e h, if_pos h]
    exact (tell_yes gx.2).symm
  · rw [round_f (by omega), if_neg h]
theorem half_digit {x : D} {n : Nat} (he : x.e = -(n : Int)) (hn : 1 ≤ n) : halfB x = decide (5 ≤ (Num.digs 10 x.m).getD (n - 1) 0) := by
  obtain ⟨k, rfl⟩ : ∃ k, n = k + 1 := ⟨n - 1, by omega⟩
  unfold halfB offN
  rw [if_neg (by omega), show (-x.e).toNat = k + 1 by omega, decide_eq_true (show x.e < 0 by omega), Bool.true_and, Nat.add_sub_cancel]
  have h1 := Num.val_take (b := 10) (by decide) (Num.digs 10 x.m) (digs_ten_lt _) (k + 1)
  have h2 := Num.val_take (b := 10) (by decide) (Num.digs 10 x.m) (digs_ten_lt _) k
  have h3 := Num.val_take_succ 10 (Num.digs 10 x.m) k
  rw [Num.val_digs (by decide)] at h1 h2
  rw [h1, h2] at h3
  have h4 := Nat.mod_lt x.m (pow_pos10 k)
  rw [h3]
  generalize x.m % 10 ^ k = r at *
  generalize (Num.digs 10 x.m).getD k 0 = d at *
  have hp := pow_pos10 k
  generalize 10 ^ k = P at *
  rw [decide_eq_decide]
  constructor
  · intro h
    refine Classical.byContradiction fun hd => ?_
    have : P * d ≤ P * 4 := Nat.mul_le_mul_left _ (by omega)
    omega
  · intro h
    have : P * 5 ≤ P * d := Nat.mul_le_mul_left _ h
    omega
theorem up_way {x : D} {n : Nat} (px : IsPlain x) (he : x.e = -(n : Int)) (hn : 1 ≤ n) : upB x 0 = false ∧ upB x 1 = x.neg ∧ upB x 2 = !x.neg ∧ upB x 3 = decide (5 ≤ (Num.digs 10 x.m).getD (n - 1) 0) := by
  have rt := rest_true px (show x.e < 0 by omega)
  refine ⟨rfl, ?_, ?_, ?_⟩
  · simp [upB, rt]
  · simp [upB, rt]
  · rw [← half_digit he hn]; rfl
theorem roundD_bounds {x : D} (way : Nat) (bx : (Num.digs 10 x.m).length ≤ 400 ∧ -10400 ≤ x.e ∧ x.e ≤ 10001) : (Num.digs 10 (roundD x way).m).length ≤ 401 ∧ -30000 ≤ (roundD x way).e ∧ (roundD x way).e ≤ 60000 := by
  unfold roundD
  by_cases h : 0 ≤ x.e
  · rw [if_pos h]; omega
  · rw [if_neg h]
    have h1 : wholeN x + (if upB x way = true then 1 else 0) ≤ x.m + 1 := by
      unfold wholeN
      rw [if_neg h]
      have := Nat.div_le_self x.m (10 ^ (-x.e).toNat)
      split <;> omega
    have h2 := (Num.digs_length_le (b := 10) (by decide)).1 bx.1
    have h3 : (Num.digs 10 (wholeN x + (if upB x way = true then 1 else 0))).length ≤ 401 := by
      obtain ⟨j, hj⟩ : ∃ j : Nat, j = 400 := ⟨_, rfl⟩
      rw [← hj] at h2
      have h4 : x.m + 1 < 10 ^ (j + 1) := by rw [Nat.pow_succ]; omega
      have h5 := (Num.digs_length_le (b := 10) (by decide)).2 (Nat.lt_of_le_of_lt h1 h4)
      omega
    exact ⟨Nat.le_trans (Num.digs_length_mono (by decide) (plain_m_le _ _ _)) h3, plain_e _ _ _ (by omega) (by omega)⟩

structure Box1 (w w' : World) (x : D) : Prop where
  c0 : w'.cell? ⟨w.heap.size, 0, none⟩ = some (.bool x.neg)
  rc : Rec w' (w.heap.size + 1)
  bel : Below w.heap.size w w'
theorem Box1.below {w w' w'' : World} {x : D} (h : Box1 w w' x) (hb : Below w'.heap.size w' w'') : Box1 w w'' x :=
  ⟨((bcell hb).1 _ _ (cell_lt h.c0)).trans h.c0, h.rc.below hb, below_trans h.bel hb⟩

set_option maxRecDepth 100000 in
set_option maxHeartbeats 3200000 in
theorem ref3_Rounded_e (x : D) (a : Option Addr) (c : Nat) (w : World) (way : Nat) (h : RdD w x a c) (h0 : 0 ≤ x.e) :
    Calls Tryz.prog 48 #[refV x a c, .int .i64 way] w (OutRD w (roundD x way)) := by
  unfold roundD
  rw [if_pos h0]
  unfold refV
  have H := hid h
  clear h
  go_enter Tryz.func48, Tryz.ntmps48
  go_wp2
  refine bodyPost_ret (v := refV x a c) (by simp [results, Tryz.results48, go_sem, refV]) rfl ?_
  have hb := ((Below.refl w.heap.size w).alloc (Nat.le_refl _) (.cells #[.bool x.neg, .slice a (Num.digs 10 x.m).length c, .int .i64 x.e] 57)).alloc (by simp) (.cells #[.bool x.neg, .slice a (Num.digs 10 x.m).length c, .int .i64 x.e] 57)
  exact ⟨a, c, rfl, hb, H.out.below hb⟩

set_option maxRecDepth 100000 in
set_option maxHeartbeats 6400000 in
theorem ref3_Rounded_f (x : D) (a : Option Addr) (c : Nat) (w : World) (way : Nat) (hway : way ≤ 3) (h : RdD w x a c) (px : IsPlain x) (bx : (Num.digs 10 x.m).length ≤ 400 ∧ -10400 ≤ x.e ∧ x.e ≤ 10001) (h0 : x.e < 0) :
    Calls Tryz.prog 48 #[refV x a c, .int .i64 way] w (OutRD w (roundD x way)) := by
  obtain ⟨n, hn⟩ : ∃ n : Nat, x.e = -(n : Int) := ⟨(-x.e).toNat, by omega⟩
  have hn1 : 1 ≤ n := by omega
  have hm := (frac_pos px h0).1
  have ups := up_way px hn hn1
  have CP := fun W (hb : Below w.heap.size w W) => ref3_parts x a c W n (h.below hb) hm bx.1 hn hn1 (by omega)
  have hw : wholeN x = x.m / 10 ^ n := by
    unfold wholeN
    rw [if_neg (by omega), show (-x.e).toNat = n by omega]
  obtain ⟨M, hM⟩ : ∃ M, M = x.m / 10 ^ n := ⟨_, rfl⟩
  have hlM : (Num.digs 10 M).length ≤ 400 := by rw [hM]; exact Nat.le_trans (Num.digs_length_mono (by decide) (Nat.div_le_self _ _)) bx.1
  have hlM1 : (Num.digs 10 (M + 1)).length ≤ 401 := by
    have h2 := (Num.digs_length_le (b := 10) (by decide)).1 hlM
    obtain ⟨j, hj⟩ : ∃ j : Nat, j = 400 := ⟨_, rfl⟩
    rw [← hj] at h2
    have h4 : M + 1 < 10 ^ (j + 1) := by rw [Nat.pow_succ]; omega
    have h5 := (Num.digs_length_le (b := 10) (by decide)).2 h4
    omega
  have hr : ∀ way, roundD x way = plainD x.neg (M + (if upB x way = true then 1 else 0)) 0 := fun way => by
    unfold roundD
    rw [if_neg (by omega), hw, hM]
  rw [hr way]
  have CO := fun W => ref3_one W
  have CA := fun W b5 c5 b6 c6 (h5 : RdN W M b5 c5) (h6 : RdN W 1 b6 c6) => ref1_Add b5 b6 c5 c6 (Num.digs 10 M) (Num.digs 10 1) W h5.1 h6.1 (by omega) (by rw [digs_one]; simp)
  rw [Num.val_digs (by decide), Num.val_digs (by decide)] at CA
  have CM := fun W b5 c5 (q : Nat) (h5 : RdN W q b5 c5) (hq : q = M ∨ q = M + 1) => ref2_Make x.neg b5 c5 q 0 W h5.1 h5.2.1 h5.2.2.1 (by rcases hq with rfl | rfl <;> omega) (by omega)
  obtain ⟨u, hu⟩ : ∃ u, u = (Num.digs 10 x.m).getD (n - 1) 0 := ⟨_, rfl⟩
  have hTu : ∀ W a2, TopD W x.m n a2 → ∃ b off, a2 = some ⟨b, off, none⟩ ∧ W.cell? ⟨b, off + (n - 1), none⟩ = some (.int .u8 (u : Int)) := fun W a2 h => by rw [hu]; exact h
  rw [← hu] at ups
  unfold refV at CP ⊢
  rw [← hM] at CP
  rw [hn] at CP ⊢
  obtain ⟨up, hup⟩ : ∃ up, up = upB x way := ⟨_, rfl⟩
  rw [← hup]
  obtain ⟨d, hQ⟩ : ∃ d, d = plainD x.neg (M + (if up = true then 1 else 0)) 0 := ⟨_, rfl⟩
  rw [← hQ]
  replace hQ := hid hQ
  have hne0 : ¬ (0 : Int) ≤ -(n : Int) := by omega
  have hn20 : n ≤ 20000 := by omega
  have hnz : ¬ n = 0 := by omega
  replace CP := hid CP
  replace CO := hid CO
  replace CA := hid CA
  replace CM := hid CM
  replace ups := hid ups
  replace hup := hid hup
  replace hTu := hid hTu
  clear hm h0 hw hM hlM hlM1 hr hu h bx px
  go_enter Tryz.func48, Tryz.ntmps48
  go_upto_region 3 with fail
  go_cut [2, 4, 5, 6] from 8 (fun v2 v4 v5 v6 w' => ∃ a1 c1 a2 c2, v2 = .pointer (some ⟨w.heap.size, 0, none⟩) ∧ v4 = .pointer (some ⟨w.heap.size + 1, 0, none⟩) ∧ v5 = .slice a1 (Num.digs 10 M).length c1 ∧ v6 = .slice a2 n c2 ∧ RdN w' M a1 c1 ∧ TopD w' x.m n a2 ∧ Box1 w w' x)
  case first =>
    go_wp2_with fail
    refine (CP.out _ (((Below.refl _ _).alloc (Nat.le_refl _) _).alloc (by simp) _)).mono ?_
    rintro e1 w1 ⟨a1, c1, a2, c2, rfl, hb1, hr1, ht1⟩
    have B1 := hid (show Box1 w w1 x from ⟨blk_cell (blk_below (blk_alloc (blk_new w _) _) hb1) 0, Rec.below ⟨_, _, _, _, _, _, blk_new2 w _ _⟩ hb1, below_alloc (below_alloc hb1)⟩)
    have H1 := hid hr1
    have T1 := hid ht1
    clear hb1 hr1 ht1 CP
    go_wp2_with fail
    go_meet
    case rel => exact ⟨a1, c1, a2, c2, rfl, rfl, rfl, rfl, H1.out, T1.out, B1.out⟩
  case rest =>
    obtain ⟨a1, c1, a2, c2, rfl, rfl, rfl, rfl, hr1, ht1, hbx⟩ := hcut
    have H1 := hid hr1
    have B1 := hid hbx
    obtain ⟨b, off, rfl, hc⟩ := hTu.out _ _ ht1
    have k0 := hbx.c0
    clear hr1 hbx ht1 hTu CP
    have hnn : (n : Int) - 1 = ((n - 1 : Nat) : Int) := by omega
    have hlt1 : ((n - 1 : Nat) : Int) < (n : Int) := by omega
    go_upto_block 0 with fail
    go_cut [7] from 8 (fun v7 w' => v7 = .bool up ∧ Below wc.heap.size wc w')
    case first =>
      obtain ⟨e0, e1, e2, e3⟩ := ups.out
      have hu := hup.out
      have hw4 : way = 0 ∨ way = 1 ∨ way = 2 ∨ way = 3 := by omega
      rcases hw4 with rfl | rfl | rfl | rfl
      · rw [e0] at hu
        subst hu
        clear e0 e1 e2 e3 hc
        go_wp2_with fail
        go_meet
        case rel => exact ⟨rfl, Below.refl _ _⟩
      · rw [e1] at hu
        subst hu
        clear e0 e1 e2 e3 hc
        go_wp2_with fail
        go_meet
        case rel => exact ⟨rfl, Below.refl _ _⟩
      · rw [e2] at hu
        subst hu
        clear e0 e1 e2 e3 hc
        go_wp2_with fail
        go_meet
        case rel => exact ⟨rfl, Below.refl _ _⟩
      · rw [e3] at hu
        subst hu
        clear e0 e1 e2 e3
        go_wp2_with fail
        go_meet
        case rel => exact ⟨by simp; omega, Below.refl _ _⟩
    case rest =>
      obtain ⟨rfl, hb⟩ := hcut
      replace H1 := hid (H1.out.below hb)
      replace B1 := hid (B1.out.below hb)
      clear hb hc k0 ups hup
      cases up with
      | true =>
        have HQ := hid (show plainD x.neg (M + 1) 0 = d by rw [hQ.out]; rfl)
        clear hQ
        go_wp2_with fail
        refine (CO.out _).mono ?_
        rintro e5 w5 ho
        obtain ⟨a5, c5, rfl, hb5, hr5⟩ := ho.rd
        have H5 := hid hr5
        replace H1 := hid (H1.out.below hb5)
        replace B1 := hid (B1.out.below hb5)
        clear ho hb5 hr5 CO
        go_wp2_with fail
        refine (CA.out _ _ _ _ _ H1.out H5.out).mono ?_
        rintro e6 w6 ho
        obtain ⟨a6, c6, rfl, hb6, hr6⟩ := ho.rd
        have H6 := hid hr6
        replace B1 := hid (B1.out.below hb6)
        clear ho hb6 hr6 CA H1 H5
        have k0 := B1.out.c0
        go_wp2_with fail
        refine (CM.out _ _ _ (M + 1) H6.out (Or.inr rfl)).mono ?_
        rintro e7 w7 ⟨b7, c7, rfl, hb7, hr7⟩
        replace B1 := hid (B1.out.below hb7)
        rw [HQ.out] at hr7 ⊢
        have H7 := hid hr7
        clear hb7 hr7 CM H6 k0
        obtain ⟨_, _, _, p0, p1, p2⟩ := B1.out.rc.cells.get
        have f0 := B1.out.rc.cells.frozen 0
        have f1 := B1.out.rc.cells.frozen 1
        have f2 := B1.out.rc.cells.frozen 2
        unfold refV
        go_wp2
        refine bodyPost_ret (v := refV d b7 c7) (by simp [results, Tryz.results48, go_sem, p0, p1, p2, refV]) rfl ?_
        exact ⟨b7, c7, rfl, below_put B1.out.bel (by omega) _ _ _ _ _, H7.out.put B1.out.rc _ _ _ _ _⟩
      | false =>
        have HQ := hid (show plainD x.neg M 0 = d by rw [hQ.out]; rfl)
        clear hQ CO CA
        have k0 := B1.out.c0
        go_wp2_with fail
        refine (CM.out _ _ _ M H1.out (Or.inl rfl)).mono ?_
        rintro e7 w7 ⟨b7, c7, rfl, hb7, hr7⟩
        replace B1 := hid (B1.out.below hb7)
        rw [HQ.out] at hr7 ⊢
        have H7 := hid hr7
        clear hb7 hr7 CM H1 k0
        obtain ⟨_, _, _, p0, p1, p2⟩ := B1.out.rc.cells.get
        have f0 := B1.out.rc.cells.frozen 0
        have f1 := B1.out.rc.cells.frozen 1
        have f2 := B1.out.rc.cells.frozen 2
        unfold refV
        go_wp2
        refine bodyPost_ret (v := refV d b7 c7) (by simp [results, Tryz.results48, go_sem, p0, p1, p2, refV]) rfl ?_
        exact ⟨b7, c7, rfl, below_put B1.out.bel (by omega) _ _ _ _ _, H7.out.put B1.out.rc _ _ _ _ _⟩

theorem ref3_Rounded (x : D) (a : Option Addr) (c : Nat) (w : World) (way : Nat) (hway : way ≤ 3) (h : RdD w x a c) (px : IsPlain x) (bx : (Num.digs 10 x.m).length ≤ 400 ∧ -10400 ≤ x.e ∧ x.e ≤ 10001) :
    Calls Tryz.prog 48 #[refV x a c, .int .i64 way] w (OutRD w (roundD x way)) := by
  by_cases h0 : 0 ≤ x.e
  · exact ref3_Rounded_e x a c w way h h0
  · exact ref3_Rounded_f x a c w way hway h px bx (by omega)

end Go.Proofs.YtiblmkecipoanaaGreatDoor
