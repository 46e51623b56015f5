/- The document's answer, tenth part: Order, Compare, Cmp, Neg. -/
import Derived.Test.YtphdncifcljmpaaGreatDoorRefK
import Derived.Test.YtphdncifcljmpaaGreatDoorRefKb
import Derived.Test.YtphdncifcljmpaaGreatDoorAlgB
namespace Go.Proofs.YtphdncifcljmpaaGreatDoor
open Go.RowKit

/-- Sizes held against each other. -/
def orderC (x y : D) : Int := if x.m = 0 ∨ y.m = 0 then cmpN x.m y.m else sizeC x y
def compR (x y : D) : Int := if x.neg ≠ y.neg then (if x.neg = true then -1 else 1) else if x.neg = true then orderC y x else orderC x y

theorem orderC_worth {x y : D} (hx : -100000 ≤ x.e) (hy : -100000 ≤ y.e) : orderC x y = cmpN (x.m * 10 ^ upE x.e) (y.m * 10 ^ upE y.e) := by
  have pos : ∀ (d : D), d.m ≠ 0 → 0 < d.m * 10 ^ upE d.e := fun d h => Nat.mul_pos (by omega) (pow_pos10 _)
  unfold orderC
  by_cases x0 : x.m = 0
  · rw [if_pos (.inl x0), x0, Nat.zero_mul]
    by_cases y0 : y.m = 0
    · rw [y0, Nat.zero_mul]
    · rw [cmpN_lt (pos y y0), cmpN_lt (by omega)]
  · by_cases y0 : y.m = 0
    · rw [if_pos (.inr y0), y0, Nat.zero_mul, cmpN_gt (pos x x0), cmpN_gt (by omega)]
    · rw [if_neg (by simp [x0, y0])]
      exact size_worth hx hy x0 y0
theorem cmpN_neg (X Y : Nat) : cmpN Y X = cmpI (-(X : Int)) (-(Y : Int)) := by
  unfold cmpN cmpI
  have h1 : -(X : Int) < -(Y : Int) ↔ Y < X := by omega
  have h2 : -(Y : Int) < -(X : Int) ↔ X < Y := by omega
  simp only [h1, h2]
theorem cmpN_int (X Y : Nat) : cmpN X Y = cmpI (X : Int) (Y : Int) := by
  unfold cmpN cmpI
  have h1 : (X : Int) < (Y : Int) ↔ X < Y := by omega
  have h2 : (Y : Int) < (X : Int) ↔ Y < X := by omega
  simp only [h1, h2]
theorem neg_pos {x : D} (px : IsPlain x) (h : x.neg = true) : 0 < x.m * 10 ^ upE x.e := by
  have : x.m ≠ 0 := fun e => by have := px.1 e; rw [this] at h; simp [zeroD] at h
  exact Nat.mul_pos (by omega) (pow_pos10 _)
theorem compR_eq {x y : D} (px : IsPlain x) (py : IsPlain y) (hx : -100000 ≤ x.e) (hy : -100000 ≤ y.e) : compR x y = cmpR x y := by
  rw [cmpR_worth hx hy]
  unfold compR
  have s1 : sgn true = -1 := rfl
  have s2 : sgn false = 1 := rfl
  have w1 : wo x = sgn x.neg * ((x.m * 10 ^ upE x.e : Nat) : Int) := rfl
  have w2 : wo y = sgn y.neg * ((y.m * 10 ^ upE y.e : Nat) : Int) := rfl
  rw [orderC_worth hx hy, orderC_worth hy hx]
  have p1 := neg_pos px
  have p2 := neg_pos py
  generalize x.m * 10 ^ upE x.e = X at *
  generalize y.m * 10 ^ upE y.e = Y at *
  rw [w1, w2]
  cases hg : x.neg <;> cases hg2 : y.neg
  · rw [s2]; simp; exact cmpN_int X Y
  · have := p2 hg2
    rw [s1, s2]
    rcases cmpI_cases (1 * (X : Int)) (-1 * (Y : Int)) with ⟨h1, h2⟩ | ⟨h1, h2⟩ | ⟨h1, h2⟩ <;> first | (exfalso; omega) | (rw [h2]; simp)
  · have := p1 hg
    rw [s1, s2]
    rcases cmpI_cases (-1 * (X : Int)) (1 * (Y : Int)) with ⟨h1, h2⟩ | ⟨h1, h2⟩ | ⟨h1, h2⟩ <;> first | (exfalso; omega) | (rw [h2]; simp)
  · rw [s1, cmpN_neg]; simp

/-- What holds of two boxed numbers of the document's answer. -/
structure Box2 (w w' : World) (x y : D) (N M : Nat) (b1 : Option Addr) (c1 : Nat) (b2 : Option Addr) (c2 : Nat) : Prop where
  h1 : w'.heap[N]? = some (.cells #[.bool x.neg, .slice b1 (Num.digs 10 x.m).length c1, .int .i64 x.e] 66)
  h2 : w'.heap[M]? = some (.cells #[.bool y.neg, .slice b2 (Num.digs 10 y.m).length c2, .int .i64 y.e] 66)
  r1 : RdD w' x b1 c1
  r2 : RdD w' y b2 c2
  bel : Below w.heap.size w w'
theorem Box2.next {w w' w'' : World} {x y : D} {N M c1 c2 : Nat} {b1 b2 : Option Addr} (h : Box2 w w' x y N M b1 c1 b2 c2) (hb : Below w'.heap.size w' w'') : Box2 w w'' x y N M b1 c1 b2 c2 :=
  ⟨blk_below h.h1 hb, blk_below h.h2 hb, h.r1.below hb, h.r2.below hb, below_trans h.bel hb⟩
theorem Box2.new {w : World} {x y : D} {b1 b2 : Option Addr} {c1 c2 : Nat} (r1 : RdD w x b1 c1) (r2 : RdD w y b2 c2) :
    Box2 w ((w.alloc (.cells #[.bool x.neg, .slice b1 (Num.digs 10 x.m).length c1, .int .i64 x.e] 66)).alloc (.cells #[.bool y.neg, .slice b2 (Num.digs 10 y.m).length c2, .int .i64 y.e] 66)) x y w.heap.size (w.heap.size + 1) b1 c1 b2 c2 := by
  have k1 := (Below.refl w.heap.size w).alloc (Nat.le_refl _) (.cells #[.bool x.neg, .slice b1 (Num.digs 10 x.m).length c1, .int .i64 x.e] 66)
  have k2 := k1.alloc (by simp) (.cells #[.bool y.neg, .slice b2 (Num.digs 10 y.m).length c2, .int .i64 y.e] 66)
  exact ⟨blk_alloc (blk_new w _) _, blk_new2 w _ _, r1.below k2, r2.below k2, k2⟩

set_option maxRecDepth 100000 in
set_option maxHeartbeats 6400000 in
theorem ref2_Order (x y : D) (a1 : Option Addr) (d1 : Nat) (a2 : Option Addr) (d2 : Nat) (w : World) (h1 : RdD w x a1 d1) (h2 : RdD w y a2 d2) (bx : (Num.digs 10 x.m).length ≤ 400 ∧ -10400 ≤ x.e ∧ x.e ≤ 10001) (bY : (Num.digs 10 y.m).length ≤ 400 ∧ -10400 ≤ y.e ∧ y.e ≤ 10001) :
    Calls Tryz.prog 91 #[refV x a1 d1, refV y a2 d2] w fun e w' => e = .returned (.int .i64 (orderC x y)) ∧ Below w.heap.size w w' := by
  obtain ⟨V, hV⟩ : ∃ V, V = orderC x y := ⟨_, rfl⟩
  rw [← hV]
  replace hV := hid hV
  have B2 := hid (Box2.new h1 h2)
  have zx : (Num.digs 10 x.m).length = 0 ↔ x.m = 0 := by rw [List.length_eq_zero_iff]; exact Num.digs_eq_nil (by decide)
  have zy : (Num.digs 10 y.m).length = 0 ↔ y.m = 0 := by rw [List.length_eq_zero_iff]; exact Num.digs_eq_nil (by decide)
  have CX := fun W => ref2_Head x a1 d1 W (by omega) (by omega)
  have CY := fun W => ref2_Head y a2 d2 W (by omega) (by omega)
  obtain ⟨hX, hhX⟩ : ∃ hX, hX = headD x := ⟨_, rfl⟩
  obtain ⟨hY, hhY⟩ : ∃ hY, hY = headD y := ⟨_, rfl⟩
  rw [← hhX] at CX
  rw [← hhY] at CY
  unfold refV at CX CY ⊢
  replace CX := hid CX
  replace CY := hid CY
  replace hhX := hid hhX
  replace hhY := hid hhY
  have BX := hid bx
  have BY := hid bY
  replace zx := hid zx
  replace zy := hid zy
  clear h1 h2 bx bY
  go_enter Tryz.func91, Tryz.ntmps91
  go_upto_region 1 with fail
  obtain ⟨wc, hwc⟩ : ∃ W, W = (w.alloc (.cells #[.bool x.neg, .slice a1 (Num.digs 10 x.m).length d1, .int .i64 x.e] 66)).alloc (.cells #[.bool y.neg, .slice a2 (Num.digs 10 y.m).length d2, .int .i64 y.e] 66) := ⟨_, rfl⟩
  rw [← hwc] at B2 ⊢
  clear hwc
  obtain ⟨⟨k0, k1, k2⟩, _⟩ := blk_three B2.out.h1
  obtain ⟨⟨q0, q1, q2⟩, _⟩ := blk_three B2.out.h2
  by_cases h0 : x.m = 0 ∨ y.m = 0
  · have CC := fun W (hb : Below wc.heap.size wc W) => ref1_Cmp a1 a2 d1 d2 x.m y.m W (B2.out.r1.1.below hb) (B2.out.r2.1.below hb) (by have := BX.out; omega) (by have := BY.out; omega)
    replace CC := hid CC
    have HV := hid (show V = cmpN x.m y.m by rw [hV.out]; unfold orderC; rw [if_pos h0])
    have hc : ((((Num.digs 10 x.m).length : Int) == 0) = true) ∨ ((((Num.digs 10 x.m).length : Int) == 0) = false ∧ (((Num.digs 10 y.m).length : Int) == 0) = true) := by
      by_cases hx0 : x.m = 0
      · left; have := zx.out.2 hx0; simp [this]
      · right
        have h3 : y.m = 0 := by rcases h0 with h | h; exact absurd h hx0; exact h
        refine ⟨by rw [beq_eq_false_iff_ne]; intro e; exact hx0 (zx.out.1 (by omega)), by have := zy.out.2 h3; simp [this]⟩
    clear h0
    obtain ⟨lx, hlx⟩ : ∃ n, n = (Num.digs 10 x.m).length := ⟨_, rfl⟩
    obtain ⟨ly, hly⟩ : ∃ n, n = (Num.digs 10 y.m).length := ⟨_, rfl⟩
    have CC := CC.out
    rw [← hlx, ← hly] at CC
    rw [← hlx] at k1 hc ⊢
    rw [← hly] at q1 hc ⊢
    replace CC := hid CC
    clear hlx hly
    rcases hc with hc | ⟨hc, hc2⟩
    all_goals
      go_wp2_with fail
      refine (CC.out _ (Below.refl _ _)).mono ?_
      rintro e1 w1 ⟨rfl, q, rfl⟩
      go_wp2
      go_ret
      exact ⟨by rw [HV.out]; rfl, below_drewN B2.out.bel q⟩
  · have hx0 : x.m ≠ 0 := fun e => h0 (.inl e)
    have hy0 : y.m ≠ 0 := fun e => h0 (.inr e)
    have ix : (((Num.digs 10 x.m).length : Int) == 0) = false := by rw [beq_eq_false_iff_ne]; intro e; exact hx0 (zx.out.1 (by omega))
    have iy : (((Num.digs 10 y.m).length : Int) == 0) = false := by rw [beq_eq_false_iff_ne]; intro e; exact hy0 (zy.out.1 (by omega))
    have HV := hid (show V = sizeC x y by rw [hV.out]; unfold orderC; rw [if_neg h0])
    have hdx : 1 ≤ (Num.digs 10 x.m).length := Num.length_pos (by decide) hx0
    have hdy : 1 ≤ (Num.digs 10 y.m).length := Num.length_pos (by decide) hy0
    have hXb : x.e ≤ hX ∧ hX ≤ x.e + 400 := by have := BX.out; rw [hhX.out]; unfold headD; omega
    have hYb : y.e ≤ hY ∧ hY ≤ y.e + 400 := by have := BY.out; rw [hhY.out]; unfold headD; omega
    clear h0 hx0 hy0 hdx hdy hV
    obtain ⟨wa, rfl⟩ : ∃ wa : World, wa = wc := ⟨_, rfl⟩
    go_upto_region 3 with fail
    go_cut [2, 3, 25] from 6 (fun v2 v3 v25 w' => v2 = .pointer (some ⟨w.heap.size, 0, none⟩) ∧ v3 = .pointer (some ⟨w.heap.size + 1, 0, none⟩) ∧ v25 = .bool (hX != hY) ∧ Below wa.heap.size wa w')
    case first =>
      go_region_held3 (fun w' => w'.cell? ⟨w.heap.size, 0, none⟩ = some (.bool x.neg) ∧ w'.cell? ⟨w.heap.size, 1, none⟩ = some (.slice a1 (Num.digs 10 x.m).length d1) ∧ w'.cell? ⟨w.heap.size, 2, none⟩ = some (.int .i64 x.e) ∧ w'.cell? ⟨w.heap.size + 1, 0, none⟩ = some (.bool y.neg) ∧ w'.cell? ⟨w.heap.size + 1, 1, none⟩ = some (.slice a2 (Num.digs 10 y.m).length d2) ∧ w'.cell? ⟨w.heap.size + 1, 2, none⟩ = some (.int .i64 y.e) ∧ Below wa.heap.size wa w') (first | (exact ⟨k0, k1, k2, q0, q1, q2, (Below.refl _ _).drew⟩) | (exact keepT (by assumption) (Nat.le_refl _) (by assumption)) | assumption | (exact keepT (by assumption) (Nat.le_refl _) (below_drewN (Below.refl _ _) _))) ((first | (go_at_call 47; (with_reducible refine (CX.out _).mono ?_); rintro e w' ⟨rfl, hb⟩) | (go_at_call 47; (with_reducible refine (CY.out _).mono ?_); rintro e w' ⟨rfl, hb⟩)))
      all_goals
        rename_i hHeld
        obtain ⟨_, _, _, _, _, _, hH⟩ := hHeld
        go_wp2_with fail
        go_meet
        case rel => exact ⟨rfl, rfl, rfl, hH⟩
    case rest =>
      obtain ⟨rfl, rfl, rfl, hb⟩ := hcut
      replace B2 := hid (B2.out.next hb)
      clear hb k0 k1 k2 q0 q1 q2
      obtain ⟨⟨k0, k1, k2⟩, _⟩ := blk_three B2.out.h1
      obtain ⟨⟨q0, q1, q2⟩, _⟩ := blk_three B2.out.h2
      obtain ⟨wb, rfl⟩ : ∃ wb : World, wb = wc := ⟨_, rfl⟩
      by_cases he : hX = hY
      · have hne : (hX != hY) = false := by simp [he]
        have HS := hid (show V = cmpN (x.m * 10 ^ (x.e - min x.e y.e).toNat) (y.m * 10 ^ (y.e - min x.e y.e).toNat) by
          rw [HV.out]; unfold sizeC; rw [if_neg (by rw [← hhX.out, ← hhY.out]; simpa using he)])
        obtain ⟨k, hk⟩ : ∃ k, k = min x.e y.e := ⟨_, rfl⟩
        rw [← hk] at HS
        obtain ⟨p, hp⟩ : ∃ p, p = (x.e - k).toNat := ⟨_, rfl⟩
        obtain ⟨q, hq⟩ : ∃ q, q = (y.e - k).toNat := ⟨_, rfl⟩
        rw [← hp, ← hq] at HS
        have C1 := fun W (hb : Below wb.heap.size wb W) => ref2_at x a1 d1 k p W (B2.out.r1.below hb) (by have := BX.out; omega) (by omega) (by omega)
        have C2 := fun W (hb : Below wb.heap.size wb W) => ref2_at y a2 d2 k q W (B2.out.r2.below hb) (by have := BY.out; omega) (by omega) (by omega)
        have hp4 : p ≤ 400 := by omega
        have hq4 : q ≤ 400 := by omega
        have dX : (Num.digs 10 (x.m * 10 ^ p)).length ≤ 800 := digs_shift_le BX.out.1 (by omega)
        have dY : (Num.digs 10 (y.m * 10 ^ q)).length ≤ 800 := digs_shift_le BY.out.1 (by omega)
        obtain ⟨X, hXe⟩ : ∃ X, X = x.m * 10 ^ p := ⟨_, rfl⟩
        obtain ⟨Y, hYe⟩ : ∃ Y, Y = y.m * 10 ^ q := ⟨_, rfl⟩
        rw [← hXe] at C1 HS dX
        rw [← hYe] at C2 HS dY
        have CC := fun W b1 c1 b2 c2 (u1 : U8 W b1 (Num.digs 10 X)) (u2 : U8 W b2 (Num.digs 10 Y)) => ref1_Cmp b1 b2 c1 c2 X Y W u1 u2 (by omega) (by omega)
        unfold refV at C1 C2
        replace C1 := hid C1
        replace C2 := hid C2
        replace CC := hid CC
        have CL := ref2_low x.e y.e
        rw [← hk] at CL
        replace CL := hid CL
        clear he hk hp hq hp4 hq4 dX dY hXe hYe
        go_wp2_with fail
        refine (CL.out _).mono ?_
        rintro e1 w1 ⟨rfl, rfl⟩
        clear CX CY CL
        go_upto_region 8 with fail
        go_region_held3 (fun w' => w'.cell? ⟨w.heap.size, 0, none⟩ = some (.bool x.neg) ∧ w'.cell? ⟨w.heap.size, 1, none⟩ = some (.slice a1 (Num.digs 10 x.m).length d1) ∧ w'.cell? ⟨w.heap.size, 2, none⟩ = some (.int .i64 x.e) ∧ w'.cell? ⟨w.heap.size + 1, 0, none⟩ = some (.bool y.neg) ∧ w'.cell? ⟨w.heap.size + 1, 1, none⟩ = some (.slice a2 (Num.digs 10 y.m).length d2) ∧ w'.cell? ⟨w.heap.size + 1, 2, none⟩ = some (.int .i64 y.e) ∧ Below wb.heap.size wb w') (first | (exact ⟨k0, k1, k2, q0, q1, q2, (Below.refl _ _).drew⟩) | (exact keepT (by assumption) (Nat.le_refl _) (by assumption)) | assumption | (exact keepT (by assumption) (Nat.le_refl _) (below_drewN (Below.refl _ _) _))) ((first | (go_at_call 98; (with_reducible refine (C1.out _ ?_).mono ?_); (simp only [*]); rintro e1 w1 ⟨bx, cx, rfl, hbx, hux, _⟩) | (go_at_call 98; (with_reducible refine (C2.out _ ?_).mono ?_); (simp only [*]); rintro e2 w2 ⟨bY, cY, rfl, hbY, huY, _⟩) | (go_at_call 100; (first | (with_reducible refine (CC.out _ _ _ _ _ (hux.below hbY) huY).mono ?_) | (with_reducible refine (CC.out _ _ _ _ _ hux (huY.below hbx)).mono ?_)); rintro e3 w3 ⟨rfl, q, rfl⟩)))
        all_goals
          rename_i hHeld
          obtain ⟨_, _, _, _, _, _, hH⟩ := hHeld
          have HF := hid (B2.out.bel.trans (hH.mono B2.out.bel.size))
          clear hH
          go_wp2
          go_ret
          exact ⟨by rw [HS.out]; rfl, HF.out⟩
      · have hne : (hX != hY) = true := by simpa using he
        have HS := hid (show V = if hX < hY then -1 else 1 by
          rw [HV.out]; unfold sizeC; rw [if_pos (by rw [← hhX.out, ← hhY.out]; exact he), ← hhX.out, ← hhY.out])
        clear he
        go_upto_region 4 with fail
        go_cut [2, 3, 30] from 6 (fun v2 v3 v30 w' => v2 = .pointer (some ⟨w.heap.size, 0, none⟩) ∧ v3 = .pointer (some ⟨w.heap.size + 1, 0, none⟩) ∧ v30 = .bool (decide (hX < hY)) ∧ Below wb.heap.size wb w')
        case first =>
          go_region_held3 (fun w' => w'.cell? ⟨w.heap.size, 0, none⟩ = some (.bool x.neg) ∧ w'.cell? ⟨w.heap.size, 1, none⟩ = some (.slice a1 (Num.digs 10 x.m).length d1) ∧ w'.cell? ⟨w.heap.size, 2, none⟩ = some (.int .i64 x.e) ∧ w'.cell? ⟨w.heap.size + 1, 0, none⟩ = some (.bool y.neg) ∧ w'.cell? ⟨w.heap.size + 1, 1, none⟩ = some (.slice a2 (Num.digs 10 y.m).length d2) ∧ w'.cell? ⟨w.heap.size + 1, 2, none⟩ = some (.int .i64 y.e) ∧ Below wb.heap.size wb w') (first | (exact ⟨k0, k1, k2, q0, q1, q2, (Below.refl _ _).drew⟩) | (exact keepT (by assumption) (Nat.le_refl _) (by assumption)) | assumption | (exact keepT (by assumption) (Nat.le_refl _) (below_drewN (Below.refl _ _) _))) ((first | (go_at_call 47; (with_reducible refine (CX.out _).mono ?_); rintro e w' ⟨rfl, hb⟩) | (go_at_call 47; (with_reducible refine (CY.out _).mono ?_); rintro e w' ⟨rfl, hb⟩)))
          all_goals
            rename_i hHeld
            obtain ⟨_, _, _, _, _, _, hH⟩ := hHeld
            go_wp2_with fail
            go_meet
            case rel => exact ⟨rfl, rfl, rfl, hH⟩
        case rest =>
          obtain ⟨rfl, rfl, rfl, hb⟩ := hcut
          have HF := hid (B2.out.bel.trans (hb.mono B2.out.bel.size))
          clear hb
          by_cases hlt : hX < hY
          · have HR := hid (show V = -1 by rw [HS.out, if_pos hlt])
            clear HS
            go_wp2
            go_ret
            exact ⟨by rw [HR.out]; rfl, HF.out⟩
          · have HR := hid (show V = 1 by rw [HS.out, if_neg hlt])
            clear HS
            go_wp2
            go_ret
            exact ⟨by rw [HR.out]; rfl, HF.out⟩

end Go.Proofs.YtphdncifcljmpaaGreatDoor
