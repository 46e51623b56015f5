/- The document's answer, tenth part: Order, Compare, Cmp, Neg. The document's answer, tenth part, continued: Compare, Cmp, Neg. The document's answer: the order of values, kind by kind, but objects. The document's answer: two objects held against each other. The document's answer: the order of values, all levels; Cmp. -/
import Derived.Test.YtgbgkodjjgjhgaaGreatDoorRefK
import Derived.Test.YtgbgkodjjgjhgaaGreatDoorRefKb
import Derived.Test.YtgbgkodjjgjhgaaGreatDoorMe
import Derived.Test.YtgbgkodjjgjhgaaGreatDoorMu
import Derived.Test.YtgbgkodjjgjhgaaGreatDoorMm
import Derived.Test.YtgbgkodjjgjhgaaGreatDoorMn
import Derived.Test.YtgbgkodjjgjhgaaGreatDoorUtfJ
import Derived.Test.YtgbgkodjjgjhgaaGreatDoorMq
import Derived.Deep.RegionLaw
namespace Go.Proofs.YtgbgkodjjgjhgaaGreatDoor
open Go.RowKit

/-- Sizes held against each other. -/
def orderC (x y : D) : Int := if x.m = 0 ∨ y.m = 0 then cmpN x.m y.m else sizeC x y
def compR (x y : D) : Int := if x.neg ≠ y.neg then (if x.neg = true then -1 else 1) else if x.neg = true then orderC y x else orderC x y

theorem orderC_worth {x y : D} (hx : -100000 ≤ x.e) (hy : -100000 ≤ y.e) : orderC x y = cmpN (x.m * 10 ^ upE x.e) (y.m * 10 ^ upE y.e) := by
  have pos : ∀ (d : D), d.m ≠ 0 → 0 < d.m * 10 ^ upE d.e := fun d h => Nat.mul_pos (by omega) (pow_pos10 _)
  unfold orderC
  by_cases x0 : x.m = 0
  · rw [if_pos (.inl x0), x0, Nat.zero_mul]
    by_cases y0 : y.m = 0
    · rw [y0, Nat.zero_mul]
    · rw [cmpN_lt (pos y y0), cmpN_lt (by omega)]
  · by_cases y0 : y.m = 0
    · rw [if_pos (.inr y0), y0, Nat.zero_mul, cmpN_gt (pos x x0), cmpN_gt (by omega)]
    · rw [if_neg (by simp [x0, y0])]
      exact size_worth hx hy x0 y0
theorem cmpN_neg (X Y : Nat) : cmpN Y X = cmpI (-(X : Int)) (-(Y : Int)) := by
  unfold cmpN cmpI
  have h1 : -(X : Int) < -(Y : Int) ↔ Y < X := by omega
  have h2 : -(Y : Int) < -(X : Int) ↔ X < Y := by omega
  simp only [h1, h2]
theorem cmpN_int (X Y : Nat) : cmpN X Y = cmpI (X : Int) (Y : Int) := by
  unfold cmpN cmpI
  have h1 : (X : Int) < (Y : Int) ↔ X < Y := by omega
  have h2 : (Y : Int) < (X : Int) ↔ Y < X := by omega
  simp only [h1, h2]
theorem neg_pos {x : D} (px : IsPlain x) (h : x.neg = true) : 0 < x.m * 10 ^ upE x.e := by
  have : x.m ≠ 0 := fun e => by have := px.1 e; rw [this] at h; simp [zeroD] at h
  exact Nat.mul_pos (by omega) (pow_pos10 _)
theorem compR_eq {x y : D} (px : IsPlain x) (py : IsPlain y) (hx : -100000 ≤ x.e) (hy : -100000 ≤ y.e) : compR x y = cmpR x y := by
  rw [cmpR_worth hx hy]
  unfold compR
  have s1 : sgn true = -1 := rfl
  have s2 : sgn false = 1 := rfl
  have w1 : wo x = sgn x.neg * ((x.m * 10 ^ upE x.e : Nat) : Int) := rfl
  have w2 : wo y = sgn y.neg * ((y.m * 10 ^ upE y.e : Nat) : Int) := rfl
  rw [orderC_worth hx hy, orderC_worth hy hx]
  have p1 := neg_pos px
  have p2 := neg_pos py
  generalize x.m * 10 ^ upE x.e = X at *
  generalize y.m * 10 ^ upE y.e = Y at *
  rw [w1, w2]
  cases hg : x.neg <;> cases hg2 : y.neg
  · rw [s2]; simp; exact cmpN_int X Y
  · have := p2 hg2
    rw [s1, s2]
    rcases cmpI_cases (1 * (X : Int)) (-1 * (Y : Int)) with ⟨h1, h2⟩ | ⟨h1, h2⟩ | ⟨h1, h2⟩ <;> first | (exfalso; omega) | (rw [h2]; simp)
  · have := p1 hg
    rw [s1, s2]
    rcases cmpI_cases (-1 * (X : Int)) (1 * (Y : Int)) with ⟨h1, h2⟩ | ⟨h1, h2⟩ | ⟨h1, h2⟩ <;> first | (exfalso; omega) | (rw [h2]; simp)
  · rw [s1, cmpN_neg]; simp

/-- What holds of two boxed numbers of the document's answer. -/
structure Box2 (w w' : World) (x y : D) (N M : Nat) (b1 : Option Addr) (c1 : Nat) (b2 : Option Addr) (c2 : Nat) : Prop where
  h1 : w'.heap[N]? = some (.cells #[.bool x.neg, .slice b1 (Num.digs 10 x.m).length c1, .int .i64 x.e] 95)
  h2 : w'.heap[M]? = some (.cells #[.bool y.neg, .slice b2 (Num.digs 10 y.m).length c2, .int .i64 y.e] 95)
  r1 : RdD w' x b1 c1
  r2 : RdD w' y b2 c2
  bel : Below w.heap.size w w'
theorem Box2.next {w w' w'' : World} {x y : D} {N M c1 c2 : Nat} {b1 b2 : Option Addr} (h : Box2 w w' x y N M b1 c1 b2 c2) (hb : Below w'.heap.size w' w'') : Box2 w w'' x y N M b1 c1 b2 c2 :=
  ⟨blk_below h.h1 hb, blk_below h.h2 hb, h.r1.below hb, h.r2.below hb, below_trans h.bel hb⟩
theorem Box2.new {w : World} {x y : D} {b1 b2 : Option Addr} {c1 c2 : Nat} (r1 : RdD w x b1 c1) (r2 : RdD w y b2 c2) :
    Box2 w ((w.alloc (.cells #[.bool x.neg, .slice b1 (Num.digs 10 x.m).length c1, .int .i64 x.e] 95)).alloc (.cells #[.bool y.neg, .slice b2 (Num.digs 10 y.m).length c2, .int .i64 y.e] 95)) x y w.heap.size (w.heap.size + 1) b1 c1 b2 c2 := by
  have k1 := (Below.refl w.heap.size w).alloc (Nat.le_refl _) (.cells #[.bool x.neg, .slice b1 (Num.digs 10 x.m).length c1, .int .i64 x.e] 95)
  have k2 := k1.alloc (by simp) (.cells #[.bool y.neg, .slice b2 (Num.digs 10 y.m).length c2, .int .i64 y.e] 95)
  exact ⟨blk_alloc (blk_new w _) _, blk_new2 w _ _, r1.below k2, r2.below k2, k2⟩

set_option maxRecDepth 100000 in
set_option maxHeartbeats 6400000 in
theorem ref2_Order (x y : D) (a1 : Option Addr) (d1 : Nat) (a2 : Option Addr) (d2 : Nat) (w : World) (h1 : RdD w x a1 d1) (h2 : RdD w y a2 d2) (bx : (Num.digs 10 x.m).length ≤ 400 ∧ -10400 ≤ x.e ∧ x.e ≤ 10001) (bY : (Num.digs 10 y.m).length ≤ 400 ∧ -10400 ≤ y.e ∧ y.e ≤ 10001) :
    Calls Tryz.prog 90 #[refV x a1 d1, refV y a2 d2] w fun e w' => e = .returned (.int .i64 (orderC x y)) ∧ Below w.heap.size w w' := by
  obtain ⟨V, hV⟩ : ∃ V, V = orderC x y := ⟨_, rfl⟩
  rw [← hV]
  replace hV := hid hV
  have B2 := hid (Box2.new h1 h2)
  have zx : (Num.digs 10 x.m).length = 0 ↔ x.m = 0 := by rw [List.length_eq_zero_iff]; exact Num.digs_eq_nil (by decide)
  have zy : (Num.digs 10 y.m).length = 0 ↔ y.m = 0 := by rw [List.length_eq_zero_iff]; exact Num.digs_eq_nil (by decide)
  have CX := fun W => ref2_Head x a1 d1 W (by omega) (by omega)
  have CY := fun W => ref2_Head y a2 d2 W (by omega) (by omega)
  obtain ⟨hX, hhX⟩ : ∃ hX, hX = headD x := ⟨_, rfl⟩
  obtain ⟨hY, hhY⟩ : ∃ hY, hY = headD y := ⟨_, rfl⟩
  rw [← hhX] at CX
  rw [← hhY] at CY
  unfold refV at CX CY ⊢
  replace CX := hid CX
  replace CY := hid CY
  replace hhX := hid hhX
  replace hhY := hid hhY
  have BX := hid bx
  have BY := hid bY
  replace zx := hid zx
  replace zy := hid zy
  clear h1 h2 bx bY
  go_enter Tryz.func90, Tryz.ntmps90
  go_upto_region 1 with fail
  obtain ⟨wc, hwc⟩ : ∃ W, W = (w.alloc (.cells #[.bool x.neg, .slice a1 (Num.digs 10 x.m).length d1, .int .i64 x.e] 95)).alloc (.cells #[.bool y.neg, .slice a2 (Num.digs 10 y.m).length d2, .int .i64 y.e] 95) := ⟨_, rfl⟩
  rw [← hwc] at B2 ⊢
  clear hwc
  obtain ⟨⟨k0, k1, k2⟩, _⟩ := blk_three B2.out.h1
  obtain ⟨⟨q0, q1, q2⟩, _⟩ := blk_three B2.out.h2
  by_cases h0 : x.m = 0 ∨ y.m = 0
  · have CC := fun W (hb : Below wc.heap.size wc W) => ref1_Cmp a1 a2 d1 d2 x.m y.m W (B2.out.r1.1.below hb) (B2.out.r2.1.below hb) (by have := BX.out; omega) (by have := BY.out; omega)
    replace CC := hid CC
    have HV := hid (show V = cmpN x.m y.m by rw [hV.out]; unfold orderC; rw [if_pos h0])
    have hc : ((((Num.digs 10 x.m).length : Int) == 0) = true) ∨ ((((Num.digs 10 x.m).length : Int) == 0) = false ∧ (((Num.digs 10 y.m).length : Int) == 0) = true) := by
      by_cases hx0 : x.m = 0
      · left; have := zx.out.2 hx0; simp [this]
      · right
        have h3 : y.m = 0 := by rcases h0 with h | h; exact absurd h hx0; exact h
        refine ⟨by rw [beq_eq_false_iff_ne]; intro e; exact hx0 (zx.out.1 (by omega)), by have := zy.out.2 h3; simp [this]⟩
    clear h0
    obtain ⟨lx, hlx⟩ : ∃ n, n = (Num.digs 10 x.m).length := ⟨_, rfl⟩
    obtain ⟨ly, hly⟩ : ∃ n, n = (Num.digs 10 y.m).length := ⟨_, rfl⟩
    have CC := CC.out
    rw [← hlx, ← hly] at CC
    rw [← hlx] at k1 hc ⊢
    rw [← hly] at q1 hc ⊢
    replace CC := hid CC
    clear hlx hly
    rcases hc with hc | ⟨hc, hc2⟩
    all_goals
      go_wp2_with fail
      refine (CC.out _ (Below.refl _ _)).mono ?_
      rintro e1 w1 ⟨rfl, q, rfl⟩
      go_wp2
      go_ret
      exact ⟨by rw [HV.out]; rfl, below_drewN B2.out.bel q⟩
  · have hx0 : x.m ≠ 0 := fun e => h0 (.inl e)
    have hy0 : y.m ≠ 0 := fun e => h0 (.inr e)
    have ix : (((Num.digs 10 x.m).length : Int) == 0) = false := by rw [beq_eq_false_iff_ne]; intro e; exact hx0 (zx.out.1 (by omega))
    have iy : (((Num.digs 10 y.m).length : Int) == 0) = false := by rw [beq_eq_false_iff_ne]; intro e; exact hy0 (zy.out.1 (by omega))
    have HV := hid (show V = sizeC x y by rw [hV.out]; unfold orderC; rw [if_neg h0])
    have hdx : 1 ≤ (Num.digs 10 x.m).length := Num.length_pos (by decide) hx0
    have hdy : 1 ≤ (Num.digs 10 y.m).length := Num.length_pos (by decide) hy0
    have hXb : x.e ≤ hX ∧ hX ≤ x.e + 400 := by have := BX.out; rw [hhX.out]; unfold headD; omega
    have hYb : y.e ≤ hY ∧ hY ≤ y.e + 400 := by have := BY.out; rw [hhY.out]; unfold headD; omega
    clear h0 hx0 hy0 hdx hdy hV
    obtain ⟨wa, rfl⟩ : ∃ wa : World, wa = wc := ⟨_, rfl⟩
    go_upto_region 3 with fail
    go_cut [2, 3, 25] from 6 (fun v2 v3 v25 w' => v2 = .pointer (some ⟨w.heap.size, 0, none⟩) ∧ v3 = .pointer (some ⟨w.heap.size + 1, 0, none⟩) ∧ v25 = .bool (hX != hY) ∧ Below wa.heap.size wa w')
    case first =>
      go_region_held3 (fun w' => w'.cell? ⟨w.heap.size, 0, none⟩ = some (.bool x.neg) ∧ w'.cell? ⟨w.heap.size, 1, none⟩ = some (.slice a1 (Num.digs 10 x.m).length d1) ∧ w'.cell? ⟨w.heap.size, 2, none⟩ = some (.int .i64 x.e) ∧ w'.cell? ⟨w.heap.size + 1, 0, none⟩ = some (.bool y.neg) ∧ w'.cell? ⟨w.heap.size + 1, 1, none⟩ = some (.slice a2 (Num.digs 10 y.m).length d2) ∧ w'.cell? ⟨w.heap.size + 1, 2, none⟩ = some (.int .i64 y.e) ∧ Below wa.heap.size wa w') (first | (exact ⟨k0, k1, k2, q0, q1, q2, (Below.refl _ _).drew⟩) | (exact keepT (by assumption) (Nat.le_refl _) (by assumption)) | assumption | (exact keepT (by assumption) (Nat.le_refl _) (below_drewN (Below.refl _ _) _))) ((first | (go_at_call 118; (with_reducible refine (CX.out _).mono ?_); rintro e w' ⟨rfl, hb⟩) | (go_at_call 118; (with_reducible refine (CY.out _).mono ?_); rintro e w' ⟨rfl, hb⟩)))
      all_goals
        rename_i hHeld
        obtain ⟨_, _, _, _, _, _, hH⟩ := hHeld
        go_wp2_with fail
        go_meet
        case rel => exact ⟨rfl, rfl, rfl, hH⟩
    case rest =>
      obtain ⟨rfl, rfl, rfl, hb⟩ := hcut
      replace B2 := hid (B2.out.next hb)
      clear hb k0 k1 k2 q0 q1 q2
      obtain ⟨⟨k0, k1, k2⟩, _⟩ := blk_three B2.out.h1
      obtain ⟨⟨q0, q1, q2⟩, _⟩ := blk_three B2.out.h2
      obtain ⟨wb, rfl⟩ : ∃ wb : World, wb = wc := ⟨_, rfl⟩
      by_cases he : hX = hY
      · have hne : (hX != hY) = false := by simp [he]
        have HS := hid (show V = cmpN (x.m * 10 ^ (x.e - min x.e y.e).toNat) (y.m * 10 ^ (y.e - min x.e y.e).toNat) by
          rw [HV.out]; unfold sizeC; rw [if_neg (by rw [← hhX.out, ← hhY.out]; simpa using he)])
        obtain ⟨k, hk⟩ : ∃ k, k = min x.e y.e := ⟨_, rfl⟩
        rw [← hk] at HS
        obtain ⟨p, hp⟩ : ∃ p, p = (x.e - k).toNat := ⟨_, rfl⟩
        obtain ⟨q, hq⟩ : ∃ q, q = (y.e - k).toNat := ⟨_, rfl⟩
        rw [← hp, ← hq] at HS
        have C1 := fun W (hb : Below wb.heap.size wb W) => ref2_at x a1 d1 k p W (B2.out.r1.below hb) (by have := BX.out; omega) (by omega) (by omega)
        have C2 := fun W (hb : Below wb.heap.size wb W) => ref2_at y a2 d2 k q W (B2.out.r2.below hb) (by have := BY.out; omega) (by omega) (by omega)
        have hp4 : p ≤ 400 := by omega
        have hq4 : q ≤ 400 := by omega
        have dX : (Num.digs 10 (x.m * 10 ^ p)).length ≤ 800 := digs_shift_le BX.out.1 (by omega)
        have dY : (Num.digs 10 (y.m * 10 ^ q)).length ≤ 800 := digs_shift_le BY.out.1 (by omega)
        obtain ⟨X, hXe⟩ : ∃ X, X = x.m * 10 ^ p := ⟨_, rfl⟩
        obtain ⟨Y, hYe⟩ : ∃ Y, Y = y.m * 10 ^ q := ⟨_, rfl⟩
        rw [← hXe] at C1 HS dX
        rw [← hYe] at C2 HS dY
        have CC := fun W b1 c1 b2 c2 (u1 : U8 W b1 (Num.digs 10 X)) (u2 : U8 W b2 (Num.digs 10 Y)) => ref1_Cmp b1 b2 c1 c2 X Y W u1 u2 (by omega) (by omega)
        unfold refV at C1 C2
        replace C1 := hid C1
        replace C2 := hid C2
        replace CC := hid CC
        have CL := ref2_low x.e y.e
        rw [← hk] at CL
        replace CL := hid CL
        clear he hk hp hq hp4 hq4 dX dY hXe hYe
        go_wp2_with fail
        refine (CL.out _).mono ?_
        rintro e1 w1 ⟨rfl, rfl⟩
        clear CX CY CL
        go_upto_region 8 with fail
        go_region_held3 (fun w' => w'.cell? ⟨w.heap.size, 0, none⟩ = some (.bool x.neg) ∧ w'.cell? ⟨w.heap.size, 1, none⟩ = some (.slice a1 (Num.digs 10 x.m).length d1) ∧ w'.cell? ⟨w.heap.size, 2, none⟩ = some (.int .i64 x.e) ∧ w'.cell? ⟨w.heap.size + 1, 0, none⟩ = some (.bool y.neg) ∧ w'.cell? ⟨w.heap.size + 1, 1, none⟩ = some (.slice a2 (Num.digs 10 y.m).length d2) ∧ w'.cell? ⟨w.heap.size + 1, 2, none⟩ = some (.int .i64 y.e) ∧ Below wb.heap.size wb w') (first | (exact ⟨k0, k1, k2, q0, q1, q2, (Below.refl _ _).drew⟩) | (exact keepT (by assumption) (Nat.le_refl _) (by assumption)) | assumption | (exact keepT (by assumption) (Nat.le_refl _) (below_drewN (Below.refl _ _) _))) ((first | (go_at_call 120; (with_reducible refine (C1.out _ ?_).mono ?_); (simp only [*]); rintro e1 w1 ⟨bx, cx, rfl, hbx, hux, _⟩) | (go_at_call 120; (with_reducible refine (C2.out _ ?_).mono ?_); (simp only [*]); rintro e2 w2 ⟨bY, cY, rfl, hbY, huY, _⟩) | (go_at_call 117; (first | (with_reducible refine (CC.out _ _ _ _ _ (hux.below hbY) huY).mono ?_) | (with_reducible refine (CC.out _ _ _ _ _ hux (huY.below hbx)).mono ?_)); rintro e3 w3 ⟨rfl, q, rfl⟩)))
        all_goals
          rename_i hHeld
          obtain ⟨_, _, _, _, _, _, hH⟩ := hHeld
          have HF := hid (B2.out.bel.trans (hH.mono B2.out.bel.size))
          clear hH
          go_wp2
          go_ret
          exact ⟨by rw [HS.out]; rfl, HF.out⟩
      · have hne : (hX != hY) = true := by simpa using he
        have HS := hid (show V = if hX < hY then -1 else 1 by
          rw [HV.out]; unfold sizeC; rw [if_pos (by rw [← hhX.out, ← hhY.out]; exact he), ← hhX.out, ← hhY.out])
        clear he
        go_upto_region 4 with fail
        go_cut [2, 3, 30] from 6 (fun v2 v3 v30 w' => v2 = .pointer (some ⟨w.heap.size, 0, none⟩) ∧ v3 = .pointer (some ⟨w.heap.size + 1, 0, none⟩) ∧ v30 = .bool (decide (hX < hY)) ∧ Below wb.heap.size wb w')
        case first =>
          go_region_held3 (fun w' => w'.cell? ⟨w.heap.size, 0, none⟩ = some (.bool x.neg) ∧ w'.cell? ⟨w.heap.size, 1, none⟩ = some (.slice a1 (Num.digs 10 x.m).length d1) ∧ w'.cell? ⟨w.heap.size, 2, none⟩ = some (.int .i64 x.e) ∧ w'.cell? ⟨w.heap.size + 1, 0, none⟩ = some (.bool y.neg) ∧ w'.cell? ⟨w.heap.size + 1, 1, none⟩ = some (.slice a2 (Num.digs 10 y.m).length d2) ∧ w'.cell? ⟨w.heap.size + 1, 2, none⟩ = some (.int .i64 y.e) ∧ Below wb.heap.size wb w') (first | (exact ⟨k0, k1, k2, q0, q1, q2, (Below.refl _ _).drew⟩) | (exact keepT (by assumption) (Nat.le_refl _) (by assumption)) | assumption | (exact keepT (by assumption) (Nat.le_refl _) (below_drewN (Below.refl _ _) _))) ((first | (go_at_call 118; (with_reducible refine (CX.out _).mono ?_); rintro e w' ⟨rfl, hb⟩) | (go_at_call 118; (with_reducible refine (CY.out _).mono ?_); rintro e w' ⟨rfl, hb⟩)))
          all_goals
            rename_i hHeld
            obtain ⟨_, _, _, _, _, _, hH⟩ := hHeld
            go_wp2_with fail
            go_meet
            case rel => exact ⟨rfl, rfl, rfl, hH⟩
        case rest =>
          obtain ⟨rfl, rfl, rfl, hb⟩ := hcut
          have HF := hid (B2.out.bel.trans (hb.mono B2.out.bel.size))
          clear hb
          by_cases hlt : hX < hY
          · have HR := hid (show V = -1 by rw [HS.out, if_pos hlt])
            clear HS
            go_wp2
            go_ret
            exact ⟨by rw [HR.out]; rfl, HF.out⟩
          · have HR := hid (show V = 1 by rw [HS.out, if_neg hlt])
            clear HS
            go_wp2
            go_ret
            exact ⟨by rw [HR.out]; rfl, HF.out⟩

end Go.Proofs.YtgbgkodjjgjhgaaGreatDoor

namespace Go.Proofs.YtgbgkodjjgjhgaaGreatDoor
open Go.RowKit

set_option maxRecDepth 100000 in
set_option maxHeartbeats 1600000 in
theorem ref2_Compare (x y : D) (a1 : Option Addr) (d1 : Nat) (a2 : Option Addr) (d2 : Nat) (w : World) (h1 : RdD w x a1 d1) (h2 : RdD w y a2 d2) (bx : (Num.digs 10 x.m).length ≤ 400 ∧ -10400 ≤ x.e ∧ x.e ≤ 10001) (bY : (Num.digs 10 y.m).length ≤ 400 ∧ -10400 ≤ y.e ∧ y.e ≤ 10001) :
    Calls Tryz.prog 72 #[refV x a1 d1, refV y a2 d2] w fun e w' => e = .returned (.int .i64 (compR x y)) ∧ Below w.heap.size w w' := by
  obtain ⟨V, hV⟩ : ∃ V, V = compR x y := ⟨_, rfl⟩
  rw [← hV]
  have CXY := fun W (hb : Below w.heap.size w W) => ref2_Order x y a1 d1 a2 d2 W (h1.below hb) (h2.below hb) bx bY
  have CYX := fun W (hb : Below w.heap.size w W) => ref2_Order y x a2 d2 a1 d1 W (h2.below hb) (h1.below hb) bY bx
  unfold refV at CXY CYX ⊢
  unfold compR at hV
  obtain ⟨gx, mx, ex⟩ := x
  obtain ⟨gy, my, ey⟩ := y
  simp only at CXY CYX hV ⊢
  replace CXY := hid CXY
  replace CYX := hid CYX
  clear h1 h2 bx bY
  cases gx <;> cases gy
  · have HV := hid (show V = orderC ⟨false, mx, ex⟩ ⟨false, my, ey⟩ by rw [hV]; simp)
    clear hV
    go_enter Tryz.func72, Tryz.ntmps72
    go_wp2_with fail
    refine (CXY.out _ (((Below.refl _ _).alloc (Nat.le_refl _) _).alloc (by simp) _)).mono ?_
    rintro e1 w1 ⟨rfl, hb1⟩
    have HB := hid (below_alloc (below_alloc hb1))
    clear hb1
    go_wp2
    go_ret
    exact ⟨by rw [HV.out]; rfl, HB.out⟩
  · have HV := hid (show V = 1 by rw [hV]; simp)
    clear hV
    go_enter Tryz.func72, Tryz.ntmps72
    go_wp2
    go_ret
    exact ⟨by rw [HV.out]; rfl, ((Below.refl _ _).alloc (Nat.le_refl _) _).alloc (by simp) _⟩
  · have HV := hid (show V = -1 by rw [hV]; simp)
    clear hV
    go_enter Tryz.func72, Tryz.ntmps72
    go_wp2
    go_ret
    exact ⟨by rw [HV.out]; rfl, ((Below.refl _ _).alloc (Nat.le_refl _) _).alloc (by simp) _⟩
  · have HV := hid (show V = orderC ⟨true, my, ey⟩ ⟨true, mx, ex⟩ by rw [hV]; simp)
    clear hV
    go_enter Tryz.func72, Tryz.ntmps72
    go_wp2_with fail
    refine (CYX.out _ (((Below.refl _ _).alloc (Nat.le_refl _) _).alloc (by simp) _)).mono ?_
    rintro e1 w1 ⟨rfl, hb1⟩
    have HB := hid (below_alloc (below_alloc hb1))
    clear hb1
    go_wp2
    go_ret
    exact ⟨by rw [HV.out]; rfl, HB.out⟩

set_option maxRecDepth 100000 in
set_option maxHeartbeats 1600000 in
theorem ref2_Cmp (g : Bool) (a : Option Addr) (cap : Nat) (e : Int) (xs : List Nat) (g2 : Bool) (a2 : Option Addr) (cap2 : Nat) (e2 : Int) (ys : List Nat) (w : World) (h : U32 w a xs) (h2 : U32 w a2 ys) :
    Calls Tryz.prog 51 #[.agg #[.bool g, .slice a xs.length cap, .int .i64 e], .agg #[.bool g2, .slice a2 ys.length cap2, .int .i64 e2]] w
      (OutIE w (if bothE (takenE g xs.length (Num.worth xs) e) (takenE g2 ys.length (Num.worth ys) e2) = 0 then cmpR (takenD g xs.length (Num.worth xs) e) (takenD g2 ys.length (Num.worth ys) e2) else 0) (bothE (takenE g xs.length (Num.worth xs) e) (takenE g2 ys.length (Num.worth ys) e2))) := by
  have CT := fun W (hb : Below w.heap.size w W) => ref2_Two g a cap e xs g2 a2 cap2 e2 ys W (h.below hb) (h2.below hb)
  have bx := taken_bounds (g := g) (e := e) h.lt
  have bY := taken_bounds (g := g2) (e := e2) h2.lt
  have px := (tk_taken g xs.length (Num.worth xs) e).good.1
  have py := (tk_taken g2 ys.length (Num.worth ys) e2).good.1
  obtain ⟨x, hx⟩ : ∃ x, x = takenD g xs.length (Num.worth xs) e := ⟨_, rfl⟩
  obtain ⟨y, hy⟩ : ∃ y, y = takenD g2 ys.length (Num.worth ys) e2 := ⟨_, rfl⟩
  obtain ⟨er, her⟩ : ∃ er, er = bothE (takenE g xs.length (Num.worth xs) e) (takenE g2 ys.length (Num.worth ys) e2) := ⟨_, rfl⟩
  rw [← hx] at bx px
  rw [← hy] at bY py
  rw [← hx, ← hy, ← her] at CT ⊢
  obtain ⟨n, hn⟩ : ∃ n, n = xs.length := ⟨_, rfl⟩
  obtain ⟨n2, hn2⟩ : ∃ n, n = ys.length := ⟨_, rfl⟩
  rw [← hn, ← hn2] at CT ⊢
  rw [← compR_eq px py (by omega) (by omega)]
  have CC := fun W b1 c1 b2 c2 (r1 : RdD W x b1 c1) (r2 : RdD W y b2 c2) => ref2_Compare x y b1 c1 b2 c2 W r1 r2 bx bY
  obtain ⟨v, hv⟩ : ∃ v, v = compR x y := ⟨_, rfl⟩
  rw [← hv] at CC ⊢
  unfold refV at CC
  unfold OutRDD refV at CT
  replace CT := hid CT
  replace CC := hid CC
  clear h h2 bx bY px py hx hy her hn hn2 hv
  obtain ⟨V, hV⟩ : ∃ V, V = (if er = 0 then v else 0) := ⟨_, rfl⟩
  rw [← hV]
  replace hV := hid hV
  go_enter Tryz.func51, Tryz.ntmps51
  go_wp2_with fail
  refine (CT.out _ (((Below.refl _ _).alloc (Nat.le_refl _) _).alloc (by simp) _)).mono ?_
  rintro e1 w1 ⟨b1, c1, b2, c2, rfl, hb1, hr1, hr2⟩
  have HB1 := hid (below_alloc (below_alloc hb1))
  have HR1 := hid hr1
  have HR2 := hid hr2
  clear hb1 hr1 hr2 CT
  have k1 := (Below.refl w1.heap.size w1).alloc (Nat.le_refl _) (.cells #[.bool x.neg, .slice b1 (Num.digs 10 x.m).length c1, .int .i64 x.e] 95)
  have k2 := hid (k1.alloc (by simp) (.cells #[.bool y.neg, .slice b2 (Num.digs 10 y.m).length c2, .int .i64 y.e] 95))
  clear k1
  by_cases h0 : er = 0
  · have hne : ((er : Int) != 0) = false := by rw [bne_eq_false_iff_eq]; omega
    have HV := hid (show V = v by rw [hV.out, if_pos h0])
    have HE := hid h0
    clear h0 hV
    go_wp2_with fail
    refine (CC.out _ _ _ _ _ (HR1.out.below k2.out) (HR2.out.below k2.out)).mono ?_
    rintro e2 w2 ⟨rfl, hb2⟩
    have HB2 := hid (below_trans HB1.out (below_trans k2.out hb2))
    clear hb2
    go_wp2
    go_ret2
    exact ⟨by rw [HV.out, HE.out]; rfl, HB2.out⟩
  · have hne : ((er : Int) != 0) = true := by rw [bne_iff_ne]; omega
    have HV := hid (show V = 0 by rw [hV.out, if_neg h0])
    clear h0 hV
    go_wp2
    go_ret2
    exact ⟨by rw [HV.out]; rfl, below_trans HB1.out k2.out⟩

end Go.Proofs.YtgbgkodjjgjhgaaGreatDoor

namespace Go.Proofs.YtgbgkodjjgjhgaaGreatDoor
open Go.RowKit

def OrderRC (n : Nat) : Prop := ∀ (v u : JV) (cs ct : List Value) (w : World), mayJ n v = true → mayJ n u = true → SmallV v → SmallV u → RdV w cs v → RdV w ct u →
  Calls Tryz.prog 29 #[.agg cs.toArray, .agg ct.toArray] w fun e w' => e = .returned (.int .i64 (orderJ (n + 1) v u)) ∧ Below w.heap.size w w'

theorem keepR16 {w W' w1 : World} {b0 b1 b2 b3 b4 b5 b6 b7 b8 b9 b10 b11 b12 b13 b14 b15 o0 o1 o2 o3 o4 o5 o6 o7 o8 o9 o10 o11 o12 o13 o14 o15 : Nat} {x0 x1 x2 x3 x4 x5 x6 x7 x8 x9 x10 x11 x12 x13 x14 x15 : Value} (h : W'.cell? ⟨b0, o0, none⟩ = some x0 ∧ W'.cell? ⟨b1, o1, none⟩ = some x1 ∧ W'.cell? ⟨b2, o2, none⟩ = some x2 ∧ W'.cell? ⟨b3, o3, none⟩ = some x3 ∧ W'.cell? ⟨b4, o4, none⟩ = some x4 ∧ W'.cell? ⟨b5, o5, none⟩ = some x5 ∧ W'.cell? ⟨b6, o6, none⟩ = some x6 ∧ W'.cell? ⟨b7, o7, none⟩ = some x7 ∧ W'.cell? ⟨b8, o8, none⟩ = some x8 ∧ W'.cell? ⟨b9, o9, none⟩ = some x9 ∧ W'.cell? ⟨b10, o10, none⟩ = some x10 ∧ W'.cell? ⟨b11, o11, none⟩ = some x11 ∧ W'.cell? ⟨b12, o12, none⟩ = some x12 ∧ W'.cell? ⟨b13, o13, none⟩ = some x13 ∧ W'.cell? ⟨b14, o14, none⟩ = some x14 ∧ W'.cell? ⟨b15, o15, none⟩ = some x15 ∧ Below w.heap.size w W') (hb : Below W'.heap.size W' w1) :
    w1.cell? ⟨b0, o0, none⟩ = some x0 ∧ w1.cell? ⟨b1, o1, none⟩ = some x1 ∧ w1.cell? ⟨b2, o2, none⟩ = some x2 ∧ w1.cell? ⟨b3, o3, none⟩ = some x3 ∧ w1.cell? ⟨b4, o4, none⟩ = some x4 ∧ w1.cell? ⟨b5, o5, none⟩ = some x5 ∧ w1.cell? ⟨b6, o6, none⟩ = some x6 ∧ w1.cell? ⟨b7, o7, none⟩ = some x7 ∧ w1.cell? ⟨b8, o8, none⟩ = some x8 ∧ w1.cell? ⟨b9, o9, none⟩ = some x9 ∧ w1.cell? ⟨b10, o10, none⟩ = some x10 ∧ w1.cell? ⟨b11, o11, none⟩ = some x11 ∧ w1.cell? ⟨b12, o12, none⟩ = some x12 ∧ w1.cell? ⟨b13, o13, none⟩ = some x13 ∧ w1.cell? ⟨b14, o14, none⟩ = some x14 ∧ w1.cell? ⟨b15, o15, none⟩ = some x15 ∧ Below w.heap.size w w1 := by
  obtain ⟨h0, h1, h2, h3, h4, h5, h6, h7, h8, h9, h10, h11, h12, h13, h14, h15, hz⟩ := h
  exact ⟨cell_stay h0 hb, cell_stay h1 hb, cell_stay h2 hb, cell_stay h3 hb, cell_stay h4 hb, cell_stay h5 hb, cell_stay h6 hb, cell_stay h7 hb, cell_stay h8 hb, cell_stay h9 hb, cell_stay h10 hb, cell_stay h11 hb, cell_stay h12 hb, cell_stay h13 hb, cell_stay h14 hb, cell_stay h15 hb, below_trans hz hb⟩

set_option maxRecDepth 100000 in
set_option maxHeartbeats 3200000 in
theorem ordr_diff (k k' : Int) (g g' : Bool) (a a' : Option Addr) (l l' c c' : Nat) (e e' : Int) (s s' : List UInt8) (aa aa' : Option Addr) (an an' ac ac' : Nat) (oa oa' : Option Addr) (on on' oc oc' : Nat) (w : World) (h : k ≠ k') :
    Calls Tryz.prog 29 #[valV k g a l c e s aa an ac oa on oc, valV k' g' a' l' c' e' s' aa' an' ac' oa' on' oc'] w fun en w' => en = .returned (.int .i64 (cmpI k k')) ∧ Below w.heap.size w w' := by
  have C := ref11_ints k k'
  have hne : (k != k') = true := by rw [bne_iff_ne]; exact h
  generalize cmpI k k' = R at *
  replace C := hid C
  unfold valV
  clear h
  go_enter Tryz.func29, Tryz.ntmps29
  go_wp2_with fail
  refine (C.out _).mono ?_
  rintro en w1 ⟨rfl, hw1⟩
  rw [hw1]
  clear hw1 w1
  go_wp2_with fail
  go_ret
  exact ⟨rfl, alloc_below2 _ _ _⟩

set_option maxRecDepth 100000 in
set_option maxHeartbeats 3200000 in
theorem ordr_num (g g' : Bool) (a a' : Option Addr) (l l' c c' : Nat) (e e' : Int) (s s' : List UInt8) (aa aa' : Option Addr) (an an' ac ac' : Nat) (oa oa' : Option Addr) (on on' oc oc' : Nat) (w : World) (R er : Int)
    (hC : ∀ W, Below w.heap.size w W → Calls Tryz.prog 51 #[.agg #[.bool g, .slice a l c, .int .i64 e], .agg #[.bool g', .slice a' l' c', .int .i64 e']] W fun en w' => en = .returned (.tuple #[.int .i64 R, .int .i64 er]) ∧ Below W.heap.size W w') :
    Calls Tryz.prog 29 #[valV 3 g a l c e s aa an ac oa on oc, valV 3 g' a' l' c' e' s' aa' an' ac' oa' on' oc'] w fun en w' => en = .returned (.int .i64 R) ∧ Below w.heap.size w w' := by
  replace hC := hid hC
  unfold valV
  go_enter Tryz.func29, Tryz.ntmps29
  go_wp2_with fail
  refine (hC.out _ (alloc_below2 _ _ _)).mono ?_
  rintro en w1 ⟨rfl, hb⟩
  have hbb := hid (below_trans (alloc_below2 w _ _) hb)
  clear hb
  go_wp2_with fail
  go_ret
  exact ⟨rfl, hbb.out⟩

set_option maxRecDepth 100000 in
set_option maxHeartbeats 3200000 in
theorem ordr_text (g g' : Bool) (a a' : Option Addr) (l l' c c' : Nat) (e e' : Int) (s s' : List UInt8) (aa aa' : Option Addr) (an an' ac ac' : Nat) (oa oa' : Option Addr) (on on' oc oc' : Nat) (w : World)
    (hC : ∀ W, Below w.heap.size w W → Calls Tryz.prog 52 #[strV s, strV s'] W fun en w' => en = .returned (.int .i64 (keyC s s')) ∧ Below W.heap.size W w') :
    Calls Tryz.prog 29 #[valV 4 g a l c e s aa an ac oa on oc, valV 4 g' a' l' c' e' s' aa' an' ac' oa' on' oc'] w fun en w' => en = .returned (.int .i64 (keyC s s')) ∧ Below w.heap.size w w' := by
  generalize keyC s s' = R at *
  unfold valV
  unfold strV at *
  replace hC := hid hC
  go_enter Tryz.func29, Tryz.ntmps29
  go_wp2_with fail
  refine (hC.out _ (alloc_below2 _ _ _)).mono ?_
  rintro en w1 ⟨rfl, hb⟩
  have hbb := hid (below_trans (alloc_below2 w _ _) hb)
  clear hb
  go_wp2_with fail
  go_ret
  exact ⟨rfl, hbb.out⟩

set_option maxRecDepth 100000 in
set_option maxHeartbeats 3200000 in
theorem ordr_flat (k : Int) (g g' : Bool) (a a' : Option Addr) (l l' c c' : Nat) (e e' : Int) (s s' : List UInt8) (aa aa' : Option Addr) (an an' ac ac' : Nat) (oa oa' : Option Addr) (on on' oc oc' : Nat) (w : World) (h3 : k ≠ 3) (h4 : k ≠ 4) (h5 : k ≠ 5) (h6 : k ≠ 6) :
    Calls Tryz.prog 29 #[valV k g a l c e s aa an ac oa on oc, valV k g' a' l' c' e' s' aa' an' ac' oa' on' oc'] w fun en w' => en = .returned (.int .i64 0) ∧ Below w.heap.size w w' := by
  have e0 : (k != k) = false := by simp
  have e3 : (k == 3) = false := by rw [beq_eq_false_iff_ne]; exact h3
  have e4 : (k == 4) = false := by rw [beq_eq_false_iff_ne]; exact h4
  have e5 : (k == 5) = false := by rw [beq_eq_false_iff_ne]; exact h5
  have e6 : (k == 6) = false := by rw [beq_eq_false_iff_ne]; exact h6
  clear h3 h4 h5 h6
  unfold valV
  go_enter Tryz.func29, Tryz.ntmps29
  go_wp2_with fail
  go_ret
  exact ⟨rfl, alloc_below2 _ _ _⟩

set_option maxRecDepth 100000 in
set_option maxHeartbeats 3200000 in
theorem ordr_obj (g g' : Bool) (a a' : Option Addr) (l l' c c' : Nat) (e e' : Int) (s s' : List UInt8) (aa aa' : Option Addr) (an an' ac ac' : Nat) (oa oa' : Option Addr) (on on' oc oc' : Nat) (w : World) (R : Int)
    (hC : ∀ W, Below w.heap.size w W → Calls Tryz.prog 53 #[valV 6 g a l c e s aa an ac oa on oc, valV 6 g' a' l' c' e' s' aa' an' ac' oa' on' oc'] W fun en w' => en = .returned (.int .i64 R) ∧ Below W.heap.size W w') :
    Calls Tryz.prog 29 #[valV 6 g a l c e s aa an ac oa on oc, valV 6 g' a' l' c' e' s' aa' an' ac' oa' on' oc'] w fun en w' => en = .returned (.int .i64 R) ∧ Below w.heap.size w w' := by
  unfold valV at *
  unfold strV at *
  replace hC := hid hC
  go_enter Tryz.func29, Tryz.ntmps29
  go_wp2_with fail
  refine (hC.out _ (alloc_below2 _ _ _)).mono ?_
  rintro en w1 ⟨rfl, hb⟩
  have hbb := hid (below_trans (alloc_below2 w _ _) hb)
  clear hb
  go_wp2_with fail
  go_ret
  exact ⟨rfl, hbb.out⟩


set_option maxRecDepth 100000 in
set_option maxHeartbeats 3200000 in
theorem ordr_arr (m : Nat) (IH : OrderRC m) (g g' : Bool) (a a' : Option Addr) (l l' c c' : Nat) (e e' : Int) (s s' : List UInt8) (aa aa' : Option Addr) (ac ac' : Nat) (oa oa' : Option Addr) (on on' oc oc' : Nat) (w : World) (A B : List JV) (rA : RdA w aa A) (rB : RdA w aa' B) (hA : ∀ x ∈ A, mayJ m x = true ∧ SmallV x) (hB : ∀ x ∈ B, mayJ m x = true ∧ SmallV x) (lA : A.length ≤ 9223372036854775807) (lB : B.length ≤ 9223372036854775807) :
    Calls Tryz.prog 29 #[valV 5 g a l c e s aa A.length ac oa on oc, valV 5 g' a' l' c' e' s' aa' B.length ac' oa' on' oc'] w fun en w' => en = .returned (.int .i64 (cmpBy (orderJ (m + 1)) A B)) ∧ Below w.heap.size w w' := by
  obtain ⟨R, hR⟩ : ∃ R, R = cmpBy (orderJ (m + 1)) A B := ⟨_, rfl⟩
  rw [← hR]
  replace hR := hid hR
  replace IH := hid IH
  replace hA := hid hA
  replace hB := hid hB
  unfold valV strV
  generalize (⟨s.toArray⟩ : ByteArray) = sb
  generalize (⟨s'.toArray⟩ : ByteArray) = sb'
  obtain ⟨W, hW⟩ : ∃ W, W = (w.alloc (.cells #[.int .i64 5, .bool g, .slice a l c, .int .i64 e, .string sb, .slice aa A.length ac, .slice oa on oc] 28)).alloc (.cells #[.int .i64 5, .bool g', .slice a' l' c', .int .i64 e', .string sb', .slice aa' B.length ac', .slice oa' on' oc'] 28) := ⟨_, rfl⟩
  have hBW := hid (show Below w.heap.size w W by rw [hW]; exact alloc_below2 _ _ _)
  have hX : Hid (W.heap[w.heap.size]? = some (.cells #[.int .i64 5, .bool g, .slice a l c, .int .i64 e, .string sb, .slice aa A.length ac, .slice oa on oc] 28)) := by
    rw [hW]; exact blk_alloc (blk_new w _) _
  have hY : Hid (W.heap[w.heap.size + 1]? = some (.cells #[.int .i64 5, .bool g', .slice a' l' c', .int .i64 e', .string sb', .slice aa' B.length ac', .slice oa' on' oc'] 28)) := by
    rw [hW]; exact blk_new2 w _ _
  have hRA := hid (rA.below hBW.out)
  have hRB := hid (rB.below hBW.out)
  have hsW : Hid (w.heap.size ≤ W.heap.size) := hBW.out.size
  replace hW := hid hW.symm
  clear rA rB
  generalize hn1 : A.length = n1 at *
  generalize hn2 : B.length = n2 at *
  replace hn1 := hid hn1
  replace hn2 := hid hn2
  go_enter Tryz.func29, Tryz.ntmps29
  go_upto_region 11 with fail
  rw [hW.out]
  clear hW
  go_loopw [7] (fun vi wr => ∃ i : Nat, i ≤ n1 ∧ i ≤ n2 ∧ vi = .int .i64 i ∧ Hid (R = cmpBy (orderJ (m + 1)) (A.drop i) (B.drop i)) ∧ Hid (Below W.heap.size W wr)) (fun vi _ => n1 - (intOf vi).toNat)
  case atStart => exact ⟨0, Nat.zero_le _, Nat.zero_le _, rfl, hid (by simpa using hR.out), hid (Below.refl _ _)⟩
  case round =>
    clear hR
    obtain ⟨i, hi1, hi2, rfl, hC, hcur⟩ := hrel
    have hbf := hid (hBW.out.trans (hcur.out.mono hsW.out))
    obtain ⟨⟨p0, p1, p2, p3, p4, p5, p6⟩, _⟩ := blk_seven (blk_below hX.out hcur.out)
    obtain ⟨⟨q0, q1, q2, q3, q4, q5, q6⟩, _⟩ := blk_seven (blk_below hY.out hcur.out)
    clear p0 p1 p2 p3 p4 p6 q0 q1 q2 q3 q4 q6
    by_cases hin : i < n1 ∧ i < n2
    · obtain ⟨h1, h2⟩ := hin
      have h1' : (i : Int) < (n1 : Int) := by omega
      have h2' : (i : Int) < (n2 : Int) := by omega
      have k1 : i < A.length := by rw [hn1.out]; exact h1
      have k2 : i < B.length := by rw [hn2.out]; exact h2
      have hst := cmpBy_drop (c := orderJ (m + 1)) (List.getElem?_eq_getElem k1) (List.getElem?_eq_getElem k2)
      rw [← hC.out] at hst
      obtain ⟨b1, f1, ka, kc, kaa, kac, koa, koc, rfl, P1, C1⟩ := (hRA.out.below hcur.out).at k1
      obtain ⟨b2, f2, qa, qc, qaa, qac, qoa, qoc, rfl, P2, C2⟩ := (hRB.out.below hcur.out).at k2
      have r1 := P1.rd
      have r2 := P2.rd
      have hxA := hA.out _ (List.getElem_mem k1)
      have hxB := hB.out _ (List.getElem_mem k2)
      clear P1 P2
      obtain ⟨x, hx⟩ : ∃ x, x = A[i] := ⟨_, rfl⟩
      obtain ⟨y, hy⟩ : ∃ y, y = B[i] := ⟨_, rfl⟩
      rw [← hx] at C1 r1 hst hxA
      rw [← hy] at C2 r2 hst hxB
      clear hx hy
      unfold Cells7 strV at C1 C2
      have hO := hid (fun W' (hb : Below wr.heap.size wr W') => IH.out x y _ _ W' hxA.1 hxB.1 hxA.2 hxB.2 (r1.stay hb) (r2.stay hb))
      obtain ⟨d, hd⟩ : ∃ d, d = orderJ (m + 1) x y := ⟨_, rfl⟩
      rw [← hd] at hO hst
      replace hst := hid hst
      obtain ⟨c10, c11, c12, c13, c14, c15, c16⟩ := C1
      obtain ⟨c20, c21, c22, c23, c24, c25, c26⟩ := C2
      unfold valCs strV at hO
      generalize (⟨x.s.toArray⟩ : ByteArray) = xb at hO c14
      generalize (⟨y.s.toArray⟩ : ByteArray) = yb at hO c24
      clear hd r1 r2 hxA hxB
      by_cases hd0 : d = 0
      · have hst2 : Hid (R = cmpBy (orderJ (m + 1)) (A.drop (i + 1)) (B.drop (i + 1))) := by
          show _ = _
          rw [hst.out, if_neg (by omega)]
        subst hd0
        go_wp2_with fail
        first | go_region_held3 (fun W' => W'.cell? ⟨w.heap.size, 5, none⟩ = some (.slice (some ⟨b1, f1, none⟩) n1 ac) ∧ W'.cell? ⟨w.heap.size + 1, 5, none⟩ = some (.slice (some ⟨b2, f2, none⟩) n2 ac') ∧ W'.cell? ⟨b1, f1 + i * 7, none⟩ = some (.int .i64 x.kind) ∧ W'.cell? ⟨b1, f1 + i * 7 + 1, none⟩ = some (.bool x.g) ∧ W'.cell? ⟨b1, f1 + i * 7 + 2, none⟩ = some (.slice ka x.ls.length kc) ∧ W'.cell? ⟨b1, f1 + i * 7 + 3, none⟩ = some (.int .i64 x.e) ∧ W'.cell? ⟨b1, f1 + i * 7 + 4, none⟩ = some (.string xb) ∧ W'.cell? ⟨b1, f1 + i * 7 + 5, none⟩ = some (.slice kaa x.arr.length kac) ∧ W'.cell? ⟨b1, f1 + i * 7 + 6, none⟩ = some (.slice koa x.obj.length koc) ∧ W'.cell? ⟨b2, f2 + i * 7, none⟩ = some (.int .i64 y.kind) ∧ W'.cell? ⟨b2, f2 + i * 7 + 1, none⟩ = some (.bool y.g) ∧ W'.cell? ⟨b2, f2 + i * 7 + 2, none⟩ = some (.slice qa y.ls.length qc) ∧ W'.cell? ⟨b2, f2 + i * 7 + 3, none⟩ = some (.int .i64 y.e) ∧ W'.cell? ⟨b2, f2 + i * 7 + 4, none⟩ = some (.string yb) ∧ W'.cell? ⟨b2, f2 + i * 7 + 5, none⟩ = some (.slice qaa y.arr.length qac) ∧ W'.cell? ⟨b2, f2 + i * 7 + 6, none⟩ = some (.slice qoa y.obj.length qoc) ∧ Below wr.heap.size wr W') (first | (exact ⟨p5, q5, c10, c11, c12, c13, c14, c15, c16, c20, c21, c22, c23, c24, c25, c26, (Below.refl _ _).drew⟩) | (exact keepR16 (by assumption) (by assumption)) | assumption) ((go_at_call 29; (with_reducible refine (hO.out _ ?_).mono ?_); (simp only [*]); rintro e3 w3 ⟨rfl, hb3⟩)) | fail
        all_goals
          rename_i hHeld
          have hb3 := hHeld.2.2.2.2.2.2.2.2.2.2.2.2.2.2.2.2
          clear hHeld
          have hH := hid (below_trans hcur.out hb3)
          clear hb3
          go_wp2_with fail
          go_roundw
          case rel => exact ⟨i + 1, by omega, by omega, by go_num, hst2, hH⟩
          case measure => simp [intOf]; omega
      · have hRd : Hid (R = d) := by
          show _ = _
          rw [hst.out, if_pos hd0]
        have hd1 : (d != 0) = true := by rw [bne_iff_ne]; exact hd0
        have hd2 : (d == 0) = false := by rw [beq_eq_false_iff_ne]; exact hd0
        go_wp2_with fail
        first | go_region_held3 (fun W' => W'.cell? ⟨w.heap.size, 5, none⟩ = some (.slice (some ⟨b1, f1, none⟩) n1 ac) ∧ W'.cell? ⟨w.heap.size + 1, 5, none⟩ = some (.slice (some ⟨b2, f2, none⟩) n2 ac') ∧ W'.cell? ⟨b1, f1 + i * 7, none⟩ = some (.int .i64 x.kind) ∧ W'.cell? ⟨b1, f1 + i * 7 + 1, none⟩ = some (.bool x.g) ∧ W'.cell? ⟨b1, f1 + i * 7 + 2, none⟩ = some (.slice ka x.ls.length kc) ∧ W'.cell? ⟨b1, f1 + i * 7 + 3, none⟩ = some (.int .i64 x.e) ∧ W'.cell? ⟨b1, f1 + i * 7 + 4, none⟩ = some (.string xb) ∧ W'.cell? ⟨b1, f1 + i * 7 + 5, none⟩ = some (.slice kaa x.arr.length kac) ∧ W'.cell? ⟨b1, f1 + i * 7 + 6, none⟩ = some (.slice koa x.obj.length koc) ∧ W'.cell? ⟨b2, f2 + i * 7, none⟩ = some (.int .i64 y.kind) ∧ W'.cell? ⟨b2, f2 + i * 7 + 1, none⟩ = some (.bool y.g) ∧ W'.cell? ⟨b2, f2 + i * 7 + 2, none⟩ = some (.slice qa y.ls.length qc) ∧ W'.cell? ⟨b2, f2 + i * 7 + 3, none⟩ = some (.int .i64 y.e) ∧ W'.cell? ⟨b2, f2 + i * 7 + 4, none⟩ = some (.string yb) ∧ W'.cell? ⟨b2, f2 + i * 7 + 5, none⟩ = some (.slice qaa y.arr.length qac) ∧ W'.cell? ⟨b2, f2 + i * 7 + 6, none⟩ = some (.slice qoa y.obj.length qoc) ∧ Below wr.heap.size wr W') (first | (exact ⟨p5, q5, c10, c11, c12, c13, c14, c15, c16, c20, c21, c22, c23, c24, c25, c26, (Below.refl _ _).drew⟩) | (exact keepR16 (by assumption) (by assumption)) | assumption) ((go_at_call 29; (with_reducible refine (hO.out _ ?_).mono ?_); (simp only [*]); rintro e3 w3 ⟨rfl, hb3⟩)) | fail
        all_goals
          rename_i hHeld
          have hb3 := hHeld.2.2.2.2.2.2.2.2.2.2.2.2.2.2.2.2
          clear hHeld
          have hbf2 := hid (below_trans hbf.out hb3)
          clear hb3
          go_wp2_with fail
          go_ret
          exact ⟨ret_int hRd.out.symm, hbf2.out⟩
    · have h3 : n1 < n2 ∨ n2 < n1 ∨ n1 = n2 := by omega
      rcases h3 with h | h | h
      · obtain rfl : i = n1 := by omega
        have hRr : Hid (R = cmpI (i : Int) (n2 : Int)) := by
          show _ = _
          rw [hC.out, cmpBy_right (by rw [hn1.out]; exact Nat.le_refl _) (by rw [hn2.out]; exact h)]
          unfold cmpI
          rw [if_pos (by omega)]
        have f1 : ¬ ((i : Nat) : Int) < (i : Int) := by omega
        go_wp2_with fail
        refine (ref11_ints _ _ _).mono ?_
        rintro en w4 ⟨rfl, hw4⟩
        rw [hw4]
        clear hw4 w4
        go_wp2_with fail
        go_ret
        exact ⟨ret_int hRr.out.symm, hbf.out⟩
      · obtain rfl : i = n2 := by omega
        have hRr : Hid (R = cmpI (n1 : Int) (i : Int)) := by
          show _ = _
          rw [hC.out, cmpBy_left (by rw [hn1.out]; exact h) (by rw [hn2.out]; exact Nat.le_refl _)]
          unfold cmpI
          rw [if_neg (by omega), if_pos (by omega)]
        have f1 : ¬ ((i : Nat) : Int) < (i : Int) := by omega
        have f4 : ((i : Nat) : Int) < (n1 : Int) := by omega
        go_wp2_with fail
        refine (ref11_ints _ _ _).mono ?_
        rintro en w4 ⟨rfl, hw4⟩
        rw [hw4]
        clear hw4 w4
        go_wp2_with fail
        go_ret
        exact ⟨ret_int hRr.out.symm, hbf.out⟩
      · obtain rfl : i = n1 := by omega
        obtain rfl : i = n2 := h
        have hRr : Hid (R = cmpI (i : Int) (i : Int)) := by
          show _ = _
          rw [hC.out, cmpBy_both (by rw [hn1.out]; exact Nat.le_refl _) (by rw [hn2.out]; exact Nat.le_refl _)]
          unfold cmpI
          rw [if_neg (by omega), if_neg (by omega)]
        have f1 : ¬ ((i : Nat) : Int) < (i : Int) := by omega
        go_wp2_with fail
        refine (ref11_ints _ _ _).mono ?_
        rintro en w4 ⟨rfl, hw4⟩
        rw [hw4]
        clear hw4 w4
        go_wp2_with fail
        go_ret
        exact ⟨ret_int hRr.out.symm, hbf.out⟩

end Go.Proofs.YtgbgkodjjgjhgaaGreatDoor

namespace Go.Proofs.YtgbgkodjjgjhgaaGreatDoor
open Go.RowKit

/-- A value in a block of its own. -/
def BoxK (W : World) (b : Nat) (x : JV) : Prop := ∃ (k : Int) (g : Bool) (a : Option Addr) (l c : Nat) (e : Int) (s : List UInt8) (aa : Option Addr) (an ac : Nat) (oa : Option Addr) (on oc : Nat), W.heap[b]? = some (.cells #[.int .i64 k, .bool g, .slice a l c, .int .i64 e, .string ⟨s.toArray⟩, .slice aa an ac, .slice oa on oc] 28) ∧ RdV W (valCs k g a l c e s aa an ac oa on oc) x
theorem BoxK.stay {W W' : World} {b : Nat} {x : JV} (h : BoxK W b x) (hb : Below W.heap.size W W') : BoxK W' b x := by
  obtain ⟨k, g, a, l, c, e, s, aa, an, ac, oa, on, oc, h1, h2⟩ := h
  exact ⟨k, g, a, l, c, e, s, aa, an, ac, oa, on, oc, blk_below h1 hb, h2.stay hb⟩
theorem blk7_sets {w : World} {N : Nat} {x0 x1 x2 x3 x4 x5 x6 y0 y1 y2 y3 y4 y5 y6 : Value} {T : TypeId} (h : w.heap[N]? = some (.cells #[x0, x1, x2, x3, x4, x5, x6] T (0, 0))) : (w.setCells N 0 [y0, y1, y2, y3, y4, y5, y6]).heap[N]? = some (.cells #[y0, y1, y2, y3, y4, y5, y6] T (0, 0)) := by
  simp [World.setCells, World.setCell, Array.getElem?_modify, h]
theorem chain7 (W : World) (b : Nat) (x0 x1 x2 x3 x4 x5 x6 : Value) : W.setCells b 0 [x0, x1, x2, x3, x4, x5, x6] = ((((((W.setCell ⟨b, 0, none⟩ x0).setCell ⟨b, 1, none⟩ x1).setCell ⟨b, 2, none⟩ x2).setCell ⟨b, 3, none⟩ x3).setCell ⟨b, 4, none⟩ x4).setCell ⟨b, 5, none⟩ x5).setCell ⟨b, 6, none⟩ x6 := rfl
theorem boxK_A {w w2 w3 : World} {x : JV} {k : Int} {g : Bool} {a : Option Addr} {l c : Nat} {e : Int} {s : List UInt8} {aa : Option Addr} {an ac : Nat} {oa : Option Addr} {on oc : Nat} (hBW : Below w.heap.size w w2) (hb : Below w2.heap.size w2 w3) (rr : RdV w (valCs k g a l c e s aa an ac oa on oc) x) :
    ∃ b, Value.pointer (some ⟨w3.heap.size, 0, none⟩) = .pointer (some ⟨b, 0, none⟩) ∧ Hid (BoxK (w3.alloc (.cells #[.int .i64 k, .bool g, .slice a l c, .int .i64 e, .string ⟨s.toArray⟩, .slice aa an ac, .slice oa on oc] 28)) b x) ∧
      Hid (Below w2.heap.size w2 (w3.alloc (.cells #[.int .i64 k, .bool g, .slice a l c, .int .i64 e, .string ⟨s.toArray⟩, .slice aa an ac, .slice oa on oc] 28))) := by
  have h1 := hb.alloc hb.size (.cells #[.int .i64 k, .bool g, .slice a l c, .int .i64 e, .string ⟨s.toArray⟩, .slice aa an ac, .slice oa on oc] 28)
  exact ⟨_, rfl, hid ⟨k, g, a, l, c, e, s, aa, an, ac, oa, on, oc, blk_new w3 _, rr.stay (below_trans hBW h1)⟩, hid h1⟩
theorem boxK_B {w w2 w3 : World} {x : JV} {k : Int} {g : Bool} {a : Option Addr} {l c : Nat} {e : Int} {s : List UInt8} {aa : Option Addr} {an ac : Nat} {oa : Option Addr} {on oc : Nat} {N : Nat} {z0 z1 z2 z3 z4 z5 z6 : Value} (hBW : Below w.heap.size w w2) (hb : Below w2.heap.size w2 w3) (rr : RdV w (valCs k g a l c e s aa an ac oa on oc) x)
    (hz : w3.heap[N]? = some (.cells #[z0, z1, z2, z3, z4, z5, z6] 28)) (hN : w2.heap.size ≤ N) :
    ∃ b, Value.pointer (some ⟨N, 0, none⟩) = .pointer (some ⟨b, 0, none⟩) ∧ Hid (BoxK (((((((w3.setCell ⟨N, 0, none⟩ (.int .i64 k)).setCell ⟨N, 1, none⟩ (.bool g)).setCell ⟨N, 2, none⟩ (.slice a l c)).setCell ⟨N, 3, none⟩ (.int .i64 e)).setCell ⟨N, 4, none⟩ (.string ⟨s.toArray⟩)).setCell ⟨N, 5, none⟩ (.slice aa an ac)).setCell ⟨N, 6, none⟩ (.slice oa on oc)) b x) ∧
      Hid (Below w2.heap.size w2 (((((((w3.setCell ⟨N, 0, none⟩ (.int .i64 k)).setCell ⟨N, 1, none⟩ (.bool g)).setCell ⟨N, 2, none⟩ (.slice a l c)).setCell ⟨N, 3, none⟩ (.int .i64 e)).setCell ⟨N, 4, none⟩ (.string ⟨s.toArray⟩)).setCell ⟨N, 5, none⟩ (.slice aa an ac)).setCell ⟨N, 6, none⟩ (.slice oa on oc))) := by
  rw [← chain7]
  have h1 := below_setCells N hN [.int .i64 k, .bool g, .slice a l c, .int .i64 e, .string ⟨s.toArray⟩, .slice aa an ac, .slice oa on oc] 0 _ hb
  exact ⟨N, rfl, hid ⟨k, g, a, l, c, e, s, aa, an, ac, oa, on, oc, blk7_sets hz, rr.stay (below_trans hBW h1)⟩, hid h1⟩
/-- .. over stores into another block. -/
theorem BoxK.chain {W W' : World} {b N : Nat} {x : JV} (h : BoxK W b x) (hb : Below W.heap.size W W') (hN : W.heap.size ≤ N) (y0 y1 y2 y3 y4 y5 y6 : Value) : BoxK (((((((W'.setCell ⟨N, 0, none⟩ y0).setCell ⟨N, 1, none⟩ y1).setCell ⟨N, 2, none⟩ y2).setCell ⟨N, 3, none⟩ y3).setCell ⟨N, 4, none⟩ y4).setCell ⟨N, 5, none⟩ y5).setCell ⟨N, 6, none⟩ y6) b x := by
  rw [← chain7]
  exact h.stay (below_setCells N hN _ 0 _ hb)
theorem keepC2 {w W' w1 : World} {n0 o0 n1 o1 : Nat} {x0 x1 : Value} (h : W'.cell? ⟨n0, o0, none⟩ = some x0 ∧ W'.cell? ⟨n1, o1, none⟩ = some x1 ∧ Below w.heap.size w W') (hb : Below W'.heap.size W' w1) : w1.cell? ⟨n0, o0, none⟩ = some x0 ∧ w1.cell? ⟨n1, o1, none⟩ = some x1 ∧ Below w.heap.size w w1 :=
  ⟨cell_stay h.1 hb, cell_stay h.2.1 hb, below_trans h.2.2 hb⟩
theorem row_strs {w : World} {a : Option Addr} {ks : List (List UInt8)} (h : Row w a (strs ks)) {i : Nat} {k : List UInt8} (hk : ks[i]? = some k) : ∃ b off, a = some ⟨b, off, none⟩ ∧ w.cell? ⟨b, off + i, none⟩ = some (.string ⟨k.toArray⟩) :=
  h i (strV k) (by unfold strs; rw [List.getElem?_map, hk]; rfl)

def objC (m : Nat) (v u : JV) : Int := if cmpBy keyC (keysK v.obj) (keysK u.obj) ≠ 0 then cmpBy keyC (keysK v.obj) (keysK u.obj) else cmpBy (fun p q : Fld => orderJ m p.2 q.2) (sortK v.obj) (sortK u.obj)

set_option maxRecDepth 100000 in
set_option maxHeartbeats 16000000 in
theorem objects_walk (m : Nat) (IH : OrderRC m) (v u : JV) (cs ct : List Value) (w : World) (hv : mayJ (m + 1) v = true) (hu : mayJ (m + 1) u = true) (sv : SmallV v) (su : SmallV u) (rv : RdV w cs v) (ru : RdV w ct u) :
    Calls Tryz.prog 53 #[.agg cs.toArray, .agg ct.toArray] w fun e w' => e = .returned (.int .i64 (objC (m + 1) v u)) ∧ Below w.heap.size w w' := by
  obtain ⟨⟨⟨_, _⟩, hov⟩, hndv⟩ := may_succ.1 hv
  obtain ⟨⟨⟨_, _⟩, hou⟩, hndu⟩ := may_succ.1 hu
  have ksv : ∀ p ∈ v.obj, soundB p.1 = true ∧ p.1.length ≤ 1048576 := fun p hp => ⟨(hov p hp).1, by cases sv; rename_i h; exact (by assumption : ∀ p ∈ v.obj, p.1.length ≤ 1048576) p hp⟩
  have ksu : ∀ p ∈ u.obj, soundB p.1 = true ∧ p.1.length ≤ 1048576 := fun p hp => ⟨(hou p hp).1, by cases su; rename_i h; exact (by assumption : ∀ p ∈ u.obj, p.1.length ≤ 1048576) p hp⟩
  have hK1 := hid fun W (hb : Below w.heap.size w W) => ref11_Keys v cs w W hb rv sv.obj ksv hndv
  have hK2 := hid fun W (hb : Below w.heap.size w W) => ref11_Keys u ct w W hb ru su.obj ksu hndu
  have hH1 := hid fun key W (hb : Below w.heap.size w W) => ref11_Has v cs key w W hb rv
  have hH2 := hid fun key W (hb : Below w.heap.size w W) => ref11_Has u ct key w W hb ru
  obtain ⟨R, hR⟩ : ∃ R, R = objC (m + 1) v u := ⟨_, rfl⟩
  rw [← hR]
  replace hR := hid hR
  obtain ⟨A, hA⟩ : ∃ A, A = sortK v.obj := ⟨_, rfl⟩
  obtain ⟨B, hB⟩ : ∃ B, B = sortK u.obj := ⟨_, rfl⟩
  have hKA : keysK v.obj = A.map (·.1) := by rw [hA]; rfl
  have hKB : keysK u.obj = B.map (·.1) := by rw [hB]; rfl
  obtain ⟨k1, g1, a1, l1, c1, e1, s1, aa1, an1, ac1, oa1, on1, oc1, rfl⟩ := rv.seven
  obtain ⟨k2, g2, a2, l2, c2, e2, s2, aa2, an2, ac2, oa2, on2, oc2, rfl⟩ := ru.seven
  have hmA : ∀ p ∈ A, p ∈ v.obj := fun p hp => by rw [hA] at hp; exact (mem_sortK _ _).1 hp
  have hmB : ∀ p ∈ B, p ∈ u.obj := fun p hp => by rw [hB] at hp; exact (mem_sortK _ _).1 hp
  have hg1 := hid (show ∀ p ∈ A, getO p.1 v.obj = some p.2 from fun p hp => get_of_mem hndv (hmA p hp))
  have hg2 := hid (show ∀ p ∈ B, getO p.1 u.obj = some p.2 from fun p hp => get_of_mem hndu (hmB p hp))
  have hs1 := hid (show ∀ p ∈ A, soundB p.1 = true ∧ p.1.length ≤ 1048576 from fun p hp => ksv p (hmA p hp))
  have hs2 := hid (show ∀ p ∈ B, soundB p.1 = true ∧ p.1.length ≤ 1048576 from fun p hp => ksu p (hmB p hp))
  have hc1 := hid (show ∀ p ∈ A, mayJ m p.2 = true ∧ SmallV p.2 from fun p hp => ⟨(hov p (hmA p hp)).2, sv.flds p (hmA p hp)⟩)
  have hc2 := hid (show ∀ p ∈ B, mayJ m p.2 = true ∧ SmallV p.2 from fun p hp => ⟨(hou p (hmB p hp)).2, su.flds p (hmB p hp)⟩)
  have hR2 : Hid (R = if cmpBy keyC (A.map (·.1)) (B.map (·.1)) ≠ 0 then cmpBy keyC (A.map (·.1)) (B.map (·.1)) else cmpBy (fun p q : Fld => orderJ (m + 1) p.2 q.2) A B) := by
    show _ = _
    rw [hR.out]
    unfold objC
    rw [hKA, hKB, hA, hB]
  rw [hKA] at hK1
  rw [hKB] at hK2
  have hlA : A.length ≤ 1048576 := by rw [hA, (sortK_perm v.obj).length_eq]; exact sv.obj
  have hlB : B.length ≤ 1048576 := by rw [hB, (sortK_perm u.obj).length_eq]; exact su.obj
  clear hR hKA hKB hA hB hmA hmB ksv ksu hov hou hndv hndu hv hu sv su
  replace IH := hid IH
  obtain ⟨W, hW⟩ : ∃ W, W = (w.alloc (.cells #[.int .i64 k1, .bool g1, .slice a1 l1 c1, .int .i64 e1, .string ⟨s1.toArray⟩, .slice aa1 an1 ac1, .slice oa1 on1 oc1] 28)).alloc (.cells #[.int .i64 k2, .bool g2, .slice a2 l2 c2, .int .i64 e2, .string ⟨s2.toArray⟩, .slice aa2 an2 ac2, .slice oa2 on2 oc2] 28) := ⟨_, rfl⟩
  have hBW := hid (show Below w.heap.size w W by rw [hW]; exact alloc_below2 _ _ _)
  have hX : Hid (W.heap[w.heap.size]? = some (.cells #[.int .i64 k1, .bool g1, .slice a1 l1 c1, .int .i64 e1, .string ⟨s1.toArray⟩, .slice aa1 an1 ac1, .slice oa1 on1 oc1] 28)) := by
    rw [hW]; exact blk_alloc (blk_new w _) _
  have hY : Hid (W.heap[w.heap.size + 1]? = some (.cells #[.int .i64 k2, .bool g2, .slice a2 l2 c2, .int .i64 e2, .string ⟨s2.toArray⟩, .slice aa2 an2 ac2, .slice oa2 on2 oc2] 28)) := by
    rw [hW]; exact blk_new2 w _ _
  replace hW := hid hW.symm
  show Calls _ _ #[valV k1 g1 a1 l1 c1 e1 s1 aa1 an1 ac1 oa1 on1 oc1, valV k2 g2 a2 l2 c2 e2 s2 aa2 an2 ac2 oa2 on2 oc2] w _
  unfold valCs at *
  unfold valV strV at *
  generalize hS1 : (⟨s1.toArray⟩ : ByteArray) = sb1 at *
  generalize hS2 : (⟨s2.toArray⟩ : ByteArray) = sb2 at *
  clear hS1 hS2 rv ru
  obtain ⟨⟨p0, p1, p2, p3, p4, p5, p6⟩, _⟩ := blk_seven hX.out
  go_enter Tryz.func53, Tryz.ntmps53
  go_wp2_with fail
  rw [hW.out]
  refine (hK1.out _ hBW.out).mono ?_
  rintro en w1 ⟨ak, ck, rfl, ho1, hb1⟩
  obtain ⟨_, _, e1, r1, _⟩ := owns_row ho1
  injection e1 with e1a _ _
  subst e1a
  have hX1 := hid (blk_below hX.out hb1)
  have hY1 := hid (blk_below hY.out hb1)
  have hBW1 := hid (below_trans hBW.out hb1)
  have hr1 := hid r1
  have hk1c := owns_cap ho1
  clear p0 p1 p2 p3 p4 p5 p6 hX hY hBW ho1 r1 hb1 hK1 hW
  obtain ⟨⟨p0, p1, p2, p3, p4, p5, p6⟩, _⟩ := blk_seven hY1.out
  go_wp2_with fail
  refine (hK2.out _ hBW1.out).mono ?_
  rintro en w2 ⟨al, cl, rfl, ho2, hb2⟩
  obtain ⟨_, _, e1, r2, _⟩ := owns_row ho2
  injection e1 with e1a _ _
  subst e1a
  have hX2 := hid (blk_below hX1.out hb2)
  have hY2 := hid (blk_below hY1.out hb2)
  have hBW := hid (below_trans hBW1.out hb2)
  replace hr1 : Hid (Row w2 ak (strs (A.map (·.1)))) := hr1.out.below hb2
  have hr2 := hid r2
  have hk2c := owns_cap ho2
  have hW2 : Hid (w.heap.size ≤ w2.heap.size) := hBW.out.size
  clear p0 p1 p2 p3 p4 p5 p6 hX1 hY1 hBW1 ho2 r2 hb2 hK2
  rw [List.length_map] at *
  generalize hn1 : A.length = n1 at *
  generalize hn2 : B.length = n2 at *
  replace hn1 := hid hn1
  replace hn2 := hid hn2
  go_upto_region 4 with fail
  go_loopw [7] (fun v7 wr => ∃ i : Nat, i ≤ n1 ∧ i ≤ n2 ∧ v7 = .int .i64 i ∧ Hid (cmpBy keyC (A.map (·.1)) (B.map (·.1)) = cmpBy keyC ((A.map (·.1)).drop i) ((B.map (·.1)).drop i)) ∧ Hid (Below w2.heap.size w2 wr)) (fun v7 _ => n1 - (intOf v7).toNat)
  case atStart => exact ⟨0, Nat.zero_le _, Nat.zero_le _, rfl, hid (by simp), hid (Below.refl _ _)⟩
  case round =>
    obtain ⟨i, hi1, hi2, rfl, hC, hcur⟩ := hrel
    by_cases hin : i < n1 ∧ i < n2
    · obtain ⟨h1, h2⟩ := hin
      have h1' : (i : Int) < (n1 : Int) := by omega
      have h2' : (i : Int) < (n2 : Int) := by omega
      obtain ⟨p, hp⟩ : ∃ p, A[i]? = some p := ⟨_, List.getElem?_eq_getElem (by rw [hn1.out]; exact h1)⟩
      obtain ⟨q, hq⟩ : ∃ q, B[i]? = some q := ⟨_, List.getElem?_eq_getElem (by rw [hn2.out]; exact h2)⟩
      have hp1 : (A.map (·.1))[i]? = some p.1 := by rw [List.getElem?_map, hp]; rfl
      have hq1 : (B.map (·.1))[i]? = some q.1 := by rw [List.getElem?_map, hq]; rfl
      have hst := cmpBy_drop (c := keyC) hp1 hq1
      rw [← hC.out] at hst
      obtain ⟨b1, f1, rfl, hc1'⟩ := row_strs hr1.out hp1
      obtain ⟨b2, f2, rfl, hc2'⟩ := row_strs hr2.out hq1
      have sp := hs1.out p (List.mem_of_getElem? hp)
      have sq := hs2.out q (List.mem_of_getElem? hq)
      have hCm := hid fun W' => ref4_Cmp p.1 q.1 W' (by omega) (by omega) sp.1 sq.1
      replace hc1' := cell_stay hc1' hcur.out
      replace hc2' := cell_stay hc2' hcur.out
      generalize (⟨p.1.toArray⟩ : ByteArray) = pb at *
      generalize (⟨q.1.toArray⟩ : ByteArray) = qb at *
      obtain ⟨d, hd⟩ : ∃ d, d = keyC p.1 q.1 := ⟨_, rfl⟩
      rw [← hd] at hCm hst
      replace hst := hid hst
      clear hp hq hp1 hq1 sp sq hd
      by_cases hd0 : d = 0
      · have hst2 : Hid (cmpBy keyC (A.map (·.1)) (B.map (·.1)) = cmpBy keyC ((A.map (·.1)).drop (i + 1)) ((B.map (·.1)).drop (i + 1))) := by
          show _ = _
          rw [hst.out, if_neg (by omega)]
        subst hd0
        go_wp2_with fail
        go_region_held3 (fun W' => W'.cell? ⟨b1, f1 + i, none⟩ = some (.string pb) ∧ W'.cell? ⟨b2, f2 + i, none⟩ = some (.string qb) ∧ Below wr.heap.size wr W') (first | (exact ⟨hc1', hc2', (Below.refl _ _).drew⟩) | (exact keepC2 (by assumption) (by assumption)) | assumption) ((go_at_call 52; (with_reducible refine (hCm.out _).mono ?_); rintro e3 w3 ⟨rfl, hb3⟩))
        all_goals
          rename_i hHeld
          have hH := hid (below_trans hcur.out hHeld.2.2)
          clear hHeld
          go_wp2_with fail
          go_roundw
          case rel => exact ⟨i + 1, by omega, by omega, by go_num, hst2, hH⟩
          case measure => simp [intOf]; omega
      · have hRd : Hid (R = d) := by
          show _ = _
          have h3 : cmpBy keyC (A.map (·.1)) (B.map (·.1)) = d := by rw [hst.out, if_pos hd0]
          rw [hR2.out, h3, if_pos hd0]
        have hd1 : (d != 0) = true := by rw [bne_iff_ne]; exact hd0
        have hd2 : (d == 0) = false := by rw [beq_eq_false_iff_ne]; exact hd0
        go_wp2_with fail
        go_region_held3 (fun W' => W'.cell? ⟨b1, f1 + i, none⟩ = some (.string pb) ∧ W'.cell? ⟨b2, f2 + i, none⟩ = some (.string qb) ∧ Below wr.heap.size wr W') (first | (exact ⟨hc1', hc2', (Below.refl _ _).drew⟩) | (exact keepC2 (by assumption) (by assumption)) | assumption) ((go_at_call 52; (with_reducible refine (hCm.out _).mono ?_); rintro e3 w3 ⟨rfl, hb3⟩))
        all_goals
          rename_i hHeld
          have hH := hid (below_trans (hBW.out.trans (hcur.out.mono hW2.out)) hHeld.2.2)
          clear hHeld
          go_wp2_with fail
          go_ret
          exact ⟨ret_int hRd.out.symm, hH.out⟩
    · have hbf := hid (hBW.out.trans (hcur.out.mono hW2.out))
      have h3 : n1 < n2 ∨ n2 < n1 ∨ n1 = n2 := by omega
      have hend : Hid (∀ z : Int, cmpBy keyC ((A.map (·.1)).drop i) ((B.map (·.1)).drop i) = z → z ≠ 0 → R = z) := by
        intro z h4 h5
        rw [← hC.out] at h4
        rw [hR2.out, h4, if_pos h5]
      rcases h3 with h | h | h
      · obtain rfl : i = n1 := by omega
        have hRr : Hid (R = cmpI (i : Int) (n2 : Int)) := by
          show _ = _
          rw [hend.out (-1) (cmpBy_right (by rw [List.length_map, hn1.out]; exact Nat.le_refl _) (by rw [List.length_map, hn2.out]; exact h)) (by decide)]
          unfold cmpI
          rw [if_pos (by omega)]
        have f1 : ¬ ((i : Nat) : Int) < (i : Int) := by omega
        have f2 : ((i : Int) != (n2 : Int)) = true := by rw [bne_iff_ne]; omega
        have f3 : (i != n2) = true := by rw [bne_iff_ne]; omega
        go_wp2_with fail
        refine (ref11_ints _ _ _).mono ?_
        rintro en w4 ⟨rfl, hw4⟩
        rw [hw4]
        clear hw4 w4
        go_wp2_with fail
        go_ret
        exact ⟨ret_int hRr.out.symm, hbf.out⟩
      · obtain rfl : i = n2 := by omega
        have hRr : Hid (R = cmpI (n1 : Int) (i : Int)) := by
          show _ = _
          rw [hend.out 1 (cmpBy_left (by rw [List.length_map, hn1.out]; exact h) (by rw [List.length_map, hn2.out]; exact Nat.le_refl _)) (by decide)]
          unfold cmpI
          rw [if_neg (by omega), if_pos (by omega)]
        have f1 : ¬ ((i : Nat) : Int) < (i : Int) := by omega
        have f4 : ((i : Nat) : Int) < (n1 : Int) := by omega
        have f2 : ((n1 : Int) != (i : Int)) = true := by rw [bne_iff_ne]; omega
        have f3 : (n1 != i) = true := by rw [bne_iff_ne]; omega
        go_wp2_with fail
        refine (ref11_ints _ _ _).mono ?_
        rintro en w4 ⟨rfl, hw4⟩
        rw [hw4]
        clear hw4 w4
        go_wp2_with fail
        go_ret
        exact ⟨ret_int hRr.out.symm, hbf.out⟩
      · obtain rfl : i = n1 := by omega
        obtain rfl : i = n2 := h
        have hz : cmpBy keyC (A.map (·.1)) (B.map (·.1)) = 0 := by
          rw [hC.out]
          exact cmpBy_both (by rw [List.length_map, hn1.out]; exact Nat.le_refl _) (by rw [List.length_map, hn2.out]; exact Nat.le_refl _)
        have hRz : Hid (R = cmpBy (fun p q : Fld => orderJ (m + 1) p.2 q.2) A B) := by
          show _ = _
          rw [hR2.out, hz, if_neg (fun h => h rfl)]
        have heq : Hid (∀ (j : Nat) (p q : Fld), A[j]? = some p → B[j]? = some q → p.1 = q.1) := by
          intro j p q hp hq
          exact keyC_eq ((cmpBy_zero hz).2 j p.1 q.1 (by rw [List.getElem?_map, hp]; rfl) (by rw [List.getElem?_map, hq]; rfl))
        clear hz hend hC hR2
        have f1 : ¬ ((i : Nat) : Int) < (i : Int) := by omega
        have f2 : ((i : Int) != (i : Int)) = false := by simp
        go_upto_region 12 with fail
        go_loopw [9] (fun v9 wr => ∃ j : Nat, j ≤ i ∧ v9 = .int .i64 j ∧ Hid (R = cmpBy (fun p q : Fld => orderJ (m + 1) p.2 q.2) (A.drop j) (B.drop j)) ∧ Hid (Below w2.heap.size w2 wr)) (fun v9 _ => i - (intOf v9).toNat)
        case atStart => exact ⟨0, Nat.zero_le _, rfl, hid (by simpa using hRz.out), hcur⟩
        case round =>
          clear hRz hcur hbf
          obtain ⟨j, hj, rfl, hRj, hcur⟩ := hrel
          by_cases hlt : j < i
          · have hlt' : (j : Int) < (i : Int) := by omega
            obtain ⟨p, hp⟩ : ∃ p, A[j]? = some p := ⟨_, List.getElem?_eq_getElem (by rw [hn1.out]; exact hlt)⟩
            obtain ⟨q, hq⟩ : ∃ q, B[j]? = some q := ⟨_, List.getElem?_eq_getElem (by rw [hn2.out]; exact hlt)⟩
            have hst := cmpBy_drop (c := fun p q : Fld => orderJ (m + 1) p.2 q.2) hp hq
            rw [← hRj.out] at hst
            have hkk := heq.out j p q hp hq
            obtain ⟨b1, f1, rfl, hcell⟩ := row_strs hr1.out (by rw [List.getElem?_map, hp]; rfl : (A.map (·.1))[j]? = some p.1)
            have hP : Hid (∀ W', Below w.heap.size w W' → Calls Tryz.prog 36 #[.agg #[.int .i64 k1, .bool g1, .slice a1 l1 c1, .int .i64 e1, .string sb1, .slice aa1 an1 ac1, .slice oa1 on1 oc1], .string ⟨p.1.toArray⟩] W' (OutH w W' p.2)) := by
              have h := hH1.out p.1
              rw [hg1.out p (List.mem_of_getElem? hp)] at h
              exact h
            have hQ : Hid (∀ W', Below w.heap.size w W' → Calls Tryz.prog 36 #[.agg #[.int .i64 k2, .bool g2, .slice a2 l2 c2, .int .i64 e2, .string sb2, .slice aa2 an2 ac2, .slice oa2 on2 oc2], .string ⟨p.1.toArray⟩] W' (OutH w W' q.2)) := by
              have h := hH2.out q.1
              rw [hg2.out q (List.mem_of_getElem? hq), ← hkk] at h
              exact h
            have cp := hid (hc1.out p (List.mem_of_getElem? hp))
            have cq := hid (hc2.out q (List.mem_of_getElem? hq))
            obtain ⟨x, hx⟩ : ∃ x, x = p.2 := ⟨_, rfl⟩
            obtain ⟨y, hy⟩ : ∃ y, y = q.2 := ⟨_, rfl⟩
            rw [← hx] at hst hP cp
            rw [← hy] at hst hQ cq
            generalize (⟨p.1.toArray⟩ : ByteArray) = pb at *
            clear hx hy hkk hp hq
            replace hst := hid hst
            go_upto_region 14 with fail
            go_cut [10] from 53 to 82 (fun v10 w' => ∃ b, v10 = .pointer (some ⟨b, 0, none⟩) ∧ Hid (BoxK w' b x) ∧ Hid (Below w2.heap.size w2 w'))
            case first =>
              obtain ⟨⟨p0, p1, p2, p3, p4, p5, p6⟩, _⟩ := blk_seven (blk_below hX2.out hcur.out)
              have hky := cell_stay hcell hcur.out
              have hl1 := cell_lt hky
              have hl2 := cell_lt p0
              go_region_law (first | (go_simp; go_at_call 36; refine (hP.out _ (by first | exact below_trans (hBW.out.trans (hcur.out.mono hW2.out)) (((Below.refl _ _).alloc (Nat.le_refl _) _).drew) | exact (hBW.out.trans (hcur.out.mono hW2.out)).drew | exact below_trans (hBW.out.trans (hcur.out.mono hW2.out)) (((Below.refl _ _).drew).alloc (Nat.le_refl _) _))).mono ?_; rintro e3 w3 ⟨cs3, f3, rfl, rr, hb3⟩; obtain ⟨k3, g3, a3, l3, c3, e3, s3, aa3, an3, ac3, oa3, on3, oc3, rfl⟩ := rr.seven; have rr3 := hid rr; clear rr; (first | (have hz3 : w3.heap[wr.heap.size]? = some (.cells #[.int .i64 0, .bool false, .slice none 0 0, .int .i64 0, .string ⟨#[]⟩, .slice none 0 0, .slice none 0 0] 28) := (by first | exact blk_below (blk_new (World.drew wr) _) hb3 | exact blk_below (blk_new wr _) hb3); have hb4 : Below wr.heap.size wr w3 := (by first | exact below_trans (((Below.refl _ _).alloc (Nat.le_refl _) _).drew) hb3 | exact below_trans (((Below.refl _ _).drew).alloc (Nat.le_refl _) _) hb3); obtain ⟨⟨z0, z1, z2, z3, z4, z5, z6⟩, f0, f1, f2, f3, f4, f5, f6⟩ := blk_seven hz3) | (have hb4 : Below wr.heap.size wr w3 := (by first | exact below_trans (Below.refl _ _).drew hb3 | exact hb3))); unfold valCs strV))
              all_goals
                clear hb3 p0 p1 p2 p3 p4 p5 p6 hky hl1 hl2
                have hb5 := hid hb4
                have hB := hid (fun (N : Nat) (hz : w3.heap[N]? = some (.cells #[.int .i64 0, .bool false, .slice none 0 0, .int .i64 0, .string ⟨#[]⟩, .slice none 0 0, .slice none 0 0] 28)) (hN : w2.heap.size ≤ N) => boxK_B hBW.out (hcur.out.trans (hb4.mono hcur.out.size)) rr3.out hz hN)
                have hA := hid (boxK_A hBW.out (hcur.out.trans (hb4.mono hcur.out.size)) rr3.out)
                have hcs := hid (hcur.out.size)
                skip
                skip
                clear hb4 rr3
                go_wp2_with fail
                go_meet
                case rel => exact (by first | with_reducible exact hB.out _ hz3 hcs.out | with_reducible exact hA.out)
            case rest =>
            obtain ⟨bx, rfl, hbx, hcur2⟩ := hcut
            go_upto_region 15 with fail
            go_cut [12, 10] from 53 to 82 (fun v12 v10 w' => v10 = .pointer (some ⟨bx, 0, none⟩) ∧ Hid (BoxK w' bx x) ∧ ∃ b, v12 = .pointer (some ⟨b, 0, none⟩) ∧ Hid (BoxK w' b y) ∧ Hid (Below w2.heap.size w2 w'))
            case first =>
              obtain ⟨⟨p0, p1, p2, p3, p4, p5, p6⟩, _⟩ := blk_seven (blk_below hY2.out hcur2.out)
              have hky := cell_stay hcell hcur2.out
              have hl1 := cell_lt hky
              have hl2 := cell_lt p0
              go_region_law (first | (go_simp; go_at_call 36; refine (hQ.out _ (by first | exact below_trans (hBW.out.trans (hcur2.out.mono hW2.out)) (((Below.refl _ _).alloc (Nat.le_refl _) _).drew) | exact (hBW.out.trans (hcur2.out.mono hW2.out)).drew | exact below_trans (hBW.out.trans (hcur2.out.mono hW2.out)) (((Below.refl _ _).drew).alloc (Nat.le_refl _) _))).mono ?_; rintro e3 w3 ⟨cs3, f3, rfl, rr, hb3⟩; obtain ⟨k3, g3, a3, l3, c3, e3, s3, aa3, an3, ac3, oa3, on3, oc3, rfl⟩ := rr.seven; have rr3 := hid rr; clear rr; (first | (have hz3 : w3.heap[wc.heap.size]? = some (.cells #[.int .i64 0, .bool false, .slice none 0 0, .int .i64 0, .string ⟨#[]⟩, .slice none 0 0, .slice none 0 0] 28) := (by first | exact blk_below (blk_new (World.drew wc) _) hb3 | exact blk_below (blk_new wc _) hb3); have hb4 : Below wc.heap.size wc w3 := (by first | exact below_trans (((Below.refl _ _).alloc (Nat.le_refl _) _).drew) hb3 | exact below_trans (((Below.refl _ _).drew).alloc (Nat.le_refl _) _) hb3); obtain ⟨⟨z0, z1, z2, z3, z4, z5, z6⟩, f0, f1, f2, f3, f4, f5, f6⟩ := blk_seven hz3) | (have hb4 : Below wc.heap.size wc w3 := (by first | exact below_trans (Below.refl _ _).drew hb3 | exact hb3))); unfold valCs strV))
              all_goals
                clear hb3 p0 p1 p2 p3 p4 p5 p6 hky hl1 hl2
                have hb5 := hid hb4
                have hB := hid (fun (N : Nat) (hz : w3.heap[N]? = some (.cells #[.int .i64 0, .bool false, .slice none 0 0, .int .i64 0, .string ⟨#[]⟩, .slice none 0 0, .slice none 0 0] 28)) (hN : w2.heap.size ≤ N) => boxK_B hBW.out (hcur2.out.trans (hb4.mono hcur2.out.size)) rr3.out hz hN)
                have hA := hid (boxK_A hBW.out (hcur2.out.trans (hb4.mono hcur2.out.size)) rr3.out)
                have hcs := hid (hcur2.out.size)
                have hk := hid (fun (o : Obj) => And.intro (hbx.out.stay hb5.out) ((hbx.out.stay hb5.out).stay ((Below.refl _ _).alloc (Nat.le_refl _) o)))
                have hk2 := hid (fun (y0 y1 y2 y3 y4 y5 y6 : Value) => hbx.out.chain hb5.out (Nat.le_refl _) y0 y1 y2 y3 y4 y5 y6)
                clear hb4 rr3
                go_wp2_with fail
                go_meet
                case rel => exact ⟨rfl, hid (by first | with_reducible exact (hk.out _).2 | with_reducible exact hk2.out _ _ _ _ _ _ _), (by first | with_reducible exact hB.out _ hz3 hcs.out | with_reducible exact hA.out)⟩
            case rest =>
            obtain ⟨rfl, hbx2, bY, rfl, hby, hcur3⟩ := hcut
            have IHc := hid (fun (cs ct : List Value) (W' : World) => IH.out x y cs ct W' cp.out.1 cq.out.1 cp.out.2 cq.out.2)
            obtain ⟨k4, g4, a4, l4, c4, e4, s4, aa4, an4, ac4, oa4, on4, oc4, hx4, rx4⟩ := hbx2.out
            obtain ⟨k5, g5, a5, l5, c5, e5, s5, aa5, an5, ac5, oa5, on5, oc5, hx5, rx5⟩ := hby.out
            obtain ⟨⟨p0, p1, p2, p3, p4, p5, p6⟩, _⟩ := blk_seven hx4
            obtain ⟨⟨q0, q1, q2, q3, q4, q5, q6⟩, _⟩ := blk_seven hx5
            have hO := hid (IHc.out _ _ _ rx4 rx5)
            obtain ⟨d, hd⟩ : ∃ d, d = orderJ (m + 1) x y := ⟨_, rfl⟩
            rw [← hd] at hO hst
            unfold valCs strV at hO
            clear hd rx4 rx5 hx4 hx5 hbx hby hbx2 hP hQ IHc
            by_cases hd0 : d = 0
            · have hst2 : Hid (R = cmpBy (fun p q : Fld => orderJ (m + 1) p.2 q.2) (A.drop (j + 1)) (B.drop (j + 1))) := by
                show _ = _
                rw [hst.out, if_neg (by omega)]
              subst hd0
              go_wp2_with fail
              refine hO.out.mono ?_
              rintro en w5 ⟨rfl, hb5⟩
              have hH := hid (below_trans hcur3.out hb5)
              clear hb5 p0 p1 p2 p3 p4 p5 p6 q0 q1 q2 q3 q4 q5 q6
              go_wp2_with fail
              go_roundw
              case rel => exact ⟨j + 1, by omega, by go_num, hst2, hH⟩
              case measure => simp [intOf]; omega
            · have hRd : Hid (R = d) := by
                show _ = _
                rw [hst.out, if_pos hd0]
              have hd1 : (d != 0) = true := by rw [bne_iff_ne]; exact hd0
              have hd2 : (d == 0) = false := by rw [beq_eq_false_iff_ne]; exact hd0
              go_wp2_with fail
              refine hO.out.mono ?_
              rintro en w5 ⟨rfl, hb5⟩
              have hH := hid (below_trans (hBW.out.trans (hcur3.out.mono hW2.out)) hb5)
              clear hb5 p0 p1 p2 p3 p4 p5 p6 q0 q1 q2 q3 q4 q5 q6
              go_wp2_with fail
              go_ret
              exact ⟨ret_int hRd.out.symm, hH.out⟩
          · obtain rfl : j = i := by omega
            have f3 : ¬ ((j : Nat) : Int) < (j : Int) := by omega
            have hR0 : Hid (R = 0) := by
              show _ = _
              rw [hRj.out]
              exact cmpBy_both (by rw [hn1.out]; exact Nat.le_refl _) (by rw [hn2.out]; exact Nat.le_refl _)
            have hbf := hid (hBW.out.trans (hcur.out.mono hW2.out))
            go_wp2_with fail
            go_ret
            exact ⟨ret_int hR0.out.symm, hbf.out⟩

end Go.Proofs.YtgbgkodjjgjhgaaGreatDoor

namespace Go.Proofs.YtgbgkodjjgjhgaaGreatDoor
open Go.RowKit

theorem orderR_step (n : Nat) (IH : ∀ m, n = m + 1 → OrderRC m) : OrderRC n := by
  intro v u cs ct w hv hu sv su rv ru
  have rv0 := rv
  have ru0 := ru
  obtain ⟨a, c, aa, ac, oa, oc, P⟩ := rv.parts
  obtain ⟨a', c', aa', ac', oa', oc', P'⟩ := ru.parts
  have e := P.cells
  have e' := P'.cells
  subst e e'
  have hR : orderJ (n + 1) v u = fibC JV.kind (kindC (orderJ n)) v u := rfl
  rw [hR]
  unfold fibC
  by_cases hk : v.kind = u.kind
  rotate_left
  · have := ordr_diff v.kind u.kind v.g u.g a a' v.ls.length u.ls.length c c' v.e u.e v.s u.s aa aa' v.arr.length u.arr.length ac ac' oa oa' v.obj.length u.obj.length oc oc' w hk
    have e1 : cmpI v.kind u.kind = if v.kind < u.kind then -1 else if u.kind < v.kind then 1 else kindC (orderJ n) v.kind v u := by
      unfold cmpI
      by_cases h1 : v.kind < u.kind
      · rw [if_pos h1, if_pos h1]
      · rw [if_neg h1, if_neg h1, if_pos (by omega), if_pos (by omega)]
    rw [← e1]
    exact this
  rw [if_neg (by omega), if_neg (by omega)]
  unfold kindC
  by_cases h3 : v.kind = 3
  · rw [if_pos h3]
    have t1 := may_taken hv h3
    have t2 := may_taken hu (hk ▸ h3)
    have C := fun W (hb : Below w.heap.size w W) => ref2_Cmp v.g a c v.e v.ls u.g a' c' u.e u.ls W (P.u.below hb) (P'.u.below hb)
    rw [t1.1, t1.2, t2.1, t2.2] at C
    have C2 : ∀ W, Below w.heap.size w W → Calls Tryz.prog 51 #[.agg #[.bool v.g, .slice a v.ls.length c, .int .i64 v.e], .agg #[.bool u.g, .slice a' u.ls.length c', .int .i64 u.e]] W fun en w' => en = .returned (.tuple #[.int .i64 (cmpR (dOf v) (dOf u)), .int .i64 0]) ∧ Below W.heap.size W w' := C
    have := ordr_num v.g u.g a a' v.ls.length u.ls.length c c' v.e u.e v.s u.s aa aa' v.arr.length u.arr.length ac ac' oa oa' v.obj.length u.obj.length oc oc' w _ _ C2
    rw [← h3] at this
    rw [show valCs u.kind = valCs v.kind by rw [hk]]
    exact this
  rw [if_neg h3]
  by_cases h4 : v.kind = 4
  · rw [if_pos h4]
    have b1 := (base_iff.1 (may_base hv)).2.2.1
    have b2 := (base_iff.1 (may_base hu)).2.2.1
    unfold strB at b1 b2
    rw [if_pos h4] at b1
    rw [if_pos (hk ▸ h4)] at b2
    have s1 : v.s.length ≤ 1048576 := by cases sv; assumption
    have s2 : u.s.length ≤ 1048576 := by cases su; assumption
    have := ordr_text v.g u.g a a' v.ls.length u.ls.length c c' v.e u.e v.s u.s aa aa' v.arr.length u.arr.length ac ac' oa oa' v.obj.length u.obj.length oc oc' w (fun W hb => ref4_Cmp v.s u.s W (by omega) (by omega) b1 b2)
    rw [← h4] at this
    rw [show valCs u.kind = valCs v.kind by rw [hk]]
    exact this
  rw [if_neg h4]
  by_cases h5 : v.kind = 5
  · rw [if_pos h5]
    obtain ⟨m, rfl⟩ : ∃ m, n = m + 1 := by
      cases n with
      | zero =>
        simp only [mayJ, Bool.and_eq_true, decide_eq_true_eq] at hv
        omega
      | succ m => exact ⟨m, rfl⟩
    have IHm := IH m rfl
    obtain ⟨⟨⟨_, ha⟩, _⟩, _⟩ := may_succ.1 hv
    obtain ⟨⟨⟨_, ha'⟩, _⟩, _⟩ := may_succ.1 hu
    have := ordr_arr m IHm v.g u.g a a' v.ls.length u.ls.length c c' v.e u.e v.s u.s aa aa' ac ac' oa oa' v.obj.length u.obj.length oc oc' w v.arr u.arr P.arr P'.arr (fun x hx => ⟨ha x hx, sv.arr x hx⟩) (fun x hx => ⟨ha' x hx, su.arr x hx⟩) (by have := P.ac; omega) (by have := P'.ac; omega)
    rw [← h5] at this
    rw [show valCs u.kind = valCs v.kind by rw [hk]]
    exact this
  rw [if_neg h5]
  by_cases h6 : v.kind = 6
  rotate_left
  · rw [if_neg h6]
    have := ordr_flat v.kind v.g u.g a a' v.ls.length u.ls.length c c' v.e u.e v.s u.s aa aa' v.arr.length u.arr.length ac ac' oa oa' v.obj.length u.obj.length oc oc' w h3 h4 h5 h6
    rw [show valCs u.kind = valCs v.kind by rw [hk]]
    exact this
  rw [if_pos h6]
  obtain ⟨m, rfl⟩ : ∃ m, n = m + 1 := by
    cases n with
    | zero =>
      simp only [mayJ, Bool.and_eq_true, decide_eq_true_eq] at hv
      omega
    | succ m => exact ⟨m, rfl⟩
  have h6' := hk ▸ h6
  have C := fun W (hb : Below w.heap.size w W) => objects_walk m (IH m rfl) v u _ _ W hv hu sv su (rv0.stay hb) (ru0.stay hb)
  rw [show valCs v.kind = valCs 6 by rw [h6], show valCs u.kind = valCs 6 by rw [h6']] at C
  have := ordr_obj v.g u.g a a' v.ls.length u.ls.length c c' v.e u.e v.s u.s aa aa' v.arr.length u.arr.length ac ac' oa oa' v.obj.length u.obj.length oc oc' w _ C
  rw [show valCs v.kind = valCs 6 by rw [h6], show valCs u.kind = valCs 6 by rw [h6']]
  have e5 : objC (m + 1) v u = if cmpBy (fun p q : Fld => keyC p.1 q.1) (sortK v.obj) (sortK u.obj) ≠ 0 then cmpBy (fun p q : Fld => keyC p.1 q.1) (sortK v.obj) (sortK u.obj) else cmpBy (fun p q : Fld => orderJ (m + 1) p.2 q.2) (sortK v.obj) (sortK u.obj) := by
    unfold objC
    rw [keys_cmp]
  rw [e5] at this
  exact this

theorem ref11_Order : ∀ n, OrderRC n
  | 0 => orderR_step 0 (fun m hm => by omega)
  | n + 1 => orderR_step (n + 1) (fun m hm => by obtain rfl : n = m := by omega
                                                 exact ref11_Order n)

set_option maxRecDepth 100000 in
set_option maxHeartbeats 3200000 in
theorem rcmp_walk (k k' : Int) (g g' : Bool) (a a' : Option Addr) (l l' c c' : Nat) (e e' : Int) (s s' : List UInt8) (aa aa' : Option Addr) (an an' ac ac' : Nat) (oa oa' : Option Addr) (on on' oc oc' : Nat) (w : World) (m1 m2 : Bool) (R : Int)
    (h1 : ∀ W, Below w.heap.size w W → Calls Tryz.prog 28 #[valV k g a l c e s aa an ac oa on oc] W fun en w' => en = .returned (.bool m1) ∧ Below W.heap.size W w')
    (h2 : ∀ W, Below w.heap.size w W → Calls Tryz.prog 28 #[valV k' g' a' l' c' e' s' aa' an' ac' oa' on' oc'] W fun en w' => en = .returned (.bool m2) ∧ Below W.heap.size W w')
    (h3 : m1 = true → m2 = true → ∀ W, Below w.heap.size w W → Calls Tryz.prog 29 #[valV k g a l c e s aa an ac oa on oc, valV k' g' a' l' c' e' s' aa' an' ac' oa' on' oc'] W fun en w' => en = .returned (.int .i64 R) ∧ Below W.heap.size W w') :
    Calls Tryz.prog 12 #[valV k g a l c e s aa an ac oa on oc, valV k' g' a' l' c' e' s' aa' an' ac' oa' on' oc'] w fun en w' => en = .returned (.tuple #[.int .i64 (if m1 = true ∧ m2 = true then R else 0), .int .i64 (if m1 = true ∧ m2 = true then 0 else 1)]) ∧ Below w.heap.size w w' := by
  unfold valV strV at *
  generalize (⟨s.toArray⟩ : ByteArray) = sb at *
  generalize (⟨s'.toArray⟩ : ByteArray) = sb' at *
  obtain ⟨W, hW⟩ : ∃ W, W = (w.alloc (.cells #[.int .i64 k, .bool g, .slice a l c, .int .i64 e, .string sb, .slice aa an ac, .slice oa on oc] 28)).alloc (.cells #[.int .i64 k', .bool g', .slice a' l' c', .int .i64 e', .string sb', .slice aa' an' ac', .slice oa' on' oc'] 28) := ⟨_, rfl⟩
  have hB := hid (show Below w.heap.size w W by rw [hW]; exact alloc_below2 _ _ _)
  have hX : Hid (BoxV W w.heap.size k g a l c e sb aa an ac oa on oc) := by
    rw [hW]
    exact ⟨by simp [go_sem], by simp [go_sem], by simp [go_sem], by simp [go_sem], by simp [go_sem], by simp [go_sem], by simp [go_sem]⟩
  have hY : Hid (BoxV W (w.heap.size + 1) k' g' a' l' c' e' sb' aa' an' ac' oa' on' oc') := by
    rw [hW]
    exact ⟨by simp [go_sem], by simp [go_sem], by simp [go_sem], by simp [go_sem], by simp [go_sem], by simp [go_sem], by simp [go_sem]⟩
  replace hW := hid hW.symm
  replace h1 := hid h1
  replace h2 := hid h2
  replace h3 := hid h3
  cases m1 with
  | false =>
    rw [if_neg (by simp), if_neg (by simp)]
    go_enter Tryz.func12, Tryz.ntmps12
    go_wp2_with fail
    rw [hW.out]
    refine (h1.out _ hB.out).mono ?_
    rintro en w1 ⟨rfl, hb⟩
    have hbb := hid (below_trans hB.out hb)
    clear hb
    go_wp2_with fail
    go_ret2
    exact ⟨rfl, hbb.out⟩
  | true =>
    cases m2 with
    | false =>
      rw [if_neg (by simp), if_neg (by simp)]
      go_enter Tryz.func12, Tryz.ntmps12
      go_wp2_with fail
      rw [hW.out]
      refine (h1.out _ hB.out).mono ?_
      rintro en w1 ⟨rfl, hb⟩
      have hbb := hid (below_trans hB.out hb)
      obtain ⟨y0, y1, y2, y3, y4, y5, y6⟩ := hY.out.stay hb
      clear hb
      go_wp2_with fail
      refine (h2.out _ hbb.out).mono ?_
      rintro en w2 ⟨rfl, hb⟩
      have hb3 := hid (below_trans hbb.out hb)
      clear hb y0 y1 y2 y3 y4 y5 y6
      go_wp2_with fail
      go_ret2
      exact ⟨rfl, hb3.out⟩
    | true =>
      rw [if_pos ⟨rfl, rfl⟩, if_pos ⟨rfl, rfl⟩]
      have h4 := hid (h3.out rfl rfl)
      go_enter Tryz.func12, Tryz.ntmps12
      go_wp2_with fail
      rw [hW.out]
      refine (h1.out _ hB.out).mono ?_
      rintro en w1 ⟨rfl, hb⟩
      have hbb := hid (below_trans hB.out hb)
      have hX2 := hid (hX.out.stay hb)
      have hY2 := hid (hY.out.stay hb)
      obtain ⟨y0, y1, y2, y3, y4, y5, y6⟩ := hY2.out
      clear hb
      go_wp2_with fail
      refine (h2.out _ hbb.out).mono ?_
      rintro en w2 ⟨rfl, hb⟩
      have hb3 := hid (below_trans hbb.out hb)
      clear y0 y1 y2 y3 y4 y5 y6
      obtain ⟨x0, x1, x2, x3, x4, x5, x6⟩ := hX2.out.stay hb
      obtain ⟨y0, y1, y2, y3, y4, y5, y6⟩ := hY2.out.stay hb
      clear hb
      go_wp2_with fail
      refine (h4.out _ hb3.out).mono ?_
      rintro en w3 ⟨rfl, hb⟩
      have hb4 := hid (below_trans hb3.out hb)
      clear hb
      go_wp2_with fail
      go_ret2
      exact ⟨rfl, hb4.out⟩

theorem ref11_Cmp (v u : JV) (cs ct : List Value) (w : World) (sv : SmallV v) (su : SmallV u) (rv : RdV w cs v) (ru : RdV w ct u) :
    Calls Tryz.prog 12 #[.agg cs.toArray, .agg ct.toArray] w fun en w' => en = .returned (.tuple #[.int .i64 (cmpVR v u).1, .int .i64 ((cmpVR v u).2 : Nat)]) ∧ Below w.heap.size w w' := by
  have hR : (cmpVR v u).1 = (if mayJ 200 v = true ∧ mayJ 200 u = true then orderJ 201 v u else 0) ∧ (((cmpVR v u).2 : Nat) : Int) = (if mayJ 200 v = true ∧ mayJ 200 u = true then 0 else 1) := by
    unfold cmpVR
    split <;> exact ⟨rfl, rfl⟩
  rw [hR.1, hR.2]
  have C1 := fun W hb => ref11_May v cs W (rv.stay hb)
  have C2 := fun W hb => ref11_May u ct W (ru.stay hb)
  have C3 := fun (h1 : mayJ 200 v = true) (h2 : mayJ 200 u = true) W hb => ref11_Order 200 v u cs ct W h1 h2 sv su (rv.stay hb) (ru.stay hb)
  obtain ⟨k, g, a, ln, c, e, s, aa, an, ac, oa, on, oc, rfl⟩ := rv.seven
  obtain ⟨k', g', a', ln', c', e', s', aa', an', ac', oa', on', oc', rfl⟩ := ru.seven
  exact rcmp_walk k k' g g' a a' ln ln' c c' e e' s s' aa aa' an an' ac ac' oa oa' on on' oc oc' w _ _ _ C1 C2 C3

end Go.Proofs.YtgbgkodjjgjhgaaGreatDoor
