/- Layer 2, sixteenth part: Add. -/
import Derived.Test.YtmdgciolnpkccaaGreatDoorDecO
import Derived.Deep.CutBlock
namespace Go.Proofs.YtmdgciolnpkccaaGreatDoor
open Go.RowKit

theorem TwoD.next {w w' w'' : World} {B : Nat} {x y : D} {N M c1 c2 : Nat} {b1 b2 : Option Addr} (h : TwoD w B w' x y N M b1 c1 b2 c2) (hb : Below w'.heap.size w' w'') : TwoD w B w'' x y N M b1 c1 b2 c2 :=
  ⟨blk_below h.h1 hb, blk_below h.h2 hb, h.l1, h.l2, owns_below h.o1 hb, owns_below h.o2 hb, below_trans h.bel hb⟩

theorem dec_told2 (d : D) (a : Option Addr) (cap base : Nat) (w : World) (h : w.ownsRow base 70 1 (.slice a (Num.limbs d.m).length cap) (Num.limbs d.m).length (u32s (Num.limbs d.m))) (hl : (Num.limbs d.m).length ≤ 10000000) (he : -3000000 ≤ d.e ∧ d.e ≤ 3000000) (htab : Pow w) :
    Calls Tryz.prog 108 #[decV d a cap] w fun en w' => ∃ a' c', en = .returned (.tuple #[.agg #[.bool (tellR d).1.neg, .slice a' (Num.limbs (tellR d).1.m).length c', .int .i64 (tellR d).1.e], .int .i64 (tellR d).2]) ∧ Below w.heap.size w w' ∧
      w'.ownsRow base 70 1 (.slice a' (Num.limbs (tellR d).1.m).length c') (Num.limbs (tellR d).1.m).length (u32s (Num.limbs (tellR d).1.m)) := by
  refine (dec_told d a cap w ⟨u32_limbs h⟩ hl he htab).mono ?_
  rintro e w' ⟨rfl, hb⟩
  by_cases hf : fitsB d = true
  · rw [if_pos hf, tell_yes hf]
    exact ⟨a, cap, rfl, hb, owns_below h hb⟩
  · rw [if_neg hf, tell_no hf]
    exact ⟨none, 0, rfl, hb, World.ownsRow_nil _ _ _ _⟩

/-- What is held of the world while a statement goes on that reads one cell and ends with a store into block R. -/
theorem keepQ {W0 W w1 : World} {N R : Nat} {x : Value} (h : W.cell? ⟨N, 0, none⟩ = some x ∧ W.frozen? ⟨R, 0, none⟩ = false ∧ W.frozen? ⟨R, 1, none⟩ = false ∧ W.frozen? ⟨R, 2, none⟩ = false ∧ Cells3 W R ∧ But R W0 W) (hb : Below W.heap.size W w1) :
    w1.cell? ⟨N, 0, none⟩ = some x ∧ w1.frozen? ⟨R, 0, none⟩ = false ∧ w1.frozen? ⟨R, 1, none⟩ = false ∧ w1.frozen? ⟨R, 2, none⟩ = false ∧ Cells3 w1 R ∧ But R W0 w1 := by
  obtain ⟨h0, _, _, _, h6, h7⟩ := h
  have c6 := h6.below hb
  exact ⟨((bcell hb).1 _ _ (cell_lt h0)).trans h0, c6.frozen 0, c6.frozen 1, c6.frozen 2, c6, h7.step hb⟩
theorem keepQs {W0 W : World} {N R : Nat} {x : Value} (h : W.cell? ⟨N, 0, none⟩ = some x ∧ W.frozen? ⟨R, 0, none⟩ = false ∧ W.frozen? ⟨R, 1, none⟩ = false ∧ W.frozen? ⟨R, 2, none⟩ = false ∧ Cells3 W R ∧ But R W0 W) (p q r : Value) (hN : N ≠ R) (w1 : World) (hw : w1 = ((W.setCell ⟨R, 0, none⟩ p).setCell ⟨R, 1, none⟩ q).setCell ⟨R, 2, none⟩ r) :
    w1.cell? ⟨N, 0, none⟩ = some x ∧ w1.frozen? ⟨R, 0, none⟩ = false ∧ w1.frozen? ⟨R, 1, none⟩ = false ∧ w1.frozen? ⟨R, 2, none⟩ = false ∧ Cells3 w1 R ∧ But R W0 w1 := by
  subst hw
  obtain ⟨h0, _, _, _, h6, h7⟩ := h
  have c6 := h6.set3 p q r
  have hc : (((W.setCell ⟨R, 0, none⟩ p).setCell ⟨R, 1, none⟩ q).setCell ⟨R, 2, none⟩ r).cell? ⟨N, 0, none⟩ = W.cell? ⟨N, 0, none⟩ := by
    refine World.cell?_of_block ?_
    simp only
    rw [Below.heap_setCell _ _ _ _ hN, Below.heap_setCell _ _ _ _ hN, Below.heap_setCell _ _ _ _ hN]
  exact ⟨hc.trans h0, c6.frozen 0, c6.frozen 1, c6.frozen 2, c6, ((h7.setCell _ _).setCell _ _).setCell _ _⟩

theorem digs_lt {m k : Nat} (h : (Num.digs 10 m).length ≤ k) : m < 10 ^ k := (Num.digs_length_le (by decide)).1 h
theorem digs_shift_le {m p K : Nat} (hm : (Num.digs 10 m).length ≤ 400) (hp : 400 + p ≤ K) : (Num.digs 10 (m * 10 ^ p)).length ≤ K := by
  obtain ⟨k, hk⟩ : ∃ k : Nat, k = 400 := ⟨_, rfl⟩
  rw [← hk] at hm hp
  refine Nat.le_trans ((Num.digs_length_le (k := k + p) (by decide)).2 ?_) hp
  rw [Nat.pow_add]
  exact Nat.mul_lt_mul_of_pos_right (digs_lt hm) (pow_pos10 p)
theorem digs_add_le {X Y K : Nat} (hx : (Num.digs 10 X).length ≤ K) (hy : (Num.digs 10 Y).length ≤ K) : (Num.digs 10 (X + Y)).length ≤ K + 1 := by
  refine (Num.digs_length_le (by decide)).2 ?_
  have h1 := digs_lt hx
  have h2 := digs_lt hy
  rw [Nat.pow_succ]; omega

theorem Cells3.other {W : World} {R N : Nat} (h : Cells3 W R) (hN : N ≠ R) (o : Nat) (u : Value) : Cells3 (W.setCell ⟨N, o, none⟩ u) R := by
  obtain ⟨x, y, z, T, h⟩ := h
  exact ⟨x, y, z, T, by rw [Below.heap_setCell _ _ _ _ (by simpa using Ne.symm hN)]; exact h⟩
theorem plain_bds {g : Bool} {P : Nat} {k : Int} (hP : (Num.digs 10 P).length ≤ 1201) (hk : -10400 ≤ k ∧ k ≤ 10001) : (Num.limbs (plainD g P k).m).length ≤ 10000000 ∧ -3000000 ≤ (plainD g P k).e ∧ (plainD g P k).e ≤ 3000000 := by
  have h1 := plain_e g P k (by omega) (by omega)
  have h2 : (Num.limbs P).length ≤ 134 := limbs_pow hP (by decide)
  have h3 : (Num.limbs (plainD g P k).m).length ≤ 134 := Nat.le_trans (Num.digs_length_mono Num.two_le_B9 (plain_m_le _ _ _)) h2
  exact ⟨by omega, by omega, by omega⟩
theorem limbs_1200 {X : Nat} (h : (Num.digs 10 X).length ≤ 1200) : (Num.limbs X).length ≤ 134 := limbs_pow h (by decide)
theorem digs_sub_le {X Y K : Nat} (hx : (Num.digs 10 X).length ≤ K) : (Num.digs 10 (X - Y)).length ≤ K := Nat.le_trans (Num.digs_length_mono (by decide) (Nat.sub_le _ _)) hx

/-- What is known at the head of what follows 'both'. -/
structure AddAt (w wc : World) (x y : D) (N M : Nat) (b1 : Option Addr) (c1 : Nat) (b2 : Option Addr) (c2 : Nat) : Prop where
  two : TwoD w (w.heap.size + 1 + 1 + 1) wc x y N M b1 c1 b2 c2
  res : Cells3 wc (w.heap.size + 1 + 1)
theorem AddAt.next {w w' w'' : World} {x y : D} {N M c1 c2 : Nat} {b1 b2 : Option Addr} (h : AddAt w w' x y N M b1 c1 b2 c2) (hb : Below w'.heap.size w' w'') : AddAt w w'' x y N M b1 c1 b2 c2 := ⟨h.two.next hb, h.res.below hb⟩

set_option maxRecDepth 100000 in
set_option maxHeartbeats 6400000 in
theorem add_walk (g : Bool) (a : Option Addr) (n cap : Nat) (e : Int) (g2 : Bool) (a2 : Option Addr) (n2 cap2 : Nat) (e2 : Int) (w : World) (htab : Pow w) (x y : D) (er : Nat)
    (CB : ∀ W, Below w.heap.size w W → Calls Tryz.prog 105 #[.agg #[.bool g, .slice a n cap, .int .i64 e], .agg #[.bool g2, .slice a2 n2 cap2, .int .i64 e2]] W (OutDD W x y er))
    (hp : er = 0 → IsPlain x ∧ fitsB x = true ∧ IsPlain y ∧ fitsB y = true) :
    Calls Tryz.prog 54 #[.agg #[.bool g, .slice a n cap, .int .i64 e], .agg #[.bool g2, .slice a2 n2 cap2, .int .i64 e2]] w (OutDE w (binR er (addR x y)).1 (binR er (addR x y)).2) := by
  obtain ⟨r, hr⟩ : ∃ r, r = binR er (addR x y) := ⟨_, rfl⟩
  rw [← hr]
  replace hr := hid hr
  replace CB := hid CB
  replace hp := hid hp
  replace htab := hid htab
  go_enter Tryz.func54, Tryz.ntmps54
  go_upto_region 1 with fail
  go_cut [6, 7, 8] from 14 (fun v6 v7 v8 w' => ∃ N M b1 c1 b2 c2, v6 = .pointer (some ⟨N, 0, none⟩) ∧ v7 = .pointer (some ⟨M, 0, none⟩) ∧ v8 = .int .i64 er ∧ AddAt w w' x y N M b1 c1 b2 c2)
  case first =>
    go_wp2_with fail
    refine (CB.out _ ((((Below.refl _ _).alloc (Nat.le_refl _) _).alloc (by simp) _).alloc (by simp; omega) _)).mono ?_
    rintro e1 w1 ⟨b1, c1, b2, c2, rfl, ho1, ho2⟩
    have HB1 := hid (below_alloc (below_alloc (below_alloc ho1.1)))
    have R3 := hid (show Cells3 w1 (w.heap.size + 1 + 1) from Cells3.below ⟨_, _, _, _, by simpa using blk_new2 (w.alloc _) _ _⟩ ho1.1)
    have I1 := hid ho1
    have I2 := hid ho2
    clear ho1 ho2 CB
    unfold decV
    go_wp2_with fail
    go_meet
    case rel =>
      exact ⟨w1.heap.size, w1.heap.size + 1, b1, c1, b2, c2, rfl, rfl, rfl, TwoD.new HB1.out (by simp) I1.out I2.out, R3.out.below (((Below.refl _ _).alloc (Nat.le_refl _) _).alloc (by simp) _)⟩
  case rest =>
    obtain ⟨N, M, b1, c1, b2, c2, rfl, rfl, rfl, AT⟩ := hcut
    have h1 := blk_three AT.two.h1
    have h2 := blk_three AT.two.h2
    have z1 := blk_lt AT.two.h1
    have z2 := blk_lt AT.two.h2
    have l1 := AT.two.l1
    have l2 := AT.two.l2
    have HN := hid (show N ≠ w.heap.size + 1 + 1 by omega)
    have HM := hid (show M ≠ w.heap.size + 1 + 1 by omega)
    obtain ⟨⟨k0, k1, k2⟩, _⟩ := h1
    obtain ⟨⟨q0, q1, q2⟩, _⟩ := h2
    obtain ⟨r0, r1, r2, p0, p1, p2⟩ := AT.res.get
    have f0 := AT.res.frozen 0
    have f1 := AT.res.frozen 1
    have f2 := AT.res.frozen 2
    replace AT := hid AT
    clear CB
    by_cases h0 : er = 0
    · obtain ⟨px, fx, py, fy⟩ := hp.out h0
      have hne : ((er : Int) != 0) = false := by rw [bne_eq_false_iff_eq]; omega
      have hr1 := hid (show r = addR x y by rw [hr.out]; unfold binR; rw [if_pos h0])
      have bx := plain_bounds px fx
      have bY := plain_bounds py fy
      clear h0 hr hp
      have HPX := hid px
      have HPY := hid py
      have HFX := hid fx
      have HFY := hid fy
      have HBX := hid bx
      have HBY := hid bY
      clear px py fx fy bx bY
      by_cases hx0 : x.m = 0
      · have hl0 : ((Num.limbs x.m).length : Int) = 0 := by have := (limbs_zero_iff x.m).2 hx0; omega
        rw [(limbs_zero_iff x.m).2 hx0] at k1
        have HR := hid (show r = (y, 0) by
          rw [hr1.out]; unfold addR
          rw [sumD_zero_left (by have := HBX.out; omega) (by have := HBY.out; omega) HPY.out hx0, tell_yes HFY.out])
        clear hx0 hl0 hr1
        go_wp2
        refine bodyPost_ret (v := .tuple #[decV y b2 c2, .int .i64 0]) (by simp [results, Tryz.results54, go_sem, p0, p1, p2, decV]) rfl ?_
        rw [HR.out]
        refine ⟨b2, c2, rfl, ?_, ?_⟩
        · exact ((AT.out.two.bel.setCell (by simp only; omega) _).setCell (by simp only; omega) _).setCell (by simp only; omega) _
        · exact owns_mono (owns_set3 (R := w.heap.size + 1 + 1) AT.out.two.o2 (by omega) _ _ _) (by omega)
      · have hlx : (((Num.limbs x.m).length : Int) == 0) = false := by rw [beq_eq_false_iff_ne]; have := limbs_zero_iff x.m; omega
        by_cases hy0 : y.m = 0
        · have hl0 : ((Num.limbs y.m).length : Int) = 0 := by have := (limbs_zero_iff y.m).2 hy0; omega
          rw [(limbs_zero_iff y.m).2 hy0] at q1
          have HR := hid (show r = (x, 0) by
            rw [hr1.out]; unfold addR
            rw [sumD_zero_right (by have := HBX.out; omega) (by have := HBY.out; omega) HPX.out hy0, tell_yes HFX.out])
          clear hx0 hy0 hl0 hr1
          go_wp2
          refine bodyPost_ret (v := .tuple #[decV x b1 c1, .int .i64 0]) (by simp [results, Tryz.results54, go_sem, p0, p1, p2, decV]) rfl ?_
          rw [HR.out]
          refine ⟨b1, c1, rfl, ?_, ?_⟩
          · exact ((AT.out.two.bel.setCell (by simp only; omega) _).setCell (by simp only; omega) _).setCell (by simp only; omega) _
          · exact owns_mono (owns_set3 (R := w.heap.size + 1 + 1) AT.out.two.o1 (by omega) _ _ _) (by omega)
        · have hly : (((Num.limbs y.m).length : Int) == 0) = false := by rw [beq_eq_false_iff_ne]; have := limbs_zero_iff y.m; omega
          have hlx4 := limbs_400 HBX.out.1
          have hly4 := limbs_400 HBY.out.1
          have hex := HBX.out.2
          have hey := HBY.out.2
          have hdx : 1 ≤ (Num.digs 10 x.m).length := Num.length_pos (by decide) hx0
          have hdy : 1 ≤ (Num.digs 10 y.m).length := Num.length_pos (by decide) hy0
          have CX := fun W (hb : Below wc.heap.size wc W) => dec_head x.neg b1 c1 x.e (Num.limbs x.m) W (AT.out.two.i1.u.below hb) (by omega) (by omega) (by rw [Num.worth_limbs]; have := HBX.out; omega) (htab.out.next (below_trans AT.out.two.bel hb))
          have CY := fun W (hb : Below wc.heap.size wc W) => dec_head y.neg b2 c2 y.e (Num.limbs y.m) W (AT.out.two.i2.u.below hb) (by omega) (by omega) (by rw [Num.worth_limbs]; have := HBY.out; omega) (htab.out.next (below_trans AT.out.two.bel hb))
          rw [Num.worth_limbs] at CX CY
          obtain ⟨hX, hhX⟩ : ∃ hX, hX = headD x := ⟨_, rfl⟩
          obtain ⟨hY, hhY⟩ : ∃ hY, hY = headD y := ⟨_, rfl⟩
          rw [show x.e + (Num.digs 10 x.m).length - 1 = hX from hhX.symm] at CX
          rw [show y.e + (Num.digs 10 y.m).length - 1 = hY from hhY.symm] at CY
          have hXb : x.e ≤ hX ∧ hX ≤ 30000 := by have := HBX.out; rw [hhX]; unfold headD; omega
          have hYb : y.e ≤ hY ∧ hY ≤ 30000 := by have := HBY.out; rw [hhY]; unfold headD; omega
          have wr1 : IntKind.i64.wrap (max hX hY - min x.e y.e) = max hX hY - min x.e y.e := by rw [IntKind.wrap_i64]; omega
          replace CX := hid CX
          replace CY := hid CY
          have HX0 := hid hx0
          have HY0 := hid hy0
          replace hhX := hid hhX
          replace hhY := hid hhY
          clear hx0 hy0 hdx hdy hlx4 hly4
          obtain ⟨fb, hfb⟩ : ∃ fb, fb = decide (800 < max hX hY - min x.e y.e) := ⟨_, rfl⟩
          replace hfb := hid hfb
          go_upto_region 8 with fail
          go_cut [6, 7, 49] from 38 (fun v6 v7 v49 w' => v6 = .pointer (some ⟨N, 0, none⟩) ∧ v7 = .pointer (some ⟨M, 0, none⟩) ∧ v49 = .bool fb ∧ Below wc.heap.size wc w')
          case first =>
            go_region_held3 (fun w' => w'.cell? ⟨N, 0, none⟩ = some (.bool x.neg) ∧ w'.cell? ⟨N, 1, none⟩ = some (.slice b1 (Num.limbs x.m).length c1) ∧ w'.cell? ⟨N, 2, none⟩ = some (.int .i64 x.e) ∧ w'.cell? ⟨M, 0, none⟩ = some (.bool y.neg) ∧ w'.cell? ⟨M, 1, none⟩ = some (.slice b2 (Num.limbs y.m).length c2) ∧ w'.cell? ⟨M, 2, none⟩ = some (.int .i64 y.e) ∧ Below wc.heap.size wc w') (first | (exact ⟨k0, k1, k2, q0, q1, q2, (Below.refl _ _).drew⟩) | (exact keepT (by assumption) (Nat.le_refl _) (by assumption)) | assumption) ((first | (go_at_call 106; (with_reducible refine (CX.out _ ?_).mono ?_); (simp only [*]); rintro e w' ⟨rfl, hb⟩) | (go_at_call 106; (with_reducible refine (CY.out _ ?_).mono ?_); (simp only [*]); rintro e w' ⟨rfl, hb⟩)))
            all_goals
              rename_i hHeld
              obtain ⟨_, _, _, _, _, _, hH⟩ := hHeld
              go_wp2_with fail
              go_meet
              case rel => exact ⟨rfl, rfl, by rw [hfb.out], hH⟩
          case rest =>
            obtain ⟨rfl, rfl, rfl, hb⟩ := hcut
            replace AT := hid (AT.out.next hb)
            clear hb k0 k1 k2 q0 q1 q2 p0 p1 p2 f0 f1 f2 z1 z2 CX CY wr1 hlx hly hne
            have h1 := blk_three AT.out.two.h1
            have h2 := blk_three AT.out.two.h2
            have z1 := blk_lt AT.out.two.h1
            have z2 := blk_lt AT.out.two.h2
            obtain ⟨⟨k0, k1, k2⟩, fk, _⟩ := h1
            obtain ⟨⟨q0, q1, q2⟩, _⟩ := h2
            obtain ⟨r0, r1, r2, p0, p1, p2⟩ := AT.out.res.get
            have f0 := AT.out.res.frozen 0
            have f1 := AT.out.res.frozen 1
            have f2 := AT.out.res.frozen 2
            cases fb with
            | true =>
              have hfar : 800 < max hX hY - min x.e y.e := of_decide_eq_true hfb.out.symm
              have HR := hid (show r = (zeroD, 3) by
                rw [hr1.out]; unfold addR
                refine tell_no ?_
                rw [far_two HX0.out HY0.out HPX.out.2 HPY.out.2 HBX.out.1 HBY.out.1 (by omega) (by omega) (by rw [← hhX.out, ← hhY.out]; exact hfar)]
                simp)
              clear hfar hr1 hfb
              go_wp2
              refine bodyPost_ret (v := .tuple #[decV zeroD none 0, .int .i64 3]) (by simp [results, Tryz.results54, go_sem, p0, p1, p2, decV, zeroD]; rfl) rfl ?_
              rw [HR.out]
              refine ⟨none, 0, rfl, ?_, ?_⟩
              · exact ((AT.out.two.bel.setCell (by simp only; omega) _).setCell (by simp only; omega) _).setCell (by simp only; omega) _
              · exact World.ownsRow_nil _ _ _ _
            | false =>
              have hfar : ¬ 800 < max hX hY - min x.e y.e := of_decide_eq_false hfb.out.symm
              obtain ⟨k, hk⟩ : ∃ k, k = min x.e y.e := ⟨_, rfl⟩
              obtain ⟨p, hp⟩ : ∃ p, p = (x.e - k).toNat := ⟨_, rfl⟩
              obtain ⟨q, hq⟩ : ∃ q, q = (y.e - k).toNat := ⟨_, rfl⟩
              have hp8 : p ≤ 800 := by omega
              have hq8 : q ≤ 800 := by omega
              obtain ⟨X, hXe⟩ : ∃ X, X = x.m * 10 ^ p := ⟨_, rfl⟩
              obtain ⟨Y, hYe⟩ : ∃ Y, Y = y.m * 10 ^ q := ⟨_, rfl⟩
              have hXd : (Num.digs 10 X).length ≤ 1200 := by rw [hXe]; exact digs_shift_le HBX.out.1 (by omega)
              have hYd : (Num.digs 10 Y).length ≤ 1200 := by rw [hYe]; exact digs_shift_le HBY.out.1 (by omega)
              have hkb : -10400 ≤ k ∧ k ≤ 10001 := by omega
              have hrs : r = tellR (if x.neg = y.neg then plainD x.neg (X + Y) k else if X < Y then plainD y.neg (Y - X) k else plainD x.neg (X - Y) k) := by
                rw [hr1.out, hXe, hYe, hp, hq, hk]; rfl
              have CL := fun W (hb : Below wc.heap.size wc W) => dec_level x y b1 c1 b2 c2 k p q W (AT.out.two.i1.below hb) (AT.out.two.i2.below hb) (by have := limbs_400 HBX.out.1; omega) (by have := limbs_400 HBY.out.1; omega) hk.symm (by omega) (by omega) (by omega) (by omega)
              rw [← hXe, ← hYe] at CL
              unfold decV at CL
              replace CL := hid CL
              replace hrs := hid hrs
              replace hXd := hid hXd
              replace hYd := hid hYd
              have wb := AT.out.two.bel.size
              clear hfar hfb hr1 hk hp hq hp8 hq8 hXe hYe hhX hhY HX0 HY0 HPX HPY HFX HFY hXb hYb
              go_upto_region 10 with fail
              go_cut [6, 7, 9, 10, 11] from 51 (fun v6 v7 v9 v10 v11 w' => ∃ d1 m1 d2 m2 Bq, v6 = .pointer (some ⟨N, 0, none⟩) ∧ v7 = .pointer (some ⟨M, 0, none⟩) ∧ v9 = .slice d1 (Num.limbs X).length m1 ∧ v10 = .slice d2 (Num.limbs Y).length m2 ∧ v11 = .int .i64 k ∧ Below wc.heap.size wc w' ∧
                N < Bq ∧ w.heap.size + 1 + 1 + 1 ≤ Bq ∧ w'.ownsRow Bq 70 1 (.slice d1 (Num.limbs X).length m1) (Num.limbs X).length (u32s (Num.limbs X)) ∧ w'.ownsRow Bq 70 1 (.slice d2 (Num.limbs Y).length m2) (Num.limbs Y).length (u32s (Num.limbs Y)))
              case first =>
                go_wp2_with fail
                refine (CL.out _ (Below.refl _ _)).mono ?_
                rintro e2 w2 ⟨d1, m1, d2, m2, rfl, hb2, ho1, ho2⟩
                have HB2 := hid hb2
                have HO1 := hid ho1
                have HO2 := hid ho2
                clear hb2 ho1 ho2
                go_wp2_with fail
                go_meet
                case rel => exact ⟨d1, m1, d2, m2, wc.heap.size, rfl, rfl, rfl, rfl, rfl, HB2.out, z1, by omega, HO1.out, HO2.out⟩
              case rest =>
                obtain ⟨d1, m1, d2, m2, Bq, rfl, rfl, rfl, rfl, rfl, hb, hNB, hRB, ho1, ho2⟩ := hcut
                replace AT := hid (AT.out.next hb)
                have HO1 := hid ho1
                have HO2 := hid ho2
                clear hb k0 k1 k2 q0 q1 q2 p0 p1 p2 f0 f1 f2 fk z1 z2 CL wb ho1 ho2
                have wb := AT.out.two.bel.size
                have h1 := blk_three AT.out.two.h1
                have h2 := blk_three AT.out.two.h2
                have z1 := blk_lt AT.out.two.h1
                have z2 := blk_lt AT.out.two.h2
                obtain ⟨⟨k0, k1, k2⟩, fk, _⟩ := h1
                obtain ⟨⟨q0, q1, q2⟩, _⟩ := h2
                obtain ⟨r0, r1, r2, p0, p1, p2⟩ := AT.out.res.get
                have f0 := AT.out.res.frozen 0
                have f1 := AT.out.res.frozen 1
                have f2 := AT.out.res.frozen 2
                have R3 := hid AT.out.res
                obtain ⟨wl, rfl⟩ : ∃ wl : World, wl = wc := ⟨_, rfl⟩
                go_upto_block 1 with fail
                go_cut [6, 9, 10, 11] from 58 (fun v6 v9 v10 v11 w' => ∃ gz U V dU mU dV mV, v6 = .pointer (some ⟨N, 0, none⟩) ∧ v9 = .slice dU (Num.limbs U).length mU ∧ v10 = .slice dV (Num.limbs V).length mV ∧ v11 = .int .i64 k ∧ V ≤ U ∧ r = tellR (plainD gz (U - V) k) ∧ (Num.digs 10 U).length ≤ 1200 ∧ w'.cell? ⟨N, 0, none⟩ = some (.bool gz) ∧ Cells3 w' (w.heap.size + 1 + 1) ∧ Below w.heap.size w w' ∧
                  w'.ownsRow Bq 70 1 (.slice dU (Num.limbs U).length mU) (Num.limbs U).length (u32s (Num.limbs U)) ∧ w'.ownsRow Bq 70 1 (.slice dV (Num.limbs V).length mV) (Num.limbs V).length (u32s (Num.limbs V)))
                case first =>
                  have HTB : ∀ W, But (w.heap.size + 1 + 1) wl W → Pow W := fun W hW => htab.out.next (hW.below AT.out.two.bel (by omega) AT.out.two.bel.size)
                  by_cases hs : x.neg = y.neg
                  · have hbe : (x.neg == y.neg) = true := by simpa using hs
                    obtain ⟨gx, hgx⟩ : ∃ gx, gx = x.neg := ⟨_, rfl⟩
                    obtain ⟨P, hP⟩ : ∃ P, P = X + Y := ⟨_, rfl⟩
                    have hPd : (Num.digs 10 P).length ≤ 1201 := by rw [hP]; exact digs_add_le hXd.out hYd.out
                    have hPl : (Num.limbs P).length ≤ 134 := limbs_pow hPd (by decide)
                    obtain ⟨d, hd⟩ : ∃ d, d = plainD gx P k := ⟨_, rfl⟩
                    have hdb := plain_bds (g := gx) (P := P) (k := k) hPd (by omega)
                    rw [← hd] at hdb
                    have hrd : tellR d = r := by rw [hrs.out, if_pos hs, ← hgx, ← hP, ← hd]
                    have CA := fun W (hW : But (w.heap.size + 1 + 1) wl W) => limb_Add d1 d2 m1 m2 (Num.limbs X) (Num.limbs Y) W (u32_limbs (hW.owns HO1.out (by omega))) (u32_limbs (hW.owns HO2.out (by omega))) (by have := limbs_1200 hXd.out; omega) (by have := limbs_1200 hYd.out; omega)
                    simp only [Num.worth_limbs, ← hP] at CA
                    have CP := fun W (am : Option Addr) (cm : Nat) (hu : U32 W am (Num.limbs P)) (hW : But (w.heap.size + 1 + 1) wl W) => dec_plain gx am cm k (Num.limbs P) W hu (by omega) (by rw [Num.worth_limbs]; omega) (by omega) (HTB W hW)
                    simp only [Num.worth_limbs, ← hd] at CP
                    have CT := fun W (ap : Option Addr) (cp base : Nat) (hi : W.ownsRow base 70 1 (.slice ap (Num.limbs d.m).length cp) (Num.limbs d.m).length (u32s (Num.limbs d.m))) (hW : But (w.heap.size + 1 + 1) wl W) => dec_told2 d ap cp base W hi (by omega) (by omega) (HTB W hW)
                    simp only [hrd] at CT
                    rw [← hgx] at k0 hbe
                    replace CA := hid CA
                    replace CP := hid CP
                    replace CT := hid CT
                    clear hs hgx hP hPd hPl hd hdb hrd HTB
                    go_wp2_with fail
                    go_region_held3 (fun w' => w'.cell? ⟨N, 0, none⟩ = some (.bool gx) ∧ w'.frozen? ⟨w.heap.size + 1 + 1, 0, none⟩ = false ∧ w'.frozen? ⟨w.heap.size + 1 + 1, 1, none⟩ = false ∧ w'.frozen? ⟨w.heap.size + 1 + 1, 2, none⟩ = false ∧ Cells3 w' (w.heap.size + 1 + 1) ∧ But (w.heap.size + 1 + 1) wl w') (first | (exact ⟨k0, f0, f1, f2, R3.out, (But.refl _ _).drew⟩) | (exact keepQ (by assumption) (by assumption)) | (exact keepQs (by assumption) _ _ _ HN.out _ rfl)) ((first | (go_at_call 109; (with_reducible refine (CA.out _ ?_).mono ?_); (simp only [*]); rintro e1 w1 ⟨am, cm, rfl, hb1, ho1⟩; have hu1 := u32_limbs ho1) | (go_at_call 61; (with_reducible refine (CP.out _ _ _ (by assumption) ?_).mono ?_); (simp only [*]); rintro e2 w2 ⟨ap, cp, rfl, ho2⟩; have hb2 := ho2.1; have ho2' := ho2.2) | (go_at_call 108; (with_reducible refine (CT.out _ _ _ _ ho2' ?_).mono ?_); (simp only [*]); rintro e3 w3 ⟨at3, ct3, rfl, hb3, ho3⟩; have hc2 : Cells3 w2 (w.heap.size + 1 + 1) := (by simp only [*]); obtain ⟨_, _, _, s0, s1, s2⟩ := (hc2.below hb3).get; have hc3 := hc2.below hb3)))
                    rename_i hHeld
                    obtain ⟨_, _, _, _, _, hB⟩ := hHeld
                    have hz : wl.heap.size ≤ w1.heap.size := hb1.size
                    have hw := AT.out.two.bel.size
                    have HO := hid (owns_mono (owns_set3 (R := w.heap.size + 1 + 1) ho3 (by omega) (.bool r.1.neg) (.slice at3 (Num.limbs r.1.m).length ct3) (.int .i64 r.1.e)) (show w.heap.size ≤ _ by omega))
                    have HB := hid (hB.below AT.out.two.bel (by omega) AT.out.two.bel.size)
                    clear hB hb1 ho1 hb2 ho2 ho2' hb3 ho3 hu1 hc2 hc3 CA CP CT
                    go_wp2_with fail
                    refine bodyPost_ret (v := .tuple #[decV r.1 at3 ct3, .int .i64 r.2]) (by simp [results, Tryz.results54, go_sem, s0, s1, s2, decV]) rfl ?_
                    exact ⟨at3, ct3, rfl, HB.out, HO.out⟩
                  · have hbe : (x.neg == y.neg) = false := by simpa using hs
                    have CC := limb_Cmp d1 d2 m1 m2 (Num.limbs X) (Num.limbs Y) wl (u32_limbs HO1.out) (u32_limbs HO2.out) (by have := limbs_1200 hXd.out; omega) (by have := limbs_1200 hYd.out; omega)
                    simp only [Num.worth_limbs] at CC
                    by_cases hlt : X < Y
                    · rw [cmpN_lt hlt] at CC
                      have HR := hid (show r = tellR (plainD y.neg (Y - X) k) by rw [hrs.out, if_neg hs, if_pos hlt])
                      have HLT := hid hlt
                      replace CC := hid CC
                      clear hs hlt
                      go_wp2_with fail
                      refine (CC.out).mono ?_
                      rintro e3 w3 ⟨rfl, hb3⟩
                      have k0' : w3.cell? ⟨N, 0, none⟩ = some (.bool x.neg) := ((bcell hb3).1 _ _ z1).trans k0
                      have q0' : w3.cell? ⟨M, 0, none⟩ = some (.bool y.neg) := ((bcell hb3).1 _ _ z2).trans q0
                      have fk' : w3.frozen? ⟨N, 0, none⟩ = false := ((bcell hb3).2 _ _ z1).trans fk
                      have HB3 := hid hb3
                      clear hb3 k0 k1 k2 q0 q1 q2 p0 p1 p2 f0 f1 f2 fk CC
                      go_wp2_with fail
                      go_region
                      all_goals
                        go_wp2_with fail
                        go_meet
                        case rel =>
                          have hb3' := HB3.out
                          have hs3 := hb3'.size
                          refine ⟨y.neg, Y, X, d2, m2, d1, m1, rfl, rfl, rfl, rfl, Nat.le_of_lt HLT.out, HR.out, hYd.out, World.cell?_setCell_same' _ _ _ (by rw [k0']; rfl), ?_, ?_, ?_, ?_⟩
                          · exact (R3.out.below hb3').other HN.out _ _
                          · exact ((below_trans AT.out.two.bel hb3').setCell (by simp only; omega) _).drew
                          · exact ownsRow_setCell_below (owns_below HO2.out hb3') (by simp only; omega) _
                          · exact ownsRow_setCell_below (owns_below HO1.out hb3') (by simp only; omega) _
                    · have hc0 : 0 ≤ cmpN X Y := by unfold cmpN; rw [if_neg hlt]; split <;> omega
                      have HR := hid (show r = tellR (plainD x.neg (X - Y) k) by rw [hrs.out, if_neg hs, if_neg hlt])
                      have HLT := hid hlt
                      obtain ⟨c, hc⟩ : ∃ c, c = cmpN X Y := ⟨_, rfl⟩
                      rw [← hc] at CC hc0
                      replace CC := hid CC
                      clear hs hlt hc
                      go_wp2_with fail
                      refine (CC.out).mono ?_
                      rintro e3 w3 ⟨rfl, hb3⟩
                      have k0' : w3.cell? ⟨N, 0, none⟩ = some (.bool x.neg) := ((bcell hb3).1 _ _ z1).trans k0
                      have HB3 := hid hb3
                      clear hb3 k0 k1 k2 q0 q1 q2 p0 p1 p2 f0 f1 f2 fk CC
                      go_wp2_with fail
                      go_meet
                      case rel =>
                        have hb3' := HB3.out
                        exact ⟨x.neg, X, Y, d1, m1, d2, m2, rfl, rfl, rfl, rfl, Nat.le_of_not_lt HLT.out, HR.out, hXd.out, k0', R3.out.below hb3', below_trans AT.out.two.bel hb3', owns_below HO1.out hb3', owns_below HO2.out hb3'⟩
                case rest =>
                  obtain ⟨gz, U, V, dU, mU, dV, mV, rfl, rfl, rfl, rfl, hVU, hrd, hUd, kz, R5, hb5, oU, oV⟩ := hcut
                  have hPd : (Num.digs 10 (U - V)).length ≤ 1201 := Nat.le_trans (digs_sub_le hUd) (by omega)
                  have hPl : (Num.limbs (U - V)).length ≤ 134 := limbs_pow hPd (by decide)
                  have CS := limb_Sub dU dV mU mV (Num.limbs U) (Num.limbs V) wc (u32_limbs oU) (u32_limbs oV) (by have := limbs_1200 hUd; omega) (by have h1 := limbs_1200 hUd; have h2 : (Num.limbs V).length ≤ (Num.limbs U).length := Num.digs_length_mono Num.two_le_B9 hVU; omega) (by rw [Num.worth_limbs, Num.worth_limbs]; exact hVU)
                  simp only [Num.worth_limbs] at CS
                  obtain ⟨P, hP⟩ : ∃ P, P = U - V := ⟨_, rfl⟩
                  rw [← hP] at CS hrd hPd hPl
                  obtain ⟨d, hd⟩ : ∃ d, d = plainD gz P k := ⟨_, rfl⟩
                  have hdb := plain_bds (g := gz) (P := P) (k := k) hPd (by omega)
                  rw [← hd] at hdb hrd
                  have CP := fun W (am : Option Addr) (cm : Nat) (hu : U32 W am (Num.limbs P)) (hb : Below w.heap.size w W) => dec_plain gz am cm k (Num.limbs P) W hu (by omega) (by rw [Num.worth_limbs]; omega) (by omega) (htab.out.next hb)
                  simp only [Num.worth_limbs, ← hd] at CP
                  have CT := fun W (ap : Option Addr) (cp base : Nat) (hi : W.ownsRow base 70 1 (.slice ap (Num.limbs d.m).length cp) (Num.limbs d.m).length (u32s (Num.limbs d.m))) (hb : Below w.heap.size w W) => dec_told2 d ap cp base W hi (by omega) (by omega) (htab.out.next hb)
                  simp only [← hrd] at CT
                  replace CS := hid CS
                  replace CP := hid CP
                  replace CT := hid CT
                  have HB5 := hid hb5
                  have HR5 := hid R5
                  have w5 := hb5.size
                  clear hP hPd hPl hd hdb hrd hUd hVU oU oV hb5 R5 p0 p1 p2 f0 f1 f2 fk k0 k1 k2 q0 q1 q2
                  go_wp2_with fail
                  refine (CS.out).mono ?_
                  rintro e6 w6 ⟨as6, cs6, rfl, hb6, ho6⟩
                  have HU6 := hid (u32_limbs ho6)
                  have kz6 : w6.cell? ⟨N, 0, none⟩ = some (.bool gz) := ((bcell hb6).1 _ _ (cell_lt kz)).trans kz
                  have HB6 := hid (below_trans HB5.out hb6)
                  have HR6 := hid (HR5.out.below hb6)
                  clear hb6 ho6 CS kz HB5 HR5
                  go_wp2_with fail
                  refine (CP.out _ _ _ HU6.out HB6.out).mono ?_
                  rintro e7 w7 ⟨ap7, cp7, rfl, ho7⟩
                  have HO7 := hid ho7.2
                  have HB7 := hid (below_trans HB6.out ho7.1)
                  have HR7 := hid (HR6.out.below ho7.1)
                  have hz6 := HB6.out.size
                  have hz7 : w.heap.size + 1 + 1 < w6.heap.size := by obtain ⟨_, _, _, _, hh⟩ := HR6.out; exact blk_lt hh
                  clear ho7 HU6 kz6 CP HR6
                  go_wp2_with fail
                  refine (CT.out _ _ _ _ HO7.out HB7.out).mono ?_
                  rintro e8 w8 ⟨at8, ct8, rfl, hb8, ho8⟩
                  have HB8 := hid (below_trans HB7.out hb8)
                  have HR8 := hid (HR7.out.below hb8)
                  have HO8 := hid ho8
                  clear hb8 ho8 HO7 HB7 HR7 CT
                  obtain ⟨_, _, _, s0, s1, s2⟩ := HR8.out.get
                  have g0 := HR8.out.frozen 0
                  have g1 := HR8.out.frozen 1
                  have g2 := HR8.out.frozen 2
                  go_wp2
                  refine bodyPost_ret (v := .tuple #[decV r.1 at8 ct8, .int .i64 r.2]) (by simp [results, Tryz.results54, go_sem, s0, s1, s2, decV]) rfl ?_
                  refine ⟨at8, ct8, rfl, ?_, ?_⟩
                  · exact ((HB8.out.setCell (by simp only; omega) _).setCell (by simp only; omega) _).setCell (by simp only; omega) _
                  · exact owns_mono (owns_set3 (R := w.heap.size + 1 + 1) HO8.out hz7 _ _ _) hz6
    · have hne : ((er : Int) != 0) = true := by rw [bne_iff_ne]; omega
      have HR := hid (show r = (zeroD, er) by rw [hr.out]; unfold binR; rw [if_neg h0])
      clear h0 hp hr
      go_wp2
      refine bodyPost_ret (v := .tuple #[decV zeroD none 0, .int .i64 er]) (by simp [results, Tryz.results54, go_sem, p0, p1, p2, decV, zeroD]; rfl) rfl ?_
      rw [HR.out]
      refine ⟨none, 0, rfl, ?_, ?_⟩
      · exact ((AT.out.two.bel.setCell (by simp only; omega) _).setCell (by simp only; omega) _).setCell (by simp only; omega) _
      · exact World.ownsRow_nil _ _ _ _

theorem dec_Add (g : Bool) (a : Option Addr) (cap : Nat) (e : Int) (xs : List Nat) (g2 : Bool) (a2 : Option Addr) (cap2 : Nat) (e2 : Int) (ys : List Nat) (w : World) (h : U32 w a xs) (h2 : U32 w a2 ys) (htab : Pow w) :
    Calls Tryz.prog 54 #[.agg #[.bool g, .slice a xs.length cap, .int .i64 e], .agg #[.bool g2, .slice a2 ys.length cap2, .int .i64 e2]] w
      (OutDE w (binR (bothE (takenE g xs.length (Num.worth xs) e) (takenE g2 ys.length (Num.worth ys) e2)) (addR (takenD g xs.length (Num.worth xs) e) (takenD g2 ys.length (Num.worth ys) e2))).1
        (binR (bothE (takenE g xs.length (Num.worth xs) e) (takenE g2 ys.length (Num.worth ys) e2)) (addR (takenD g xs.length (Num.worth xs) e) (takenD g2 ys.length (Num.worth ys) e2))).2) := by
  refine add_walk g a xs.length cap e g2 a2 ys.length cap2 e2 w htab _ _ _ (fun W hb => dec_both g a cap e xs g2 a2 cap2 e2 ys W (h.below hb) (h2.below hb) (htab.next hb)) ?_
  intro h0
  obtain ⟨z1, z2⟩ := bothE_zero h0
  have q1 := taken_facts z1
  have q2 := taken_facts z2
  exact ⟨q1.1, q1.2, q2.1, q2.2⟩

end Go.Proofs.YtmdgciolnpkccaaGreatDoor
