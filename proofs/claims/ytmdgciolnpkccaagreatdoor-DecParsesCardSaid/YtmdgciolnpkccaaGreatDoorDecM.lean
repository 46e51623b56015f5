/- Layer 2, thirteenth part: level, size. -/
import Derived.Test.YtmdgciolnpkccaaGreatDoorDecL
namespace Go.Proofs.YtmdgciolnpkccaaGreatDoor
open Go.RowKit

/-- Two lists and a power, in memory of the call's own. -/
def OutLL (w : World) (x y : Nat) (k : Int) (e : Ending) (w' : World) : Prop :=
  ∃ a1 c1 a2 c2, e = .returned (.tuple #[.slice a1 (Num.limbs x).length c1, .slice a2 (Num.limbs y).length c2, .int .i64 k]) ∧ Below w.heap.size w w' ∧
    w'.ownsRow w.heap.size 70 1 (.slice a1 (Num.limbs x).length c1) (Num.limbs x).length (u32s (Num.limbs x)) ∧
    w'.ownsRow w.heap.size 70 1 (.slice a2 (Num.limbs y).length c2) (Num.limbs y).length (u32s (Num.limbs y))

set_option maxRecDepth 100000 in
set_option maxHeartbeats 800000 in
theorem dec_level (x y : D) (a : Option Addr) (cap : Nat) (a2 : Option Addr) (cap2 : Nat) (k : Int) (p q : Nat) (w : World) (h : InD w x a cap) (h2 : InD w y a2 cap2)
    (hl : (Num.limbs x.m).length ≤ 1000000) (hl2 : (Num.limbs y.m).length ≤ 1000000) (hk : min x.e y.e = k) (hp : x.e = k + p) (hq : y.e = k + q) (hp3 : p ≤ 30000) (hq3 : q ≤ 30000) :
    Calls Tryz.prog 107 #[decV x a cap, decV y a2 cap2] w (OutLL w (x.m * 10 ^ p) (y.m * 10 ^ q) k) := by
  have C1 := fun W (hb : Below w.heap.size w W) => limb_Shift a cap p (Num.limbs x.m) W (h.u.below hb) (by omega) hp3
  have C2 := fun W (hb : Below w.heap.size w W) => limb_Shift a2 cap2 q (Num.limbs y.m) W (h2.u.below hb) (by omega) hq3
  rw [Num.worth_limbs] at C1 C2
  obtain ⟨g, m, ex⟩ := x
  obtain ⟨g2, m2, ey⟩ := y
  simp only at hk hp hq C1 C2 hl hl2 ⊢
  obtain ⟨L, hL⟩ : ∃ L, L = (Num.limbs m).length := ⟨_, rfl⟩
  obtain ⟨L2, hL2⟩ : ∃ L, L = (Num.limbs m2).length := ⟨_, rfl⟩
  unfold decV
  simp only [← hL, ← hL2]
  rw [← hL] at C1
  rw [← hL2] at C2
  obtain ⟨X, hX⟩ : ∃ X, X = m * 10 ^ p := ⟨_, rfl⟩
  obtain ⟨Y, hY⟩ : ∃ Y, Y = m2 * 10 ^ q := ⟨_, rfl⟩
  rw [← hX] at C1 ⊢
  rw [← hY] at C2 ⊢
  have hw1 : IntKind.i64.wrap (ex - k) = (p : Int) := by rw [IntKind.wrap_i64]; omega
  have hw2 : IntKind.i64.wrap (ey - k) = (q : Int) := by rw [IntKind.wrap_i64]; omega
  have C1 := hid C1
  have C2 := hid C2
  clear h h2 hL hL2 hX hY hp hq hl hl2
  go_enter Tryz.func107, Tryz.ntmps107
  go_wp2_with fail
  refine (C1.out _ (((Below.refl _ _).alloc (Nat.le_refl _) _).alloc (by simp) _)).mono ?_
  rintro e1 w1 ⟨b1, c1, rfl, hb1, ho1⟩
  have HB1 := hid (below_alloc (below_alloc hb1))
  have HO1 := hid (owns_mono ho1 (show w.heap.size ≤ _ by simp; omega))
  have hk1 := blk_three (blk_below (blk_new2 w _ _) hb1)
  obtain ⟨⟨k0, k1, k2⟩, _⟩ := hk1
  clear hb1 ho1 C1
  go_wp2_with fail
  refine (C2.out _ HB1.out).mono ?_
  rintro e2 w2 ⟨b2, c2, rfl, hb2, ho2⟩
  have HB2 := hid (below_trans HB1.out hb2)
  have HO2 := hid (owns_below HO1.out hb2)
  have HP2 := hid (owns_mono ho2 HB1.out.size)
  clear hb2 ho2 HB1 HO1 k0 k1 k2 C2
  go_wp2
  refine bodyPost_ret (v := .tuple #[.slice b1 (Num.limbs X).length c1, .slice b2 (Num.limbs Y).length c2, .int .i64 k]) (by simp [results, Tryz.results107, go_sem]) rfl ?_
  exact ⟨b1, c1, b2, c2, rfl, HB2.out, HO2.out, HP2.out⟩

theorem keep6 {w W' w1 : World} {N : Nat} {x y z u v t : Value} (h : W'.cell? ⟨N, 0, none⟩ = some x ∧ W'.cell? ⟨N, 1, none⟩ = some y ∧ W'.cell? ⟨N, 2, none⟩ = some z ∧ W'.cell? ⟨N + 1, 0, none⟩ = some u ∧ W'.cell? ⟨N + 1, 1, none⟩ = some v ∧ W'.cell? ⟨N + 1, 2, none⟩ = some t ∧ Below w.heap.size w W') (hb : Below W'.heap.size W' w1) :
    w1.cell? ⟨N, 0, none⟩ = some x ∧ w1.cell? ⟨N, 1, none⟩ = some y ∧ w1.cell? ⟨N, 2, none⟩ = some z ∧ w1.cell? ⟨N + 1, 0, none⟩ = some u ∧ w1.cell? ⟨N + 1, 1, none⟩ = some v ∧ w1.cell? ⟨N + 1, 2, none⟩ = some t ∧ Below w.heap.size w w1 := by
  obtain ⟨h0, h1, h2, h3, h4, h5, h6⟩ := h
  have B := (bcell hb).1
  exact ⟨(B _ _ (cell_lt h0)).trans h0, (B _ _ (cell_lt h1)).trans h1, (B _ _ (cell_lt h2)).trans h2, (B _ _ (cell_lt h3)).trans h3, (B _ _ (cell_lt h4)).trans h4, (B _ _ (cell_lt h5)).trans h5, below_trans h6 hb⟩

theorem limbs_shift_le (m p : Nat) (hm : (Num.digs 10 m).length ≤ 400) (hp : p ≤ 30000) : (Num.limbs (m * 10 ^ p)).length ≤ 3400 := by
  refine limbs_pow (K := 400 + 30000) ((Num.digs_length_le (by decide)).2 ?_) (by decide)
  obtain ⟨k, hk⟩ : ∃ k : Nat, k = 400 := ⟨_, rfl⟩
  obtain ⟨q, hq⟩ : ∃ q : Nat, q = 30000 := ⟨_, rfl⟩
  rw [← hk] at hm ⊢
  rw [← hq] at hp ⊢
  have h1 : m < 10 ^ k := (Num.digs_length_le (by decide)).1 hm
  rw [Nat.pow_add]
  exact Nat.lt_of_le_of_lt (Nat.mul_le_mul_left _ (Nat.pow_le_pow_right (by decide) hp)) (Nat.mul_lt_mul_of_pos_right h1 (Nat.pow_pos (by decide)))
/-- A number's head. -/
def headD (d : D) : Int := d.e + (Num.digs 10 d.m).length - 1
/-- Two sizes held against each other. -/
def sizeC (x y : D) : Int :=
  if headD x ≠ headD y then (if headD x < headD y then -1 else 1)
  else cmpN (x.m * 10 ^ (x.e - min x.e y.e).toNat) (y.m * 10 ^ (y.e - min x.e y.e).toNat)

set_option maxRecDepth 100000 in
set_option maxHeartbeats 1600000 in
theorem dec_size (x y : D) (a : Option Addr) (cap : Nat) (a2 : Option Addr) (cap2 : Nat) (w : World) (h : InD w x a cap) (h2 : InD w y a2 cap2) (hx : (Num.digs 10 x.m).length ≤ 400) (hy : (Num.digs 10 y.m).length ≤ 400)
    (hxe : -20000 ≤ x.e ∧ x.e ≤ 20000) (hye : -20000 ≤ y.e ∧ y.e ≤ 20000) (htab : Pow w) :
    Calls Tryz.prog 114 #[decV x a cap, decV y a2 cap2] w fun en w' => en = .returned (.int .i64 (sizeC x y)) ∧ Below w.heap.size w w' := by
  have hlx : (Num.limbs x.m).length ≤ 45 := limbs_pow hx (by decide)
  have hly : (Num.limbs y.m).length ≤ 45 := limbs_pow hy (by decide)
  have CX := fun W (hb : Below w.heap.size w W) => dec_head x.neg a cap x.e (Num.limbs x.m) W (h.u.below hb) (by omega) (by omega) (by rw [Num.worth_limbs]; omega) (htab.next hb)
  have CY := fun W (hb : Below w.heap.size w W) => dec_head y.neg a2 cap2 y.e (Num.limbs y.m) W (h2.u.below hb) (by omega) (by omega) (by rw [Num.worth_limbs]; omega) (htab.next hb)
  rw [Num.worth_limbs] at CX CY
  obtain ⟨p, hp⟩ : ∃ p, p = (x.e - min x.e y.e).toNat := ⟨_, rfl⟩
  obtain ⟨q, hq⟩ : ∃ q, q = (y.e - min x.e y.e).toNat := ⟨_, rfl⟩
  obtain ⟨k, hk⟩ : ∃ k, k = min x.e y.e := ⟨_, rfl⟩
  have CL := fun W (hb : Below w.heap.size w W) (hd : p ≤ 30000 ∧ q ≤ 30000) => dec_level x y a cap a2 cap2 k p q W (h.below hb) (h2.below hb) (by omega) (by omega) hk.symm (by omega) (by omega) hd.1 hd.2
  have CC := fun W b1 d1 b2 d2 (u1 : U32 W b1 (Num.limbs (x.m * 10 ^ p))) (u2 : U32 W b2 (Num.limbs (y.m * 10 ^ q))) (hl1 : (Num.limbs (x.m * 10 ^ p)).length ≤ 100000000) (hl2 : (Num.limbs (y.m * 10 ^ q)).length ≤ 100000000) => limb_Cmp b1 b2 d1 d2 _ _ W u1 u2 hl1 hl2
  simp only [Num.worth_limbs] at CC
  obtain ⟨hX, hhX⟩ : ∃ hX, hX = headD x := ⟨_, rfl⟩
  obtain ⟨hY, hhY⟩ : ∃ hY, hY = headD y := ⟨_, rfl⟩
  have hXb : -30000 ≤ hX ∧ hX ≤ 30000 := by rw [hhX]; unfold headD; omega
  have hYb : -30000 ≤ hY ∧ hY ≤ 30000 := by rw [hhY]; unfold headD; omega
  rw [show x.e + (Num.digs 10 x.m).length - 1 = hX from hhX.symm] at CX
  rw [show y.e + (Num.digs 10 y.m).length - 1 = hY from hhY.symm] at CY
  have hr : sizeC x y = if hX ≠ hY then (if hX < hY then -1 else 1) else cmpN (x.m * 10 ^ p) (y.m * 10 ^ q) := by unfold sizeC; rw [← hp, ← hq, ← hhX, ← hhY]
  rw [hr]
  have hpq : hX = hY → (p ≤ 30000 ∧ q ≤ 30000) ∧ (Num.limbs (x.m * 10 ^ p)).length ≤ 100000000 ∧ (Num.limbs (y.m * 10 ^ q)).length ≤ 100000000 := fun e => by
    have h1 : p ≤ 30000 ∧ q ≤ 30000 := by rw [hhX, hhY] at e; unfold headD at e; omega
    have h2 := limbs_shift_le x.m p hx h1.1
    have h3 := limbs_shift_le y.m q hy h1.2
    exact ⟨h1, by omega, by omega⟩
  obtain ⟨g, m, ex⟩ := x
  obtain ⟨g2, m2, ey⟩ := y
  simp only at CX CY CL CC
  obtain ⟨L, hL⟩ : ∃ L, L = (Num.limbs m).length := ⟨_, rfl⟩
  obtain ⟨L2, hL2⟩ : ∃ L, L = (Num.limbs m2).length := ⟨_, rfl⟩
  unfold decV at CL ⊢
  simp only at CL ⊢
  simp only [← hL, ← hL2] at CL ⊢
  rw [← hL] at CX
  rw [← hL2] at CY
  replace CX := hid CX
  replace CY := hid CY
  replace CL := hid CL
  replace CC := hid CC
  have HPQ := hid hpq
  clear h h2 hx hy hxe hye htab hlx hly hp hq hk hhX hhY hr hpq hL hL2
  by_cases he : hX = hY
  · rw [if_neg (by simpa using he)]
    obtain ⟨hpq, hs1, hs2⟩ := HPQ.out he
    have HL1 := hid hs1
    have HL2 := hid hs2
    clear hs1 hs2
    subst he
    have hne : (hX != hX) = false := by simp
    have HQ := hid hpq
    clear hpq HPQ
    go_enter Tryz.func114, Tryz.ntmps114
    go_wp2_with fail
    go_region_held3 (fun w' => w'.cell? ⟨w.heap.size, 0, none⟩ = some (.bool g) ∧ w'.cell? ⟨w.heap.size, 1, none⟩ = some (.slice a L cap) ∧ w'.cell? ⟨w.heap.size, 2, none⟩ = some (.int .i64 ex) ∧ w'.cell? ⟨w.heap.size + 1, 0, none⟩ = some (.bool g2) ∧ w'.cell? ⟨w.heap.size + 1, 1, none⟩ = some (.slice a2 L2 cap2) ∧ w'.cell? ⟨w.heap.size + 1, 2, none⟩ = some (.int .i64 ey) ∧ Below w.heap.size w w') (first | (exact ⟨by simp, by simp, by simp, by simp, by simp, by simp, (((Below.refl _ _).alloc (Nat.le_refl _) _).alloc (by simp) _).drew⟩) | (exact keep6 (by assumption) (by assumption))) ((first | (go_at_call 106; (with_reducible refine (CX.out _ ?_).mono ?_); (simp only [*]); rintro e w' ⟨rfl, hb⟩) | (go_at_call 106; (with_reducible refine (CY.out _ ?_).mono ?_); (simp only [*]); rintro e w' ⟨rfl, hb⟩)))
    all_goals
      rename_i hHeld
      obtain ⟨k0, k1, k2, q0, q1, q2, hH⟩ := hHeld
      have HB := hid hH
      clear hH
      go_wp2_with fail
      refine (CL.out _ HB.out HQ.out).mono ?_
      rintro e2 w2 ⟨b1, d1, b2, d2, rfl, hb2, ho1, ho2⟩
      have HB2 := hid (below_trans HB.out hb2)
      have U1 := hid (u32_limbs ho1)
      have U2 := hid (u32_limbs ho2)
      clear hb2 ho1 ho2 k0 k1 k2 q0 q1 q2 CX CY CL
      go_wp2_with fail
      refine (CC.out _ _ _ _ _ U1.out U2.out HL1.out HL2.out).mono ?_
      rintro e3 w3 ⟨rfl, hb3⟩
      have HB3 := hid (below_trans HB2.out hb3)
      clear hb3
      go_wp2
      go_ret
      exact ⟨rfl, HB3.out⟩
  · rw [if_pos he]
    have hne : (hX != hY) = true := by simpa using he
    by_cases hlt : hX < hY
    all_goals
      first | rw [if_pos hlt] | rw [if_neg hlt]
      have hlt' : decide (hX < hY) = decide (hX < hY) := rfl
      clear he hlt'
      go_enter Tryz.func114, Tryz.ntmps114
      go_wp2_with fail
      go_region_held3 (fun w' => w'.cell? ⟨w.heap.size, 0, none⟩ = some (.bool g) ∧ w'.cell? ⟨w.heap.size, 1, none⟩ = some (.slice a L cap) ∧ w'.cell? ⟨w.heap.size, 2, none⟩ = some (.int .i64 ex) ∧ w'.cell? ⟨w.heap.size + 1, 0, none⟩ = some (.bool g2) ∧ w'.cell? ⟨w.heap.size + 1, 1, none⟩ = some (.slice a2 L2 cap2) ∧ w'.cell? ⟨w.heap.size + 1, 2, none⟩ = some (.int .i64 ey) ∧ Below w.heap.size w w') (first | (exact ⟨by simp, by simp, by simp, by simp, by simp, by simp, (((Below.refl _ _).alloc (Nat.le_refl _) _).alloc (by simp) _).drew⟩) | (exact keep6 (by assumption) (by assumption))) ((first | (go_at_call 106; (with_reducible refine (CX.out _ ?_).mono ?_); (simp only [*]); rintro e w' ⟨rfl, hb⟩) | (go_at_call 106; (with_reducible refine (CY.out _ ?_).mono ?_); (simp only [*]); rintro e w' ⟨rfl, hb⟩)))
      all_goals
        rename_i hHeld
        obtain ⟨_, _, _, _, _, _, hH⟩ := hHeld
        have HB := hid hH
        clear hH
        go_wp2
        go_ret
        exact ⟨rfl, HB.out⟩

end Go.Proofs.YtmdgciolnpkccaaGreatDoor
