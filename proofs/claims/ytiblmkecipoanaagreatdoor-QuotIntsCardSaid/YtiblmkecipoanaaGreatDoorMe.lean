/- Layer 2, thirteenth part: level, size. What is written is read again: plain laws. Layer 2, fourteenth part: Cmp. Plain laws of sums, products and the order of numbers. Nothing is walked here. Layer 2, fifteenth part: Mul. Layer 2, sixteenth part: Add. Layer 1, twelfth part: DivMod. Plain laws of numbers that a call took: the order, sums and products in rings. Nothing is walked here. -/
import Derived.Test.YtiblmkecipoanaaGreatDoorMd
import Derived.Test.YtiblmkecipoanaaGreatDoorMc
import Derived.Test.YtiblmkecipoanaaGreatDoorMb
import Derived.Deep.CutBlock
import Derived.Deep.RegionLaw
namespace Go.Proofs.YtiblmkecipoanaaGreatDoor
open Go.RowKit

/-- Two lists and a power, in memory of the call's own. -/
def OutLL (w : World) (x y : Nat) (k : Int) (e : Ending) (w' : World) : Prop :=
  ∃ a1 c1 a2 c2, e = .returned (.tuple #[.slice a1 (Num.limbs x).length c1, .slice a2 (Num.limbs y).length c2, .int .i64 k]) ∧ Below w.heap.size w w' ∧
    w'.ownsRow w.heap.size 42 1 (.slice a1 (Num.limbs x).length c1) (Num.limbs x).length (u32s (Num.limbs x)) ∧
    w'.ownsRow w.heap.size 42 1 (.slice a2 (Num.limbs y).length c2) (Num.limbs y).length (u32s (Num.limbs y))

set_option maxRecDepth 100000 in
set_option maxHeartbeats 800000 in
theorem dec_level (x y : D) (a : Option Addr) (cap : Nat) (a2 : Option Addr) (cap2 : Nat) (k : Int) (p q : Nat) (w : World) (h : InD w x a cap) (h2 : InD w y a2 cap2)
    (hl : (Num.limbs x.m).length ≤ 1000000) (hl2 : (Num.limbs y.m).length ≤ 1000000) (hk : min x.e y.e = k) (hp : x.e = k + p) (hq : y.e = k + q) (hp3 : p ≤ 30000) (hq3 : q ≤ 30000) :
    Calls Tryz.prog 60 #[decV x a cap, decV y a2 cap2] w (OutLL w (x.m * 10 ^ p) (y.m * 10 ^ q) k) := by
  have C1 := fun W (hb : Below w.heap.size w W) => limb_Shift a cap p (Num.limbs x.m) W (h.u.below hb) (by omega) hp3
  have C2 := fun W (hb : Below w.heap.size w W) => limb_Shift a2 cap2 q (Num.limbs y.m) W (h2.u.below hb) (by omega) hq3
  rw [Num.worth_limbs] at C1 C2
  obtain ⟨g, m, ex⟩ := x
  obtain ⟨g2, m2, ey⟩ := y
  simp only at hk hp hq C1 C2 hl hl2 ⊢
  obtain ⟨L, hL⟩ : ∃ L, L = (Num.limbs m).length := ⟨_, rfl⟩
  obtain ⟨L2, hL2⟩ : ∃ L, L = (Num.limbs m2).length := ⟨_, rfl⟩
  unfold decV
  simp only [← hL, ← hL2]
  rw [← hL] at C1
  rw [← hL2] at C2
  obtain ⟨X, hX⟩ : ∃ X, X = m * 10 ^ p := ⟨_, rfl⟩
  obtain ⟨Y, hY⟩ : ∃ Y, Y = m2 * 10 ^ q := ⟨_, rfl⟩
  rw [← hX] at C1 ⊢
  rw [← hY] at C2 ⊢
  have hw1 : IntKind.i64.wrap (ex - k) = (p : Int) := by rw [IntKind.wrap_i64]; omega
  have hw2 : IntKind.i64.wrap (ey - k) = (q : Int) := by rw [IntKind.wrap_i64]; omega
  have C1 := hid C1
  have C2 := hid C2
  clear h h2 hL hL2 hX hY hp hq hl hl2
  go_enter Tryz.func60, Tryz.ntmps60
  go_wp2_with fail
  refine (C1.out _ (((Below.refl _ _).alloc (Nat.le_refl _) _).alloc (by simp) _)).mono ?_
  rintro e1 w1 ⟨b1, c1, rfl, hb1, ho1⟩
  have HB1 := hid (below_alloc (below_alloc hb1))
  have HO1 := hid (owns_mono ho1 (show w.heap.size ≤ _ by simp; omega))
  have hk1 := blk_three (blk_below (blk_new2 w _ _) hb1)
  obtain ⟨⟨k0, k1, k2⟩, _⟩ := hk1
  clear hb1 ho1 C1
  go_wp2_with fail
  refine (C2.out _ HB1.out).mono ?_
  rintro e2 w2 ⟨b2, c2, rfl, hb2, ho2⟩
  have HB2 := hid (below_trans HB1.out hb2)
  have HO2 := hid (owns_below HO1.out hb2)
  have HP2 := hid (owns_mono ho2 HB1.out.size)
  clear hb2 ho2 HB1 HO1 k0 k1 k2 C2
  go_wp2
  refine bodyPost_ret (v := .tuple #[.slice b1 (Num.limbs X).length c1, .slice b2 (Num.limbs Y).length c2, .int .i64 k]) (by simp [results, Tryz.results60, go_sem]) rfl ?_
  exact ⟨b1, c1, b2, c2, rfl, HB2.out, HO2.out, HP2.out⟩

theorem keep6 {w W' w1 : World} {N : Nat} {x y z u v t : Value} (h : W'.cell? ⟨N, 0, none⟩ = some x ∧ W'.cell? ⟨N, 1, none⟩ = some y ∧ W'.cell? ⟨N, 2, none⟩ = some z ∧ W'.cell? ⟨N + 1, 0, none⟩ = some u ∧ W'.cell? ⟨N + 1, 1, none⟩ = some v ∧ W'.cell? ⟨N + 1, 2, none⟩ = some t ∧ Below w.heap.size w W') (hb : Below W'.heap.size W' w1) :
    w1.cell? ⟨N, 0, none⟩ = some x ∧ w1.cell? ⟨N, 1, none⟩ = some y ∧ w1.cell? ⟨N, 2, none⟩ = some z ∧ w1.cell? ⟨N + 1, 0, none⟩ = some u ∧ w1.cell? ⟨N + 1, 1, none⟩ = some v ∧ w1.cell? ⟨N + 1, 2, none⟩ = some t ∧ Below w.heap.size w w1 := by
  obtain ⟨h0, h1, h2, h3, h4, h5, h6⟩ := h
  have B := (bcell hb).1
  exact ⟨(B _ _ (cell_lt h0)).trans h0, (B _ _ (cell_lt h1)).trans h1, (B _ _ (cell_lt h2)).trans h2, (B _ _ (cell_lt h3)).trans h3, (B _ _ (cell_lt h4)).trans h4, (B _ _ (cell_lt h5)).trans h5, below_trans h6 hb⟩

theorem limbs_shift_le (m p : Nat) (hm : (Num.digs 10 m).length ≤ 400) (hp : p ≤ 30000) : (Num.limbs (m * 10 ^ p)).length ≤ 3400 := by
  refine limbs_pow (K := 400 + 30000) ((Num.digs_length_le (by decide)).2 ?_) (by decide)
  obtain ⟨k, hk⟩ : ∃ k : Nat, k = 400 := ⟨_, rfl⟩
  obtain ⟨q, hq⟩ : ∃ q : Nat, q = 30000 := ⟨_, rfl⟩
  rw [← hk] at hm ⊢
  rw [← hq] at hp ⊢
  have h1 : m < 10 ^ k := (Num.digs_length_le (by decide)).1 hm
  rw [Nat.pow_add]
  exact Nat.lt_of_le_of_lt (Nat.mul_le_mul_left _ (Nat.pow_le_pow_right (by decide) hp)) (Nat.mul_lt_mul_of_pos_right h1 (Nat.pow_pos (by decide)))
/-- A number's head. -/
def headD (d : D) : Int := d.e + (Num.digs 10 d.m).length - 1
/-- Two sizes held against each other. -/
def sizeC (x y : D) : Int :=
  if headD x ≠ headD y then (if headD x < headD y then -1 else 1)
  else cmpN (x.m * 10 ^ (x.e - min x.e y.e).toNat) (y.m * 10 ^ (y.e - min x.e y.e).toNat)

set_option maxRecDepth 100000 in
set_option maxHeartbeats 1600000 in
theorem dec_size (x y : D) (a : Option Addr) (cap : Nat) (a2 : Option Addr) (cap2 : Nat) (w : World) (h : InD w x a cap) (h2 : InD w y a2 cap2) (hx : (Num.digs 10 x.m).length ≤ 400) (hy : (Num.digs 10 y.m).length ≤ 400)
    (hxe : -20000 ≤ x.e ∧ x.e ≤ 20000) (hye : -20000 ≤ y.e ∧ y.e ≤ 20000) (htab : Pow w) :
    Calls Tryz.prog 68 #[decV x a cap, decV y a2 cap2] w fun en w' => en = .returned (.int .i64 (sizeC x y)) ∧ Below w.heap.size w w' := by
  have hlx : (Num.limbs x.m).length ≤ 45 := limbs_pow hx (by decide)
  have hly : (Num.limbs y.m).length ≤ 45 := limbs_pow hy (by decide)
  have CX := fun W (hb : Below w.heap.size w W) => dec_head x.neg a cap x.e (Num.limbs x.m) W (h.u.below hb) (by omega) (by omega) (by rw [Num.worth_limbs]; omega) (htab.next hb)
  have CY := fun W (hb : Below w.heap.size w W) => dec_head y.neg a2 cap2 y.e (Num.limbs y.m) W (h2.u.below hb) (by omega) (by omega) (by rw [Num.worth_limbs]; omega) (htab.next hb)
  rw [Num.worth_limbs] at CX CY
  obtain ⟨p, hp⟩ : ∃ p, p = (x.e - min x.e y.e).toNat := ⟨_, rfl⟩
  obtain ⟨q, hq⟩ : ∃ q, q = (y.e - min x.e y.e).toNat := ⟨_, rfl⟩
  obtain ⟨k, hk⟩ : ∃ k, k = min x.e y.e := ⟨_, rfl⟩
  have CL := fun W (hb : Below w.heap.size w W) (hd : p ≤ 30000 ∧ q ≤ 30000) => dec_level x y a cap a2 cap2 k p q W (h.below hb) (h2.below hb) (by omega) (by omega) hk.symm (by omega) (by omega) hd.1 hd.2
  have CC := fun W b1 d1 b2 d2 (u1 : U32 W b1 (Num.limbs (x.m * 10 ^ p))) (u2 : U32 W b2 (Num.limbs (y.m * 10 ^ q))) (hl1 : (Num.limbs (x.m * 10 ^ p)).length ≤ 100000000) (hl2 : (Num.limbs (y.m * 10 ^ q)).length ≤ 100000000) => limb_Cmp b1 b2 d1 d2 _ _ W u1 u2 hl1 hl2
  simp only [Num.worth_limbs] at CC
  obtain ⟨hX, hhX⟩ : ∃ hX, hX = headD x := ⟨_, rfl⟩
  obtain ⟨hY, hhY⟩ : ∃ hY, hY = headD y := ⟨_, rfl⟩
  have hXb : -30000 ≤ hX ∧ hX ≤ 30000 := by rw [hhX]; unfold headD; omega
  have hYb : -30000 ≤ hY ∧ hY ≤ 30000 := by rw [hhY]; unfold headD; omega
  rw [show x.e + (Num.digs 10 x.m).length - 1 = hX from hhX.symm] at CX
  rw [show y.e + (Num.digs 10 y.m).length - 1 = hY from hhY.symm] at CY
  have hr : sizeC x y = if hX ≠ hY then (if hX < hY then -1 else 1) else cmpN (x.m * 10 ^ p) (y.m * 10 ^ q) := by unfold sizeC; rw [← hp, ← hq, ← hhX, ← hhY]
  rw [hr]
  have hpq : hX = hY → (p ≤ 30000 ∧ q ≤ 30000) ∧ (Num.limbs (x.m * 10 ^ p)).length ≤ 100000000 ∧ (Num.limbs (y.m * 10 ^ q)).length ≤ 100000000 := fun e => by
    have h1 : p ≤ 30000 ∧ q ≤ 30000 := by rw [hhX, hhY] at e; unfold headD at e; omega
    have h2 := limbs_shift_le x.m p hx h1.1
    have h3 := limbs_shift_le y.m q hy h1.2
    exact ⟨h1, by omega, by omega⟩
  obtain ⟨g, m, ex⟩ := x
  obtain ⟨g2, m2, ey⟩ := y
  simp only at CX CY CL CC
  obtain ⟨L, hL⟩ : ∃ L, L = (Num.limbs m).length := ⟨_, rfl⟩
  obtain ⟨L2, hL2⟩ : ∃ L, L = (Num.limbs m2).length := ⟨_, rfl⟩
  unfold decV at CL ⊢
  simp only at CL ⊢
  simp only [← hL, ← hL2] at CL ⊢
  rw [← hL] at CX
  rw [← hL2] at CY
  replace CX := hid CX
  replace CY := hid CY
  replace CL := hid CL
  replace CC := hid CC
  have HPQ := hid hpq
  clear h h2 hx hy hxe hye htab hlx hly hp hq hk hhX hhY hr hpq hL hL2
  by_cases he : hX = hY
  · rw [if_neg (by simpa using he)]
    obtain ⟨hpq, hs1, hs2⟩ := HPQ.out he
    have HL1 := hid hs1
    have HL2 := hid hs2
    clear hs1 hs2
    subst he
    have hne : (hX != hX) = false := by simp
    have HQ := hid hpq
    clear hpq HPQ
    go_enter Tryz.func68, Tryz.ntmps68
    go_wp2_with fail
    go_region_held3 (fun w' => w'.cell? ⟨w.heap.size, 0, none⟩ = some (.bool g) ∧ w'.cell? ⟨w.heap.size, 1, none⟩ = some (.slice a L cap) ∧ w'.cell? ⟨w.heap.size, 2, none⟩ = some (.int .i64 ex) ∧ w'.cell? ⟨w.heap.size + 1, 0, none⟩ = some (.bool g2) ∧ w'.cell? ⟨w.heap.size + 1, 1, none⟩ = some (.slice a2 L2 cap2) ∧ w'.cell? ⟨w.heap.size + 1, 2, none⟩ = some (.int .i64 ey) ∧ Below w.heap.size w w') (first | (exact ⟨by simp, by simp, by simp, by simp, by simp, by simp, (((Below.refl _ _).alloc (Nat.le_refl _) _).alloc (by simp) _).drew⟩) | (exact keep6 (by assumption) (by assumption))) ((first | (go_at_call 59; (with_reducible refine (CX.out _ ?_).mono ?_); (simp only [*]); rintro e w' ⟨rfl, hb⟩) | (go_at_call 59; (with_reducible refine (CY.out _ ?_).mono ?_); (simp only [*]); rintro e w' ⟨rfl, hb⟩)))
    all_goals
      rename_i hHeld
      obtain ⟨k0, k1, k2, q0, q1, q2, hH⟩ := hHeld
      have HB := hid hH
      clear hH
      go_wp2_with fail
      refine (CL.out _ HB.out HQ.out).mono ?_
      rintro e2 w2 ⟨b1, d1, b2, d2, rfl, hb2, ho1, ho2⟩
      have HB2 := hid (below_trans HB.out hb2)
      have U1 := hid (u32_limbs ho1)
      have U2 := hid (u32_limbs ho2)
      clear hb2 ho1 ho2 k0 k1 k2 q0 q1 q2 CX CY CL
      go_wp2_with fail
      refine (CC.out _ _ _ _ _ U1.out U2.out HL1.out HL2.out).mono ?_
      rintro e3 w3 ⟨rfl, hb3⟩
      have HB3 := hid (below_trans HB2.out hb3)
      clear hb3
      go_wp2
      go_ret
      exact ⟨rfl, HB3.out⟩
  · rw [if_pos he]
    have hne : (hX != hY) = true := by simpa using he
    by_cases hlt : hX < hY
    all_goals
      first | rw [if_pos hlt] | rw [if_neg hlt]
      have hlt' : decide (hX < hY) = decide (hX < hY) := rfl
      clear he hlt'
      go_enter Tryz.func68, Tryz.ntmps68
      go_wp2_with fail
      go_region_held3 (fun w' => w'.cell? ⟨w.heap.size, 0, none⟩ = some (.bool g) ∧ w'.cell? ⟨w.heap.size, 1, none⟩ = some (.slice a L cap) ∧ w'.cell? ⟨w.heap.size, 2, none⟩ = some (.int .i64 ex) ∧ w'.cell? ⟨w.heap.size + 1, 0, none⟩ = some (.bool g2) ∧ w'.cell? ⟨w.heap.size + 1, 1, none⟩ = some (.slice a2 L2 cap2) ∧ w'.cell? ⟨w.heap.size + 1, 2, none⟩ = some (.int .i64 ey) ∧ Below w.heap.size w w') (first | (exact ⟨by simp, by simp, by simp, by simp, by simp, by simp, (((Below.refl _ _).alloc (Nat.le_refl _) _).alloc (by simp) _).drew⟩) | (exact keep6 (by assumption) (by assumption))) ((first | (go_at_call 59; (with_reducible refine (CX.out _ ?_).mono ?_); (simp only [*]); rintro e w' ⟨rfl, hb⟩) | (go_at_call 59; (with_reducible refine (CY.out _ ?_).mono ?_); (simp only [*]); rintro e w' ⟨rfl, hb⟩)))
      all_goals
        rename_i hHeld
        obtain ⟨_, _, _, _, _, _, hH⟩ := hHeld
        have HB := hid hH
        clear hH
        go_wp2
        go_ret
        exact ⟨rfl, HB.out⟩

end Go.Proofs.YtiblmkecipoanaaGreatDoor

namespace Go.Proofs.YtiblmkecipoanaaGreatDoor
open Go.RowKit

theorem tz_zero : tz 0 = 0 := rfl
theorem tz_mod {m : Nat} (h : m % 10 ≠ 0) : tz m = 0 := by
  have hm : m ≠ 0 := fun e => h (by rw [e])
  unfold tz
  rw [Num.digs_pos (by decide) hm, List.takeWhile_cons]
  simp [h]
theorem tz_ten {m : Nat} (hm : m ≠ 0) : tz (10 * m) = 1 + tz m := by
  unfold tz
  rw [Num.digs_pos (by decide) (show 10 * m ≠ 0 by omega), List.takeWhile_cons, Nat.mul_mod_right, Nat.mul_div_cancel_left m (by decide)]
  simp; omega
theorem tz_pow {m : Nat} (hm : m ≠ 0) (k : Nat) : tz (m * 10 ^ k) = k + tz m := by
  induction k with
  | zero => simp
  | succ k ih =>
    have h0 : m * 10 ^ k ≠ 0 := Nat.mul_ne_zero hm (Nat.ne_of_gt (Nat.pow_pos (by decide)))
    rw [Nat.pow_succ, ← Nat.mul_assoc, Nat.mul_comm, tz_ten h0, ih]; omega
theorem tz_split {m : Nat} (hm : m ≠ 0) : m / 10 ^ tz m * 10 ^ tz m = m ∧ tz (m / 10 ^ tz m) = 0 ∧ m / 10 ^ tz m ≠ 0 := by
  induction m using Num.digs_ind (b := 10) (by decide) with
  | h0 => exact absurd rfl hm
  | h1 m hm' ih =>
    by_cases h : m % 10 = 0
    · obtain ⟨q, hq⟩ : ∃ q, q = m / 10 := ⟨_, rfl⟩
      have hmq : m = 10 * q := by omega
      have hq0 : q ≠ 0 := by omega
      rw [← hq] at ih
      obtain ⟨i1, i2, i3⟩ := ih hq0
      have e : m / 10 ^ tz m = q / 10 ^ tz q := by
        rw [hmq, tz_ten hq0, Nat.pow_add, Nat.pow_one, Nat.mul_div_mul_left _ _ (by decide)]
      rw [e]
      refine ⟨?_, i2, i3⟩
      rw [hmq, tz_ten hq0, Nat.pow_add, Nat.pow_one, Nat.mul_comm 10 (10 ^ _), ← Nat.mul_assoc, i1, Nat.mul_comm]
    · rw [tz_mod h]; simp [tz_mod h, hm]

/-- A number is plain. -/
def IsPlain (d : D) : Prop := (d.m = 0 → d = zeroD) ∧ tz d.m = 0
theorem plain_zero : IsPlain zeroD := ⟨fun _ => rfl, rfl⟩
theorem plainD_zero (g : Bool) (e : Int) : plainD g 0 e = zeroD := by unfold plainD; rw [if_pos rfl]; rfl
theorem plainD_plain (g : Bool) (m : Nat) (e : Int) : IsPlain (plainD g m e) := by
  by_cases h : m = 0
  · subst h; rw [plainD_zero]; exact plain_zero
  · have := tz_split h
    unfold plainD
    rw [if_neg h]
    exact ⟨fun e => absurd e this.2.2, this.2.1⟩
theorem plainD_mul {d : D} (h : IsPlain d) (k : Nat) : plainD d.neg (d.m * 10 ^ k) (d.e - k) = d := by
  by_cases h0 : d.m = 0
  · rw [h0, Nat.zero_mul, plainD_zero, h.1 h0]
  · have hp : 10 ^ k ≠ 0 := Nat.ne_of_gt (Nat.pow_pos (by decide))
    unfold plainD
    rw [if_neg (Nat.mul_ne_zero h0 hp), tz_pow h0, h.2]
    cases d
    simp only [Nat.add_zero, D.mk.injEq, true_and]
    exact ⟨Nat.mul_div_cancel _ (Nat.pos_of_ne_zero hp), by omega⟩
theorem plainD_self {d : D} (h : IsPlain d) : plainD d.neg d.m d.e = d := by simpa using plainD_mul h 0

/-- What was taken is taken as it is. -/
theorem plain_bounds {d : D} (h : IsPlain d) (hf : fitsB d = true) : (Num.digs 10 d.m).length ≤ 400 ∧ -10400 ≤ d.e ∧ d.e ≤ 10001 := by
  by_cases h0 : d.m = 0
  · rw [h.1 h0]; exact ⟨by decide, by decide, by decide⟩
  · obtain ⟨h1, h2, h3⟩ := fits_iff hf h0
    omega
theorem limbs_400 {m : Nat} (h : (Num.digs 10 m).length ≤ 400) : (Num.limbs m).length ≤ 45 := limbs_pow h (by decide)
theorem taken_self {d : D} (h : IsPlain d) (hf : fitsB d = true) : takenE d.neg (Num.limbs d.m).length (Num.worth (Num.limbs d.m)) d.e = 0 ∧ takenD d.neg (Num.limbs d.m).length (Num.worth (Num.limbs d.m)) d.e = d := by
  obtain ⟨b1, b2, b3⟩ := plain_bounds h hf
  have b4 := limbs_400 b1
  have hn : nearB (Num.limbs d.m).length d.e = true := nearB_iff.2 ⟨by omega, by omega, by omega⟩
  unfold takenE takenD
  rw [if_pos hn, if_pos hn, Num.worth_limbs, plainD_self h, if_pos hf, if_pos hf]
  exact ⟨rfl, rfl⟩
theorem may_self {d : D} (h : IsPlain d) (hf : fitsB d = true) : mayB d.neg (Num.limbs d.m) d.e = true := by
  obtain ⟨h1, h2⟩ := taken_self h hf
  unfold mayB
  rw [h1, h2]
  simp
theorem taken_facts {g : Bool} {n m : Nat} {e : Int} (h : takenE g n m e = 0) : IsPlain (takenD g n m e) ∧ fitsB (takenD g n m e) = true := by
  obtain ⟨_, h2, h3⟩ := taken_zero h
  rw [h2]
  exact ⟨plainD_plain _ _ _, h3⟩
theorem parse_facts {l : List UInt8} (h : (parseR l).2 = 0) : IsPlain (parseR l).1 ∧ fitsB (parseR l).1 = true := by
  unfold parseR at h ⊢
  split at h
  · cases h
  · split at h
    · cases h
    · rename_i h1
      rw [if_neg h1]
      split at h
      · rename_i h2
        rw [if_pos h2]
        exact ⟨plainD_plain _ _ _, h2⟩
      · cases h
theorem parse_zero {l : List UInt8} (h : (parseR l).2 ≠ 0) : (parseR l).1 = zeroD := by
  unfold parseR at h ⊢
  split at h
  · rfl
  · split at h
    · rename_i h1; rw [if_pos h1]
    · rename_i h1
      rw [if_neg h1]
      split at h
      · exact absurd rfl h
      · rename_i h2; rw [if_neg h2]

/- The text. -/
theorem isD_chr {d : Nat} (h : d < 10) : isD (Num.chr d) = true := by
  have : d = 0 ∨ d = 1 ∨ d = 2 ∨ d = 3 ∨ d = 4 ∨ d = 5 ∨ d = 6 ∨ d = 7 ∨ d = 8 ∨ d = 9 := by omega
  rcases this with rfl | rfl | rfl | rfl | rfl | rfl | rfl | rfl | rfl | rfl <;> rfl
theorem chr_val {d : Nat} (h : d < 10) : (UInt8.ofNat (48 + d)).toNat - 48 = d := by
  have : d = 0 ∨ d = 1 ∨ d = 2 ∨ d = 3 ∨ d = 4 ∨ d = 5 ∨ d = 6 ∨ d = 7 ∨ d = 8 ∨ d = 9 := by omega
  rcases this with rfl | rfl | rfl | rfl | rfl | rfl | rfl | rfl | rfl | rfl <;> rfl
theorem dec_digs_all (m : Nat) : Digs (Lib.decDigits m) := by
  induction m using Nat.strongRecOn with
  | ind m ih =>
    rw [Lib.decDigits]
    split
    · intro c hc; rw [List.mem_singleton] at hc; subst hc; exact isD_iff.1 (isD_chr (by omega))
    · intro c hc
      rcases List.mem_append.1 hc with h | h
      · exact ih (m / 10) (by omega) c h
      · rw [List.mem_singleton] at h; subst h; exact isD_iff.1 (isD_chr (Nat.mod_lt _ (by decide)))
theorem num10_dec (m : Nat) : num10 (Lib.decDigits m) 0 = m := by
  induction m using Nat.strongRecOn with
  | ind m ih =>
    rw [Lib.decDigits]
    split
    · simp only [num10]; rw [chr_val (by omega)]; omega
    · rw [num10_append, ih (m / 10) (by omega)]
      simp only [num10]
      rw [chr_val (Nat.mod_lt _ (by decide))]; omega
theorem num10_zeros (k n : Nat) : num10 (List.replicate k 48) n = n * 10 ^ k := by
  induction k generalizing n with
  | zero => simp [num10]
  | succ k ih =>
    rw [List.replicate_succ]; simp only [num10]
    rw [ih, Nat.pow_succ, show (48 : UInt8).toNat - 48 = 0 by rfl, Nat.add_zero, Nat.mul_comm 10 n, Nat.mul_assoc, Nat.mul_comm 10 (10 ^ k)]
theorem decD_head {m : Nat} (hm : m ≠ 0) : ∃ c r, Lib.decDigits m = c :: r ∧ c ≠ 48 := by
  obtain ⟨zs, y, e, hy⟩ := Num.digs_last (b := 10) (by decide) m hm
  refine ⟨Num.chr y, (zs.map Num.chr).reverse, by rw [Num.decDigits_digs m hm, e]; simp, ?_⟩
  have hlt : y < 10 := Num.digs_lt (b := 10) (by decide) m y (by rw [e]; simp)
  intro h
  have := Go.Proofs.YtiblmkecipoanaaGreatDoor.chr_zero hlt
  rw [h] at this
  simp at this
  exact hy this

/-- What does not open with a digit. -/
def NoD (l : List UInt8) : Prop := ∀ c r, l = c :: r → isD c = false
theorem take_join (a b : List UInt8) (ha : Digs a) (hb : NoD b) : (a ++ b).takeWhile isD = a ∧ (a ++ b).dropWhile isD = b := by
  induction a with
  | nil =>
    cases b with
    | nil => exact ⟨rfl, rfl⟩
    | cons c r => simp [hb c r rfl]
  | cons c a ih =>
    have h0 := isD_iff.2 (ha c (by simp))
    obtain ⟨i1, i2⟩ := ih (fun d hd => ha d (by simp [hd]))
    simp [h0, i1, i2]
theorem noD_nil : NoD [] := fun _ _ h => by cases h
theorem noD_cons {c : UInt8} {r : List UInt8} (h : isD c = false) : NoD (c :: r) := fun d s e => by cases e; exact h

theorem scan_join (g : Bool) (wh be tl : List UInt8) (hw : Digs wh) (h0 : wh ≠ []) (h1 : ¬ (1 < wh.length ∧ wh.head? = some 48)) (hb : Digs be) (ht : NoD tl) (ht2 : Lib.hasPrefix tl [46] = false) :
    scanL ((if g = true then [45] else []) ++ (wh ++ ((if be = [] then [] else 46 :: be) ++ tl))) = (tailL tl).map fun x => (g, wh, be, x) := by
  obtain ⟨c, r, hcr⟩ : ∃ c r, wh = c :: r := by cases wh with | nil => exact absurd rfl h0 | cons c r => exact ⟨c, r, rfl⟩
  have hc45 : c ≠ 45 := fun e => by
    have := hw c (by rw [hcr]; simp)
    rw [e] at this; exact absurd this.1 (by decide)
  obtain ⟨X, hX⟩ : ∃ X, X = (if be = [] then [] else 46 :: be) ++ tl := ⟨_, rfl⟩
  have hXn : NoD X := by
    rw [hX]
    by_cases h : be = []
    · rw [if_pos h]; exact ht
    · rw [if_neg h]; exact noD_cons (by decide)
  have e1 : Lib.hasPrefix ((if g = true then [45] else []) ++ (wh ++ X)) [45] = g := by
    unfold Lib.hasPrefix
    cases g
    · rw [hcr]; simp [List.isPrefixOf]; exact fun h => hc45 h.symm
    · simp [List.isPrefixOf]
  have e2 : Lib.trimPrefix ((if g = true then [45] else []) ++ (wh ++ X)) [45] = wh ++ X := by
    unfold Lib.trimPrefix
    rw [e1]
    cases g <;> simp
  obtain ⟨e3, e4⟩ := take_join wh X hw hXn
  unfold scanL
  rw [← hX]
  simp only [e1, e2, e3, e4]
  rw [if_neg (fun h => h.elim h0 h1), hX]
  by_cases h : be = []
  · subst h
    simp only [if_true, List.nil_append]
    rw [if_neg (by simp [ht2])]
  · rw [if_neg h]
    have e5 : Lib.hasPrefix (46 :: be ++ tl) [46] = true := by simp [Lib.hasPrefix, List.isPrefixOf]
    have e6 : Lib.trimPrefix (46 :: be ++ tl) [46] = be ++ tl := by unfold Lib.trimPrefix; rw [if_pos e5]; rfl
    obtain ⟨e7, e8⟩ := take_join be tl hb ht
    rw [if_pos e5, e6, e7, e8, if_neg h]

end Go.Proofs.YtiblmkecipoanaaGreatDoor

namespace Go.Proofs.YtiblmkecipoanaaGreatDoor
open Go.RowKit

/-- Two numbers held against each other. -/
def cmpR (x y : D) : Int := if signD x < signD y then -1 else if signD y < signD x then 1 else if signD x = 0 then 0 else signD x * sizeC x y

/-- But for block R the world w' is, as far as w goes, as w was. -/
structure But (R : Nat) (w w' : World) : Prop where
  os : w'.os = w.os
  tape : w'.tape = w.tape
  output : w'.output = w.output
  size : w.heap.size ≤ w'.heap.size
  block : ∀ k, k < w.heap.size → k ≠ R → w'.heap[k]? = w.heap[k]?
theorem But.refl (R : Nat) (w : World) : But R w w := ⟨rfl, rfl, rfl, Nat.le_refl _, fun _ _ _ => rfl⟩
theorem But.drew {R : Nat} {w w' : World} (h : But R w w') : But R w w'.drew := ⟨h.os, h.tape, h.output, h.size, h.block⟩
theorem But.step {R : Nat} {w w1 w2 : World} (h : But R w w1) (hb : Below w1.heap.size w1 w2) : But R w w2 :=
  ⟨hb.os.trans h.os, hb.tape.trans h.tape, hb.output.trans h.output, Nat.le_trans h.size hb.size, fun k hk hr => (hb.block k (Nat.lt_of_lt_of_le hk h.size)).trans (h.block k hk hr)⟩
theorem But.setCell {R : Nat} {w w1 : World} (h : But R w w1) (o : Nat) (u : Value) : But R w (w1.setCell ⟨R, o, none⟩ u) :=
  ⟨h.os, h.tape, h.output, by simpa [World.setCell] using h.size, fun k hk hr => (Below.heap_setCell _ _ _ _ hr).trans (h.block k hk hr)⟩
theorem But.below {R B : Nat} {a w w' : World} (h : But R w w') (hb : Below B a w) (h1 : B ≤ R) (h2 : B ≤ w.heap.size) : Below B a w' :=
  hb.trans ⟨h.os, h.tape, h.output, h.size, fun k hk => h.block k (by omega) (by omega)⟩
theorem But.owns {R : Nat} {w w' : World} {base : Nat} {e : TypeId} {size : Nat} {v : Value} {n : Nat} {xs : List Value} (hb : But R w w') (h : w.ownsRow base e size v n xs) (hR : R < base) : w'.ownsRow base e size v n xs := by
  refine ⟨h.1, ?_⟩
  rcases h.2 with h | ⟨g, cap, cur, h1, h2, h3, h4⟩
  · exact .inl h
  · exact .inr ⟨g, cap, cur, h1, h2, by rw [hb.block g (Array.getElem?_eq_some_iff.1 h3).1 (by omega)]; exact h3, h4⟩

/-- Two numbers that were taken, in blocks of their own, from block B on. -/
structure TwoD (w : World) (B : Nat) (w' : World) (x y : D) (N M : Nat) (b1 : Option Addr) (c1 : Nat) (b2 : Option Addr) (c2 : Nat) : Prop where
  h1 : w'.heap[N]? = some (.cells #[.bool x.neg, .slice b1 (Num.limbs x.m).length c1, .int .i64 x.e] 24)
  h2 : w'.heap[M]? = some (.cells #[.bool y.neg, .slice b2 (Num.limbs y.m).length c2, .int .i64 y.e] 24)
  l1 : B ≤ N
  l2 : B ≤ M
  o1 : w'.ownsRow B 42 1 (.slice b1 (Num.limbs x.m).length c1) (Num.limbs x.m).length (u32s (Num.limbs x.m))
  o2 : w'.ownsRow B 42 1 (.slice b2 (Num.limbs y.m).length c2) (Num.limbs y.m).length (u32s (Num.limbs y.m))
  bel : Below w.heap.size w w'
theorem TwoD.i1 {w w' : World} {B : Nat} {x y : D} {N M c1 c2 : Nat} {b1 b2 : Option Addr} (h : TwoD w B w' x y N M b1 c1 b2 c2) : InD w' x b1 c1 := ⟨u32_limbs h.o1⟩
theorem TwoD.i2 {w w' : World} {B : Nat} {x y : D} {N M c1 c2 : Nat} {b1 b2 : Option Addr} (h : TwoD w B w' x y N M b1 c1 b2 c2) : InD w' y b2 c2 := ⟨u32_limbs h.o2⟩
theorem keepT {B : Nat} {w W' w1 : World} {N M : Nat} {x y z u v t : Value} (h : W'.cell? ⟨N, 0, none⟩ = some x ∧ W'.cell? ⟨N, 1, none⟩ = some y ∧ W'.cell? ⟨N, 2, none⟩ = some z ∧ W'.cell? ⟨M, 0, none⟩ = some u ∧ W'.cell? ⟨M, 1, none⟩ = some v ∧ W'.cell? ⟨M, 2, none⟩ = some t ∧ Below B w W') (hB : B ≤ w.heap.size) (hb : Below W'.heap.size W' w1) :
    w1.cell? ⟨N, 0, none⟩ = some x ∧ w1.cell? ⟨N, 1, none⟩ = some y ∧ w1.cell? ⟨N, 2, none⟩ = some z ∧ w1.cell? ⟨M, 0, none⟩ = some u ∧ w1.cell? ⟨M, 1, none⟩ = some v ∧ w1.cell? ⟨M, 2, none⟩ = some t ∧ Below B w w1 := by
  obtain ⟨h0, h1, h2, h3, h4, h5, h6⟩ := h
  have B' := (bcell hb).1
  exact ⟨(B' _ _ (cell_lt h0)).trans h0, (B' _ _ (cell_lt h1)).trans h1, (B' _ _ (cell_lt h2)).trans h2, (B' _ _ (cell_lt h3)).trans h3, (B' _ _ (cell_lt h4)).trans h4, (B' _ _ (cell_lt h5)).trans h5, h6.trans (hb.mono (Nat.le_trans hB h6.size))⟩

theorem TwoD.new {w w0 w1 : World} {x y : D} {b1 b2 : Option Addr} {c1 c2 B : Nat} (hb : Below w.heap.size w w1) (hB : B ≤ w0.heap.size) (o1 : OwnD w0 w1 x b1 c1) (o2 : OwnD w0 w1 y b2 c2) :
    TwoD w B ((w1.alloc (.cells #[.bool x.neg, .slice b1 (Num.limbs x.m).length c1, .int .i64 x.e] 24)).alloc (.cells #[.bool y.neg, .slice b2 (Num.limbs y.m).length c2, .int .i64 y.e] 24)) x y w1.heap.size (w1.heap.size + 1) b1 c1 b2 c2 := by
  have k1 := (Below.refl w1.heap.size w1).alloc (Nat.le_refl _) (.cells #[.bool x.neg, .slice b1 (Num.limbs x.m).length c1, .int .i64 x.e] 24)
  have k2 := k1.alloc (by simp) (.cells #[.bool y.neg, .slice b2 (Num.limbs y.m).length c2, .int .i64 y.e] 24)
  have hs := o1.1.size
  exact ⟨blk_alloc (blk_new w1 _) _, blk_new2 w1 _ _, by omega, by omega, owns_mono (owns_below o1.2 k2) hB, owns_mono (owns_below o2.2 k2) hB, below_trans hb k2⟩

theorem cmpN_bd (x y : Nat) : -1 ≤ cmpN x y ∧ cmpN x y ≤ 1 := by unfold cmpN; split <;> (try split) <;> omega
theorem sizeC_bd (x y : D) : -1 ≤ sizeC x y ∧ sizeC x y ≤ 1 := by
  unfold sizeC; split
  · split <;> omega
  · exact cmpN_bd _ _
theorem signD_cases (x : D) : signD x = 0 ∨ signD x = 1 ∨ signD x = -1 := by unfold signD; split <;> (try split) <;> simp
theorem bothE_zero {x y : Nat} (h : bothE x y = 0) : x = 0 ∧ y = 0 := by unfold bothE at h; split at h <;> (try split at h) <;> omega

set_option maxRecDepth 100000 in
set_option maxHeartbeats 3200000 in
theorem cmp_walk (g : Bool) (a : Option Addr) (n cap : Nat) (e : Int) (g2 : Bool) (a2 : Option Addr) (n2 cap2 : Nat) (e2 : Int) (w : World) (htab : Pow w) (x y : D) (er : Nat)
    (CB : ∀ W, Below w.heap.size w W → Calls Tryz.prog 58 #[.agg #[.bool g, .slice a n cap, .int .i64 e], .agg #[.bool g2, .slice a2 n2 cap2, .int .i64 e2]] W (OutDD W x y er))
    (hp : er = 0 → IsPlain x ∧ fitsB x = true ∧ IsPlain y ∧ fitsB y = true) :
    Calls Tryz.prog 31 #[.agg #[.bool g, .slice a n cap, .int .i64 e], .agg #[.bool g2, .slice a2 n2 cap2, .int .i64 e2]] w fun en w' =>
      en = .returned (.tuple #[.int .i64 (if er = 0 then cmpR x y else 0), .int .i64 er]) ∧ Below w.heap.size w w' := by
  obtain ⟨V, hV⟩ : ∃ V, V = (if er = 0 then cmpR x y else 0) := ⟨_, rfl⟩
  rw [← hV]
  replace hV := hid hV
  replace CB := hid CB
  replace hp := hid hp
  replace htab := hid htab
  go_enter Tryz.func31, Tryz.ntmps31
  go_upto_region 1 with fail
  go_cut [6, 7, 8] from 11 (fun v6 v7 v8 w' => ∃ N M b1 c1 b2 c2, v6 = .pointer (some ⟨N, 0, none⟩) ∧ v7 = .pointer (some ⟨M, 0, none⟩) ∧ v8 = .int .i64 er ∧ TwoD w w.heap.size w' x y N M b1 c1 b2 c2)
  case first =>
    go_wp2_with fail
    refine (CB.out _ (((Below.refl _ _).alloc (Nat.le_refl _) _).alloc (by simp) _)).mono ?_
    rintro e1 w1 ⟨b1, c1, b2, c2, rfl, ho1, ho2⟩
    have HB1 := hid (below_alloc (below_alloc ho1.1))
    have I1 := hid ho1
    have I2 := hid ho2
    clear ho1 ho2 CB
    unfold decV
    go_wp2_with fail
    go_meet
    case rel =>
      refine ⟨w1.heap.size, w1.heap.size + 1, b1, c1, b2, c2, rfl, rfl, rfl, ?_⟩
      exact TwoD.new HB1.out (by simp; omega) I1.out I2.out
  case rest =>
    obtain ⟨N, M, b1, c1, b2, c2, rfl, rfl, rfl, two⟩ := hcut
    have h1 := blk_three two.h1
    have h2 := blk_three two.h2
    have z1 := blk_lt two.h1
    have z2 := blk_lt two.h2
    obtain ⟨⟨k0, k1, k2⟩, _⟩ := h1
    obtain ⟨⟨q0, q1, q2⟩, _⟩ := h2
    have TW := hid two
    clear CB two
    by_cases h0 : er = 0
    · obtain ⟨px, fx, py, fy⟩ := hp.out h0
      have bx := plain_bounds px fx
      have bY := plain_bounds py fy
      have CX := fun W => dec_sign x b1 c1 W
      have CY := fun W => dec_sign y b2 c2 W
      have CZ := fun W (h1 : InD W x b1 c1) (h2 : InD W y b2 c2) (h3 : Pow W) => dec_size x y b1 c1 b2 c2 W h1 h2 bx.1 bY.1 (by omega) (by omega) h3
      have hsb := sizeC_bd x y
      obtain ⟨z, hz⟩ : ∃ z, z = sizeC x y := ⟨_, rfl⟩
      have hr : V = if signD x < signD y then -1 else if signD y < signD x then 1 else if signD x = 0 then 0 else signD x * z := by rw [hV.out, if_pos h0, hz]; rfl
      rw [← hz] at CZ hsb
      have hs1 := signD_cases x
      have hs2 := signD_cases y
      obtain ⟨s, hs⟩ : ∃ s, s = signD x := ⟨_, rfl⟩
      obtain ⟨t, ht⟩ : ∃ t, t = signD y := ⟨_, rfl⟩
      rw [← hs] at CX hs1 hr
      rw [← ht] at CY hs2 hr
      unfold decV at CX CY CZ
      replace CX := hid CX
      replace CY := hid CY
      replace CZ := hid CZ
      subst h0
      have HV := hid hr
      clear hp px fx py fy bx bY hz hr hs ht hV
      go_upto_region 4 with fail
      go_cut [6, 7, 9, 10] from 11 (fun v6 v7 v9 v10 w' => v6 = .pointer (some ⟨N, 0, none⟩) ∧ v7 = .pointer (some ⟨M, 0, none⟩) ∧ v9 = .int .i64 s ∧ v10 = .int .i64 t ∧ Below wc.heap.size wc w')
      case first =>
        go_region_held3 (fun w' => w'.cell? ⟨N, 0, none⟩ = some (.bool x.neg) ∧ w'.cell? ⟨N, 1, none⟩ = some (.slice b1 (Num.limbs x.m).length c1) ∧ w'.cell? ⟨N, 2, none⟩ = some (.int .i64 x.e) ∧ w'.cell? ⟨M, 0, none⟩ = some (.bool y.neg) ∧ w'.cell? ⟨M, 1, none⟩ = some (.slice b2 (Num.limbs y.m).length c2) ∧ w'.cell? ⟨M, 2, none⟩ = some (.int .i64 y.e) ∧ Below wc.heap.size wc w') (first | (exact ⟨k0, k1, k2, q0, q1, q2, (Below.refl _ _).drew⟩) | (exact keepT (by assumption) (Nat.le_refl _) (by assumption))) ((first | (go_at_call 67; (with_reducible refine (CX.out _).mono ?_); rintro e w' ⟨rfl, hb⟩) | (go_at_call 67; (with_reducible refine (CY.out _).mono ?_); rintro e w' ⟨rfl, hb⟩)))
        all_goals
          rename_i hHeld
          obtain ⟨_, _, _, _, _, _, hH⟩ := hHeld
          go_wp2_with fail
          go_meet
          case rel => exact ⟨rfl, rfl, rfl, rfl, hH⟩
      case rest =>
        rename_i wc2
        obtain ⟨rfl, rfl, rfl, rfl, hb⟩ := hcut
        have HB := hid (TW.out.bel.trans (hb.mono TW.out.bel.size))
        by_cases hlt : s < t
        · have HV1 := hid (show V = -1 by rw [HV.out, if_pos hlt])
          clear HV
          go_wp2
          go_ret2
          exact ⟨by rw [HV1.out]; rfl, HB.out⟩
        · by_cases hgt : t < s
          · have HV1 := hid (show V = 1 by rw [HV.out, if_neg hlt, if_pos hgt])
            clear HV
            go_wp2
            go_ret2
            exact ⟨by rw [HV1.out]; rfl, HB.out⟩
          · obtain rfl : s = t := by omega
            by_cases hs0 : s = 0
            · have HV1 := hid (show V = 0 by rw [HV.out, if_neg hlt, if_neg hlt, if_pos hs0])
              subst hs0
              clear HV hs1 hs2 hlt hgt
              go_wp2
              go_ret2
              exact ⟨by rw [HV1.out]; rfl, HB.out⟩
            · have HV1 := hid (show V = s * z by rw [HV.out, if_neg hlt, if_neg hlt, if_neg hs0])
              have hne : (s == 0) = false := by simpa using hs0
              have hs3 : s = 1 ∨ s = -1 := by omega
              have CI1 := hid (TW.out.i1.below hb)
              have CI2 := hid (TW.out.i2.below hb)
              clear HV hs1 hs2 hlt hgt
              have e1 := blk_three (blk_below TW.out.h1 hb)
              have e2 := blk_three (blk_below TW.out.h2 hb)
              have HTB := hid (htab.out.next HB.out)
              clear k0 k1 k2 q0 q1 q2 z1 z2 hb
              obtain ⟨⟨k0, k1, k2⟩, _⟩ := e1
              obtain ⟨⟨q0, q1, q2⟩, _⟩ := e2
              rcases hs3 with hs3 | hs3
              all_goals
                subst hs3
                go_wp2_with fail
                refine (CZ.out _ CI1.out CI2.out HTB.out).mono ?_
                rintro e3 w3 ⟨rfl, hb3⟩
                have HB3 := hid (below_trans HB.out hb3)
                clear hb3
                go_wp2
                go_ret2
                exact ⟨by rw [HV1.out]; (try rw [Int.one_mul]); (try rw [Int.neg_mul, Int.one_mul]); rfl, HB3.out⟩
    · have hne : ((er : Int) != 0) = true := by rw [bne_iff_ne]; omega
      have HV := hid (show V = 0 by rw [hV.out, if_neg h0])
      clear h0 hp hV
      go_wp2
      go_ret2
      exact ⟨by rw [HV.out]; rfl, TW.out.bel⟩

theorem dec_Cmp (g : Bool) (a : Option Addr) (cap : Nat) (e : Int) (xs : List Nat) (g2 : Bool) (a2 : Option Addr) (cap2 : Nat) (e2 : Int) (ys : List Nat) (w : World) (h : U32 w a xs) (h2 : U32 w a2 ys) (htab : Pow w) :
    Calls Tryz.prog 31 #[.agg #[.bool g, .slice a xs.length cap, .int .i64 e], .agg #[.bool g2, .slice a2 ys.length cap2, .int .i64 e2]] w fun en w' =>
      en = .returned (.tuple #[.int .i64 (if bothE (takenE g xs.length (Num.worth xs) e) (takenE g2 ys.length (Num.worth ys) e2) = 0 then cmpR (takenD g xs.length (Num.worth xs) e) (takenD g2 ys.length (Num.worth ys) e2) else 0), .int .i64 (bothE (takenE g xs.length (Num.worth xs) e) (takenE g2 ys.length (Num.worth ys) e2) : Nat)]) ∧ Below w.heap.size w w' := by
  refine cmp_walk g a xs.length cap e g2 a2 ys.length cap2 e2 w htab _ _ _ (fun W hb => dec_both g a cap e xs g2 a2 cap2 e2 ys W (h.below hb) (h2.below hb) (htab.next hb)) ?_
  intro h0
  obtain ⟨z1, z2⟩ := bothE_zero h0
  have q1 := taken_facts z1
  have q2 := taken_facts z2
  exact ⟨q1.1, q1.2, q2.1, q2.2⟩

end Go.Proofs.YtiblmkecipoanaaGreatDoor

namespace Go.Proofs.YtiblmkecipoanaaGreatDoor

/-- A power of ten, counted from the least one. -/
def upE (e : Int) : Nat := (e + 100000).toNat
def topE : Nat := 100000
def sgn (g : Bool) : Int := if g = true then -1 else 1
/-- A number's worth, in the least power. -/
def wo (d : D) : Int := sgn d.neg * ((d.m * 10 ^ upE d.e : Nat) : Int)

theorem pow_pos10 (n : Nat) : 0 < 10 ^ n := Nat.pow_pos (by decide)
theorem upE_add {e : Int} (h : -100000 ≤ e) (t : Nat) : upE (e + t) = upE e + t := by unfold upE; omega
theorem sgn_cases (g : Bool) : sgn g = 1 ∨ sgn g = -1 := by cases g <;> simp [sgn]

theorem wo_plain (g : Bool) (m : Nat) (e : Int) (h : -100000 ≤ e) : wo (plainD g m e) = sgn g * ((m * 10 ^ upE e : Nat) : Int) := by
  unfold plainD
  by_cases h0 : m = 0
  · subst h0; simp [wo]
  · rw [if_neg h0]
    obtain ⟨h1, _, _⟩ := tz_split h0
    unfold wo
    simp only
    rw [upE_add h]
    congr 2
    rw [Nat.add_comm, Nat.pow_add, ← Nat.mul_assoc, h1]

theorem wo_zero_iff (d : D) : wo d = 0 ↔ d.m = 0 := by
  unfold wo
  have := pow_pos10 (upE d.e)
  constructor
  · intro h
    rcases sgn_cases d.neg with h1 | h1 <;> rw [h1] at h
    · have h2 : d.m * 10 ^ upE d.e = 0 := by omega
      rcases Nat.mul_eq_zero.1 h2 with h3 | h3
      · exact h3
      · omega
    · have h2 : d.m * 10 ^ upE d.e = 0 := by omega
      rcases Nat.mul_eq_zero.1 h2 with h3 | h3
      · exact h3
      · omega
  · intro h; rw [h]; simp

/-- Two plain numbers of one worth are one. -/
theorem wo_inj {x y : D} (hx : IsPlain x) (hy : IsPlain y) (ex : -100000 ≤ x.e) (ey : -100000 ≤ y.e) (h : wo x = wo y) : x = y := by
  by_cases h0 : x.m = 0
  · have h1 : y.m = 0 := (wo_zero_iff y).1 (h ▸ (wo_zero_iff x).2 h0)
    rw [hx.1 h0, hy.1 h1]
  · have h1 : y.m ≠ 0 := fun e => h0 ((wo_zero_iff x).1 (h.trans ((wo_zero_iff y).2 e)))
    have p1 : 0 < x.m * 10 ^ upE x.e := Nat.mul_pos (by omega) (pow_pos10 _)
    have p2 : 0 < y.m * 10 ^ upE y.e := Nat.mul_pos (by omega) (pow_pos10 _)
    obtain ⟨g, m, e⟩ := x
    obtain ⟨g2, m2, e2⟩ := y
    simp only at *
    have hs : g = g2 ∧ m * 10 ^ upE e = m2 * 10 ^ upE e2 := by
      unfold wo at h
      simp only at h
      generalize m * 10 ^ upE e = A at *
      generalize m2 * 10 ^ upE e2 = B at *
      have s1 : sgn true = -1 := rfl
      have s2 : sgn false = 1 := rfl
      cases g <;> cases g2 <;> simp only [s1, s2] at h <;> first | exact ⟨rfl, by omega⟩ | omega
    obtain ⟨rfl, hm⟩ := hs
    have ht := congrArg tz hm
    have q1 : tz m = 0 := hx.2
    have q2 : tz m2 = 0 := hy.2
    rw [tz_pow h0, tz_pow h1, q1, q2] at ht
    have he : e = e2 := by unfold upE at ht; omega
    subst he
    have := Nat.eq_of_mul_eq_mul_right (pow_pos10 (upE e)) hm
    subst this
    rfl

/-- The sum, plain. -/
def sumD (x y : D) : D :=
  if x.neg = y.neg then plainD x.neg (x.m * 10 ^ (x.e - min x.e y.e).toNat + y.m * 10 ^ (y.e - min x.e y.e).toNat) (min x.e y.e)
  else if x.m * 10 ^ (x.e - min x.e y.e).toNat < y.m * 10 ^ (y.e - min x.e y.e).toNat then plainD y.neg (y.m * 10 ^ (y.e - min x.e y.e).toNat - x.m * 10 ^ (x.e - min x.e y.e).toNat) (min x.e y.e)
  else plainD x.neg (x.m * 10 ^ (x.e - min x.e y.e).toNat - y.m * 10 ^ (y.e - min x.e y.e).toNat) (min x.e y.e)

theorem sumD_plain (x y : D) : IsPlain (sumD x y) := by unfold sumD; split <;> (try split) <;> exact plainD_plain _ _ _

theorem level_worth (m : Nat) (e k : Int) (h : k ≤ e) (hk : -100000 ≤ k) : m * 10 ^ (e - k).toNat * 10 ^ upE k = m * 10 ^ upE e := by
  rw [Nat.mul_assoc, ← Nat.pow_add]
  congr 2
  unfold upE; omega

theorem wo_sum (x y : D) (hx : -100000 ≤ x.e) (hy : -100000 ≤ y.e) : wo (sumD x y) = wo x + wo y := by
  obtain ⟨k, hk⟩ : ∃ k, k = min x.e y.e := ⟨_, rfl⟩
  have hk1 : -100000 ≤ k := by omega
  have l1 := level_worth x.m x.e k (by omega) hk1
  have l2 := level_worth y.m y.e k (by omega) hk1
  unfold sumD
  rw [← hk]
  obtain ⟨X, hX⟩ : ∃ X, X = x.m * 10 ^ (x.e - k).toNat := ⟨_, rfl⟩
  obtain ⟨Y, hY⟩ : ∃ Y, Y = y.m * 10 ^ (y.e - k).toNat := ⟨_, rfl⟩
  rw [← hX] at l1 ⊢
  rw [← hY] at l2 ⊢
  obtain ⟨P, hP⟩ : ∃ P, P = 10 ^ upE k := ⟨_, rfl⟩
  have e1 : wo x = sgn x.neg * ((X * P : Nat) : Int) := by unfold wo; rw [hP, l1]
  have e2 : wo y = sgn y.neg * ((Y * P : Nat) : Int) := by unfold wo; rw [hP, l2]
  rw [e1, e2]
  split
  · rename_i h
    rw [wo_plain _ _ _ hk1, ← hP, Nat.add_mul, h]
    rcases sgn_cases y.neg with h1 | h1 <;> rw [h1] <;> omega
  · rename_i h
    have hs : sgn x.neg = - sgn y.neg := by
      cases h1 : x.neg <;> cases h2 : y.neg <;> simp [h1, h2, sgn] at h ⊢
    split
    · rename_i hlt
      have : X * P ≤ Y * P := Nat.mul_le_mul_right _ (by omega)
      rw [wo_plain _ _ _ hk1, ← hP, Nat.sub_mul, hs]
      rcases sgn_cases y.neg with h1 | h1 <;> rw [h1] <;> omega
    · rename_i hlt
      have : Y * P ≤ X * P := Nat.mul_le_mul_right _ (by omega)
      rw [wo_plain _ _ _ hk1, ← hP, Nat.sub_mul, hs]
      rcases sgn_cases y.neg with h1 | h1 <;> rw [h1] <;> omega

theorem plainD_e (g : Bool) (m : Nat) (e k : Int) (h : k ≤ e) (h0 : k ≤ 0) : k ≤ (plainD g m e).e := by
  unfold plainD; split <;> simp only <;> omega
theorem sumD_e (x y : D) (k : Int) (hx : k ≤ x.e) (hy : k ≤ y.e) (h0 : k ≤ 0) : k ≤ (sumD x y).e := by
  unfold sumD; split <;> (try split) <;> exact plainD_e _ _ _ _ (by omega) h0

theorem sumD_comm (x y : D) (hx : -100000 ≤ x.e) (hy : -100000 ≤ y.e) : sumD x y = sumD y x :=
  wo_inj (sumD_plain _ _) (sumD_plain _ _) (sumD_e _ _ _ hx hy (by decide)) (sumD_e _ _ _ hy hx (by decide)) (by rw [wo_sum x y hx hy, wo_sum y x hy hx]; omega)

theorem sumD_zero_left {x y : D} (hx : -100000 ≤ x.e) (hy : -100000 ≤ y.e) (py : IsPlain y) (h0 : x.m = 0) : sumD x y = y :=
  wo_inj (sumD_plain _ _) py (sumD_e _ _ _ hx hy (by decide)) hy (by rw [wo_sum x y hx hy, (wo_zero_iff x).2 h0]; omega)
theorem sumD_zero_right {x y : D} (hx : -100000 ≤ x.e) (hy : -100000 ≤ y.e) (px : IsPlain x) (h0 : y.m = 0) : sumD x y = x :=
  wo_inj (sumD_plain _ _) px (sumD_e _ _ _ hx hy (by decide)) hx (by rw [wo_sum x y hx hy, (wo_zero_iff y).2 h0]; omega)

/-- What a call tells of a plain number. -/
def tellR (d : D) : D × Nat := if fitsB d = true then (d, 0) else (zeroD, 3)
/-- Sum and product of what may be, and what is told. -/
def addR (x y : D) : D × Nat := tellR (sumD x y)
def prodD (x y : D) : D := plainD (x.neg != y.neg) (x.m * y.m) (x.e + y.e)
def mulR (x y : D) : D × Nat := tellR (prodD x y)

/-- A sum of two that are far apart has too many digits. -/
theorem far_one {x y : D} (hx0 : x.m ≠ 0) (hy0 : y.m ≠ 0) (py : tz y.m = 0) (fy : (Num.digs 10 y.m).length ≤ 400) (hp : y.e + 402 ≤ x.e) : fitsB (sumD x y) = false := by
  obtain ⟨p, hpe⟩ : ∃ p : Nat, x.e = y.e + p ∧ 402 ≤ p := ⟨(x.e - y.e).toNat, by omega, by omega⟩
  have hm : min x.e y.e = y.e := by omega
  have t1 : (x.e - y.e).toNat = p := by omega
  have t2 : (y.e - y.e).toNat = 0 := by omega
  obtain ⟨k, hk⟩ : ∃ k : Nat, k = 400 := ⟨_, rfl⟩
  have hy1 : y.m < 10 ^ k := (Num.digs_length_le (by decide)).1 (by omega)
  have hy2 : y.m % 10 ≠ 0 := fun e => by
    obtain ⟨c, hc⟩ : ∃ c, y.m = 10 * c := ⟨y.m / 10, by omega⟩
    rw [hc] at py hy0
    rw [tz_ten (by omega)] at py
    omega
  obtain ⟨q, hq⟩ : ∃ q, p = k + 2 + q := ⟨p - (k + 2), by omega⟩
  have hX : 100 * 10 ^ k ≤ x.m * 10 ^ p := by
    have h1 : 10 ^ p = 10 ^ k * 100 * 10 ^ q := by rw [hq, Nat.pow_add, Nat.pow_add]
    have h2 := pow_pos10 q
    have h3 : 10 ^ k * 100 * 1 ≤ 10 ^ k * 100 * 10 ^ q := Nat.mul_le_mul_left _ h2
    have h4 : 1 * 10 ^ p ≤ x.m * 10 ^ p := Nat.mul_le_mul_right _ (by omega)
    omega
  have hX10 : (x.m * 10 ^ p) % 10 = 0 := by
    obtain ⟨r, hr⟩ : ∃ r, p = r + 1 := ⟨p - 1, by omega⟩
    rw [hr, Nat.pow_succ, ← Nat.mul_assoc]
    omega
  have key : ∀ (g : Bool) (S : Nat), S % 10 ≠ 0 → 10 ^ k ≤ S → fitsB (plainD g S y.e) = false := by
    intro g S h1 h2
    have h0 : S ≠ 0 := by omega
    have hl : 400 < (Num.digs 10 S).length := by
      have : ¬ (Num.digs 10 S).length ≤ k := fun h => by
        have := (Num.digs_length_le (b := 10) (by decide)).1 h
        omega
      omega
    unfold plainD
    rw [if_neg h0, tz_mod h1]
    unfold fitsB
    simp only [Nat.pow_zero, Nat.div_one, h0, decide_false, Bool.false_or]
    rw [decide_eq_false (by omega)]
    rfl
  have hpk : 0 < 10 ^ k := pow_pos10 k
  unfold sumD
  rw [hm, t1, t2, Nat.pow_zero, Nat.mul_one]
  split
  · exact key _ _ (by omega) (by omega)
  · rw [if_neg (by omega)]
    exact key _ _ (by omega) (by omega)

theorem far_two {x y : D} (hx0 : x.m ≠ 0) (hy0 : y.m ≠ 0) (px : tz x.m = 0) (py : tz y.m = 0) (fx : (Num.digs 10 x.m).length ≤ 400) (fy : (Num.digs 10 y.m).length ≤ 400) (bx : -100000 ≤ x.e) (by' : -100000 ≤ y.e)
    (h : 800 < max (headD x) (headD y) - min x.e y.e) : fitsB (sumD x y) = false := by
  unfold headD at h
  by_cases hle : y.e ≤ x.e
  · exact far_one hx0 hy0 py fy (by omega)
  · rw [sumD_comm x y bx by']
    exact far_one hy0 hx0 px fx (by omega)

theorem tell_ok {d p : D} {k : Nat} (h : tellR d = (p, k)) (h0 : k = 0) : p = d ∧ fitsB d = true := by
  unfold tellR at h
  split at h
  · rename_i hf; injection h with h1 h2; exact ⟨h1.symm, hf⟩
  · injection h with h1 h2; omega

/-- The opposite. -/
theorem wo_neg (d : D) : wo (negD d) = - wo d := by
  unfold negD
  split
  · rename_i h; rw [(wo_zero_iff d).2 h]; rfl
  · unfold wo; simp only; cases d.neg <;> simp [sgn]
theorem neg_plain {d : D} (h : IsPlain d) : IsPlain (negD d) := by
  unfold negD
  split
  · exact h
  · rename_i h0; exact ⟨fun e => absurd e h0, h.2⟩
theorem neg_fits {d : D} (h : fitsB d = true) : fitsB (negD d) = true := by
  unfold negD
  split
  · exact h
  · exact h
theorem neg_e (d : D) : (negD d).e = d.e := by unfold negD; split <;> rfl

/-- The product. -/
theorem sgn_mul (a b : Bool) : sgn (a != b) = sgn a * sgn b := by cases a <;> cases b <;> decide
theorem prod_plain (x y : D) : IsPlain (prodD x y) := plainD_plain _ _ _
theorem wo_prod (x y : D) (hx : -50000 ≤ x.e) (hy : -50000 ≤ y.e) : wo (prodD x y) * ((10 ^ topE : Nat) : Int) = wo x * wo y := by
  unfold prodD
  rw [wo_plain _ _ _ (by omega), sgn_mul]
  unfold wo
  obtain ⟨T, hT⟩ : ∃ T : Nat, T = topE := ⟨_, rfl⟩
  rw [← hT]
  have hT : T = 100000 := hT
  have h1 : upE (x.e + y.e) + T = upE x.e + upE y.e := by unfold upE; omega
  have h2 : 10 ^ upE (x.e + y.e) * 10 ^ T = 10 ^ upE x.e * 10 ^ upE y.e := by rw [← Nat.pow_add, h1, Nat.pow_add]
  have h3 : x.m * y.m * 10 ^ upE (x.e + y.e) * 10 ^ T = (x.m * 10 ^ upE x.e) * (y.m * 10 ^ upE y.e) := by
    rw [Nat.mul_assoc (x.m * y.m), h2, Nat.mul_mul_mul_comm]
  rw [Int.mul_assoc, ← Int.natCast_mul, h3, Int.natCast_mul]
  generalize ((x.m * 10 ^ upE x.e : Nat) : Int) = a
  generalize ((y.m * 10 ^ upE y.e : Nat) : Int) = b
  rw [Int.mul_assoc, Int.mul_assoc, Int.mul_left_comm (sgn y.neg) a b]

theorem prod_comm (x y : D) : prodD x y = prodD y x := by
  unfold prodD
  rw [Nat.mul_comm, Int.add_comm]
  congr 1
  cases x.neg <;> cases y.neg <;> rfl

end Go.Proofs.YtiblmkecipoanaaGreatDoor

namespace Go.Proofs.YtiblmkecipoanaaGreatDoor
open Go.RowKit

/-- Block R has three cells that may be written. -/
def Cells3 (W : World) (R : Nat) : Prop := ∃ x y z T, W.heap[R]? = some (.cells #[x, y, z] T)
theorem Cells3.below {W W' : World} {R : Nat} (h : Cells3 W R) (hb : Below W.heap.size W W') : Cells3 W' R := by
  obtain ⟨x, y, z, T, h⟩ := h
  exact ⟨x, y, z, T, blk_below h hb⟩
theorem Cells3.frozen {W : World} {R : Nat} (h : Cells3 W R) (j : Nat) : W.frozen? ⟨R, j, none⟩ = false := by
  obtain ⟨x, y, z, T, h⟩ := h
  exact blk_frozen h j
theorem Cells3.get {W : World} {R : Nat} (h : Cells3 W R) : ∃ x y z, W.cell? ⟨R, 0, none⟩ = some x ∧ W.cell? ⟨R, 1, none⟩ = some y ∧ W.cell? ⟨R, 2, none⟩ = some z := by
  obtain ⟨x, y, z, T, h⟩ := h
  exact ⟨x, y, z, (blk_three h).1⟩
theorem Cells3.set3 {W : World} {R : Nat} (h : Cells3 W R) (u v t : Value) : Cells3 (((W.setCell ⟨R, 0, none⟩ u).setCell ⟨R, 1, none⟩ v).setCell ⟨R, 2, none⟩ t) R := by
  obtain ⟨x, y, z, T, h⟩ := h
  exact ⟨u, v, t, T, by simp [World.setCell, Array.getElem?_modify, h]⟩

/-- What is held of the world while a statement goes on that ends with a store into block R. -/
theorem keepR {W0 W w1 : World} {N M R : Nat} {x y z u v t : Value} (h : W.cell? ⟨N, 0, none⟩ = some x ∧ W.cell? ⟨N, 1, none⟩ = some y ∧ W.cell? ⟨N, 2, none⟩ = some z ∧ W.cell? ⟨M, 0, none⟩ = some u ∧ W.cell? ⟨M, 1, none⟩ = some v ∧ W.cell? ⟨M, 2, none⟩ = some t ∧
      W.frozen? ⟨R, 0, none⟩ = false ∧ W.frozen? ⟨R, 1, none⟩ = false ∧ W.frozen? ⟨R, 2, none⟩ = false ∧ Cells3 W R ∧ But R W0 W) (hb : Below W.heap.size W w1) :
    w1.cell? ⟨N, 0, none⟩ = some x ∧ w1.cell? ⟨N, 1, none⟩ = some y ∧ w1.cell? ⟨N, 2, none⟩ = some z ∧ w1.cell? ⟨M, 0, none⟩ = some u ∧ w1.cell? ⟨M, 1, none⟩ = some v ∧ w1.cell? ⟨M, 2, none⟩ = some t ∧
      w1.frozen? ⟨R, 0, none⟩ = false ∧ w1.frozen? ⟨R, 1, none⟩ = false ∧ w1.frozen? ⟨R, 2, none⟩ = false ∧ Cells3 w1 R ∧ But R W0 w1 := by
  obtain ⟨h0, h1, h2, h3, h4, h5, _, _, _, h6, h7⟩ := h
  have B' := (bcell hb).1
  have c6 := h6.below hb
  exact ⟨(B' _ _ (cell_lt h0)).trans h0, (B' _ _ (cell_lt h1)).trans h1, (B' _ _ (cell_lt h2)).trans h2, (B' _ _ (cell_lt h3)).trans h3, (B' _ _ (cell_lt h4)).trans h4, (B' _ _ (cell_lt h5)).trans h5, c6.frozen 0, c6.frozen 1, c6.frozen 2, c6, h7.step hb⟩
theorem keepRs {W0 W : World} {N M R : Nat} {x y z u v t : Value} (h : W.cell? ⟨N, 0, none⟩ = some x ∧ W.cell? ⟨N, 1, none⟩ = some y ∧ W.cell? ⟨N, 2, none⟩ = some z ∧ W.cell? ⟨M, 0, none⟩ = some u ∧ W.cell? ⟨M, 1, none⟩ = some v ∧ W.cell? ⟨M, 2, none⟩ = some t ∧
      W.frozen? ⟨R, 0, none⟩ = false ∧ W.frozen? ⟨R, 1, none⟩ = false ∧ W.frozen? ⟨R, 2, none⟩ = false ∧ Cells3 W R ∧ But R W0 W) (p q r : Value) (hN : N ≠ R) (hM : M ≠ R) (w1 : World) (hw : w1 = ((W.setCell ⟨R, 0, none⟩ p).setCell ⟨R, 1, none⟩ q).setCell ⟨R, 2, none⟩ r) :
    w1.cell? ⟨N, 0, none⟩ = some x ∧ w1.cell? ⟨N, 1, none⟩ = some y ∧ w1.cell? ⟨N, 2, none⟩ = some z ∧ w1.cell? ⟨M, 0, none⟩ = some u ∧ w1.cell? ⟨M, 1, none⟩ = some v ∧ w1.cell? ⟨M, 2, none⟩ = some t ∧
      w1.frozen? ⟨R, 0, none⟩ = false ∧ w1.frozen? ⟨R, 1, none⟩ = false ∧ w1.frozen? ⟨R, 2, none⟩ = false ∧ Cells3 w1 R ∧ But R W0 w1 := by
  subst hw
  obtain ⟨h0, h1, h2, h3, h4, h5, _, _, _, h6, h7⟩ := h
  have c6 := h6.set3 p q r
  have hc : ∀ (K j : Nat), K ≠ R → (((W.setCell ⟨R, 0, none⟩ p).setCell ⟨R, 1, none⟩ q).setCell ⟨R, 2, none⟩ r).cell? ⟨K, j, none⟩ = W.cell? ⟨K, j, none⟩ := fun K j hK => by
    refine World.cell?_of_block ?_
    simp only
    rw [Below.heap_setCell _ _ _ _ hK, Below.heap_setCell _ _ _ _ hK, Below.heap_setCell _ _ _ _ hK]
  exact ⟨(hc _ _ hN).trans h0, (hc _ _ hN).trans h1, (hc _ _ hN).trans h2, (hc _ _ hM).trans h3, (hc _ _ hM).trans h4, (hc _ _ hM).trans h5, c6.frozen 0, c6.frozen 1, c6.frozen 2, c6, ((h7.setCell _ _).setCell _ _).setCell _ _⟩

theorem owns_set3 {w : World} {base : Nat} {e : TypeId} {size : Nat} {v : Value} {n : Nat} {xs : List Value} (h : w.ownsRow base e size v n xs) {R : Nat} (hR : R < base) (p q r : Value) :
    (((w.setCell ⟨R, 0, none⟩ p).setCell ⟨R, 1, none⟩ q).setCell ⟨R, 2, none⟩ r).ownsRow base e size v n xs :=
  ownsRow_setCell_below (ownsRow_setCell_below (ownsRow_setCell_below h hR p) hR q) hR r

/-- What a call tells that takes two. -/
def binR (er : Nat) (r : D × Nat) : D × Nat := if er = 0 then r else (zeroD, er)
theorem tell_yes {d : D} (h : fitsB d = true) : tellR d = (d, 0) := if_pos h
theorem tell_no {d : D} (h : ¬ fitsB d = true) : tellR d = (zeroD, 3) := if_neg h

theorem digs_mul_le {m n : Nat} (hm : (Num.digs 10 m).length ≤ 400) (hn : (Num.digs 10 n).length ≤ 400) : (Num.digs 10 (m * n)).length ≤ 800 := by
  obtain ⟨k, hk⟩ : ∃ k : Nat, k = 400 := ⟨_, rfl⟩
  rw [← hk] at hm hn
  have h1 : m < 10 ^ k := (Num.digs_length_le (by decide)).1 hm
  have h2 : n < 10 ^ k := (Num.digs_length_le (by decide)).1 hn
  rw [show 800 = k + k by omega]
  refine (Num.digs_length_le (by decide)).2 ?_
  rw [Nat.pow_add]
  exact Nat.mul_lt_mul'' h1 h2

set_option maxRecDepth 100000 in
set_option maxHeartbeats 3200000 in
theorem mul_walk (g : Bool) (a : Option Addr) (n cap : Nat) (e : Int) (g2 : Bool) (a2 : Option Addr) (n2 cap2 : Nat) (e2 : Int) (w : World) (htab : Pow w) (x y : D) (er : Nat)
    (CB : ∀ W, Below w.heap.size w W → Calls Tryz.prog 58 #[.agg #[.bool g, .slice a n cap, .int .i64 e], .agg #[.bool g2, .slice a2 n2 cap2, .int .i64 e2]] W (OutDD W x y er))
    (hp : er = 0 → IsPlain x ∧ fitsB x = true ∧ IsPlain y ∧ fitsB y = true) :
    Calls Tryz.prog 32 #[.agg #[.bool g, .slice a n cap, .int .i64 e], .agg #[.bool g2, .slice a2 n2 cap2, .int .i64 e2]] w (OutDE w (binR er (mulR x y)).1 (binR er (mulR x y)).2) := by
  obtain ⟨r, hr⟩ : ∃ r, r = binR er (mulR x y) := ⟨_, rfl⟩
  rw [← hr]
  replace hr := hid hr
  replace CB := hid CB
  replace hp := hid hp
  replace htab := hid htab
  go_enter Tryz.func32, Tryz.ntmps32
  go_upto_region 1 with fail
  go_cut [6, 7, 8] from 9 (fun v6 v7 v8 w' => ∃ N M b1 c1 b2 c2, v6 = .pointer (some ⟨N, 0, none⟩) ∧ v7 = .pointer (some ⟨M, 0, none⟩) ∧ v8 = .int .i64 er ∧ TwoD w (w.heap.size + 1 + 1 + 1) w' x y N M b1 c1 b2 c2 ∧ Cells3 w' (w.heap.size + 1 + 1))
  case first =>
    go_wp2_with fail
    refine (CB.out _ ((((Below.refl _ _).alloc (Nat.le_refl _) _).alloc (by simp) _).alloc (by simp; omega) _)).mono ?_
    rintro e1 w1 ⟨b1, c1, b2, c2, rfl, ho1, ho2⟩
    have HB1 := hid (below_alloc (below_alloc (below_alloc ho1.1)))
    have R3 := hid (show Cells3 w1 (w.heap.size + 1 + 1) from Cells3.below ⟨_, _, _, _, by simpa using blk_new2 (w.alloc _) _ _⟩ ho1.1)
    have I1 := hid ho1
    have I2 := hid ho2
    clear ho1 ho2 CB
    unfold decV
    go_wp2_with fail
    go_meet
    case rel =>
      exact ⟨w1.heap.size, w1.heap.size + 1, b1, c1, b2, c2, rfl, rfl, rfl, TwoD.new HB1.out (by simp) I1.out I2.out, R3.out.below (((Below.refl _ _).alloc (Nat.le_refl _) _).alloc (by simp) _)⟩
  case rest =>
    obtain ⟨N, M, b1, c1, b2, c2, rfl, rfl, rfl, two, R3⟩ := hcut
    have h1 := blk_three two.h1
    have h2 := blk_three two.h2
    have z1 := blk_lt two.h1
    have z2 := blk_lt two.h2
    have l1 := two.l1
    have l2 := two.l2
    have HN := hid (show N ≠ w.heap.size + 1 + 1 by omega)
    have HM := hid (show M ≠ w.heap.size + 1 + 1 by omega)
    obtain ⟨⟨k0, k1, k2⟩, _⟩ := h1
    obtain ⟨⟨q0, q1, q2⟩, _⟩ := h2
    obtain ⟨r0, r1, r2, p0, p1, p2⟩ := R3.get
    have f0 := R3.frozen 0
    have f1 := R3.frozen 1
    have f2 := R3.frozen 2
    have TW := hid two
    replace R3 := hid R3
    clear CB two
    by_cases h0 : er = 0
    · obtain ⟨px, fx, py, fy⟩ := hp.out h0
      have bx := plain_bounds px fx
      have bY := plain_bounds py fy
      have hb1 := bx.2
      have hb2 := bY.2
      have hlx := limbs_400 bx.1
      have hly := limbs_400 bY.1
      have HTB : ∀ W, But (w.heap.size + 1 + 1) wc W → Pow W := fun W hW => htab.out.next (hW.below TW.out.bel (by omega) TW.out.bel.size)
      have CM := fun W (hW : But (w.heap.size + 1 + 1) wc W) => limb_Mul b1 b2 c1 c2 (Num.limbs x.m) (Num.limbs y.m) W (u32_limbs (hW.owns TW.out.o1 (by omega))) (u32_limbs (hW.owns TW.out.o2 (by omega))) (by omega) (by omega)
      simp only [Num.worth_limbs] at CM
      have hP : (Num.digs 10 (x.m * y.m)).length ≤ 800 := digs_mul_le bx.1 bY.1
      obtain ⟨P, hPe⟩ : ∃ P, P = x.m * y.m := ⟨_, rfl⟩
      rw [← hPe] at CM hP
      have hPl : (Num.limbs P).length ≤ 89 := limbs_pow hP (by decide)
      obtain ⟨d, hd⟩ : ∃ d, d = plainD (x.neg != y.neg) P (x.e + y.e) := ⟨_, rfl⟩
      have CP := fun W (am : Option Addr) (cm : Nat) (hu : U32 W am (Num.limbs P)) (hW : But (w.heap.size + 1 + 1) wc W) => dec_plain (x.neg != y.neg) am cm (x.e + y.e) (Num.limbs P) W hu (by omega) (by rw [Num.worth_limbs]; omega) (by omega) (HTB W hW)
      simp only [Num.worth_limbs, ← hd] at CP
      simp only [bne] at CP
      have hde := plain_e (x.neg != y.neg) P (x.e + y.e) (by omega) (by omega)
      rw [← hd] at hde
      have hdm : (Num.limbs d.m).length ≤ 89 := Nat.le_trans (Num.digs_length_mono Num.two_le_B9 (by rw [hd]; exact plain_m_le _ _ _)) hPl
      have CT := fun W (ap : Option Addr) (cp : Nat) (hi : InD W d ap cp) (hW : But (w.heap.size + 1 + 1) wc W) => dec_told d ap cp W hi (by omega) (by omega) (HTB W hW)
      have hr1 : r = tellR d := by rw [hr.out, hd, hPe]; unfold binR; rw [if_pos h0]; rfl
      have hne : ((er : Int) != 0) = false := by rw [bne_eq_false_iff_eq]; omega
      have wrap : IntKind.i64.wrap (x.e + y.e) = x.e + y.e := by rw [IntKind.wrap_i64]; omega
      clear h0 hp hr px fx py fy bx bY hlx hly hP hPe hPl hd hde hdm HTB
      by_cases hf : fitsB d = true
      · simp only [if_pos hf] at CT
        have CT : ∀ W (ap : Option Addr) (cp : Nat), InD W d ap cp → But (w.heap.size + 1 + 1) wc W → Calls Tryz.prog 61 #[decV d ap cp] W fun en w' => en = .returned (.tuple #[.agg #[.bool d.neg, .slice ap (Num.limbs d.m).length cp, .int .i64 d.e], .int .i64 0]) ∧ Below W.heap.size W w' := CT
        have HR := hid (hr1.trans (tell_yes hf))
        replace CM := hid CM
        replace CP := hid CP
        replace CT := hid CT
        clear hr1 hf
        go_wp2_with fail
        go_region_held3 (fun w' => w'.cell? ⟨N, 0, none⟩ = some (.bool x.neg) ∧ w'.cell? ⟨N, 1, none⟩ = some (.slice b1 (Num.limbs x.m).length c1) ∧ w'.cell? ⟨N, 2, none⟩ = some (.int .i64 x.e) ∧ w'.cell? ⟨M, 0, none⟩ = some (.bool y.neg) ∧ w'.cell? ⟨M, 1, none⟩ = some (.slice b2 (Num.limbs y.m).length c2) ∧ w'.cell? ⟨M, 2, none⟩ = some (.int .i64 y.e) ∧ w'.frozen? ⟨w.heap.size + 1 + 1, 0, none⟩ = false ∧ w'.frozen? ⟨w.heap.size + 1 + 1, 1, none⟩ = false ∧ w'.frozen? ⟨w.heap.size + 1 + 1, 2, none⟩ = false ∧ Cells3 w' (w.heap.size + 1 + 1) ∧ But (w.heap.size + 1 + 1) wc w') (first | (exact ⟨k0, k1, k2, q0, q1, q2, f0, f1, f2, R3.out, (But.refl _ _).drew⟩) | (exact keepR (by assumption) (by assumption)) | (exact keepRs (by assumption) _ _ _ HN.out HM.out _ rfl)) ((first | (go_at_call 69; (with_reducible refine (CM.out _ ?_).mono ?_); (simp only [*]); rintro e1 w1 ⟨am, cm, rfl, hb1, ho1⟩; have hu1 := u32_limbs ho1) | (go_at_call 62; (with_reducible refine (CP.out _ _ _ (by assumption) ?_).mono ?_); (simp only [*]); rintro e2 w2 ⟨ap, cp, rfl, hb2⟩; have hu2 := hb2.inD; have hb2' := hb2.1) | (go_at_call 61; (with_reducible refine (CT.out _ _ _ (by assumption) ?_).mono ?_); (simp only [*]); rintro e3 w3 ⟨rfl, hb3⟩; have hc2 : Cells3 w2 (w.heap.size + 1 + 1) := (by simp only [*]); obtain ⟨_, _, _, s0, s1, s2⟩ := (hc2.below hb3).get; have hc3 := hc2.below hb3)))
        rename_i hHeld
        obtain ⟨_, _, _, _, _, _, _, _, _, _, hB⟩ := hHeld
        have hz : wc.heap.size ≤ w1.heap.size := hb1.size
        have hw := TW.out.bel.size
        have HO := hid (owns_mono (owns_set3 (R := w.heap.size + 1 + 1) (owns_below hb2.2 hb3) (by omega) (.bool d.neg) (.slice ap (Num.limbs d.m).length cp) (.int .i64 d.e)) (show w.heap.size ≤ _ by omega))
        have HB := hid (hB.below TW.out.bel (by omega) TW.out.bel.size)
        clear hB hb1 ho1 hb2 hb2' hb3 hu1 hu2 hc2 hc3 CM CP CT
        go_wp2_with fail
        refine bodyPost_ret (v := .tuple #[decV d ap cp, .int .i64 0]) (by simp [results, Tryz.results32, go_sem, s0, s1, s2, decV]) rfl ?_
        rw [HR.out]
        exact ⟨ap, cp, rfl, HB.out, HO.out⟩
      · simp only [if_neg hf] at CT
        have CT : ∀ W (ap : Option Addr) (cp : Nat), InD W d ap cp → But (w.heap.size + 1 + 1) wc W → Calls Tryz.prog 61 #[decV d ap cp] W fun en w' => en = .returned (.tuple #[.agg #[.bool false, .slice none 0 0, .int .i64 0], .int .i64 3]) ∧ Below W.heap.size W w' := CT
        have HR := hid (hr1.trans (tell_no hf))
        replace CM := hid CM
        replace CP := hid CP
        replace CT := hid CT
        clear hr1 hf
        go_wp2_with fail
        go_region_held3 (fun w' => w'.cell? ⟨N, 0, none⟩ = some (.bool x.neg) ∧ w'.cell? ⟨N, 1, none⟩ = some (.slice b1 (Num.limbs x.m).length c1) ∧ w'.cell? ⟨N, 2, none⟩ = some (.int .i64 x.e) ∧ w'.cell? ⟨M, 0, none⟩ = some (.bool y.neg) ∧ w'.cell? ⟨M, 1, none⟩ = some (.slice b2 (Num.limbs y.m).length c2) ∧ w'.cell? ⟨M, 2, none⟩ = some (.int .i64 y.e) ∧ w'.frozen? ⟨w.heap.size + 1 + 1, 0, none⟩ = false ∧ w'.frozen? ⟨w.heap.size + 1 + 1, 1, none⟩ = false ∧ w'.frozen? ⟨w.heap.size + 1 + 1, 2, none⟩ = false ∧ Cells3 w' (w.heap.size + 1 + 1) ∧ But (w.heap.size + 1 + 1) wc w') (first | (exact ⟨k0, k1, k2, q0, q1, q2, f0, f1, f2, R3.out, (But.refl _ _).drew⟩) | (exact keepR (by assumption) (by assumption)) | (exact keepRs (by assumption) _ _ _ HN.out HM.out _ rfl)) ((first | (go_at_call 69; (with_reducible refine (CM.out _ ?_).mono ?_); (simp only [*]); rintro e1 w1 ⟨am, cm, rfl, hb1, ho1⟩; have hu1 := u32_limbs ho1) | (go_at_call 62; (with_reducible refine (CP.out _ _ _ (by assumption) ?_).mono ?_); (simp only [*]); rintro e2 w2 ⟨ap, cp, rfl, hb2⟩; have hu2 := hb2.inD; have hb2' := hb2.1) | (go_at_call 61; (with_reducible refine (CT.out _ _ _ (by assumption) ?_).mono ?_); (simp only [*]); rintro e3 w3 ⟨rfl, hb3⟩; have hc2 : Cells3 w2 (w.heap.size + 1 + 1) := (by simp only [*]); obtain ⟨_, _, _, s0, s1, s2⟩ := (hc2.below hb3).get; have hc3 := hc2.below hb3)))
        rename_i hHeld
        obtain ⟨_, _, _, _, _, _, _, _, _, _, hB⟩ := hHeld
        have HB := hid (hB.below TW.out.bel (by omega) TW.out.bel.size)
        clear hB hb1 ho1 hb2 hb2' hb3 hu1 hu2 hc2 hc3 CM CP CT
        go_wp2_with fail
        refine bodyPost_ret (v := .tuple #[decV zeroD none 0, .int .i64 3]) (by simp [results, Tryz.results32, go_sem, s0, s1, s2, decV, zeroD]; rfl) rfl ?_
        rw [HR.out]
        exact ⟨none, 0, rfl, HB.out, World.ownsRow_nil _ _ _ _⟩
    · have hne : ((er : Int) != 0) = true := by rw [bne_iff_ne]; omega
      have HR := hid (show r = (zeroD, er) by rw [hr.out]; unfold binR; rw [if_neg h0])
      clear h0 hp hr
      go_wp2
      refine bodyPost_ret (v := .tuple #[decV zeroD none 0, .int .i64 er]) (by simp [results, Tryz.results32, go_sem, p0, p1, p2, decV, zeroD]; rfl) rfl ?_
      rw [HR.out]
      refine ⟨none, 0, rfl, ?_, ?_⟩
      · exact ((TW.out.bel.setCell (by simp only; omega) _).setCell (by simp only; omega) _).setCell (by simp only; omega) _
      · exact World.ownsRow_nil _ _ _ _

theorem dec_Mul (g : Bool) (a : Option Addr) (cap : Nat) (e : Int) (xs : List Nat) (g2 : Bool) (a2 : Option Addr) (cap2 : Nat) (e2 : Int) (ys : List Nat) (w : World) (h : U32 w a xs) (h2 : U32 w a2 ys) (htab : Pow w) :
    Calls Tryz.prog 32 #[.agg #[.bool g, .slice a xs.length cap, .int .i64 e], .agg #[.bool g2, .slice a2 ys.length cap2, .int .i64 e2]] w
      (OutDE w (binR (bothE (takenE g xs.length (Num.worth xs) e) (takenE g2 ys.length (Num.worth ys) e2)) (mulR (takenD g xs.length (Num.worth xs) e) (takenD g2 ys.length (Num.worth ys) e2))).1
        (binR (bothE (takenE g xs.length (Num.worth xs) e) (takenE g2 ys.length (Num.worth ys) e2)) (mulR (takenD g xs.length (Num.worth xs) e) (takenD g2 ys.length (Num.worth ys) e2))).2) := by
  refine mul_walk g a xs.length cap e g2 a2 ys.length cap2 e2 w htab _ _ _ (fun W hb => dec_both g a cap e xs g2 a2 cap2 e2 ys W (h.below hb) (h2.below hb) (htab.next hb)) ?_
  intro h0
  obtain ⟨z1, z2⟩ := bothE_zero h0
  have q1 := taken_facts z1
  have q2 := taken_facts z2
  exact ⟨q1.1, q1.2, q2.1, q2.2⟩

end Go.Proofs.YtiblmkecipoanaaGreatDoor

namespace Go.Proofs.YtiblmkecipoanaaGreatDoor
open Go.RowKit

theorem TwoD.next {w w' w'' : World} {B : Nat} {x y : D} {N M c1 c2 : Nat} {b1 b2 : Option Addr} (h : TwoD w B w' x y N M b1 c1 b2 c2) (hb : Below w'.heap.size w' w'') : TwoD w B w'' x y N M b1 c1 b2 c2 :=
  ⟨blk_below h.h1 hb, blk_below h.h2 hb, h.l1, h.l2, owns_below h.o1 hb, owns_below h.o2 hb, below_trans h.bel hb⟩

theorem dec_told2 (d : D) (a : Option Addr) (cap base : Nat) (w : World) (h : w.ownsRow base 42 1 (.slice a (Num.limbs d.m).length cap) (Num.limbs d.m).length (u32s (Num.limbs d.m))) (hl : (Num.limbs d.m).length ≤ 10000000) (he : -3000000 ≤ d.e ∧ d.e ≤ 3000000) (htab : Pow w) :
    Calls Tryz.prog 61 #[decV d a cap] w fun en w' => ∃ a' c', en = .returned (.tuple #[.agg #[.bool (tellR d).1.neg, .slice a' (Num.limbs (tellR d).1.m).length c', .int .i64 (tellR d).1.e], .int .i64 (tellR d).2]) ∧ Below w.heap.size w w' ∧
      w'.ownsRow base 42 1 (.slice a' (Num.limbs (tellR d).1.m).length c') (Num.limbs (tellR d).1.m).length (u32s (Num.limbs (tellR d).1.m)) := by
  refine (dec_told d a cap w ⟨u32_limbs h⟩ hl he htab).mono ?_
  rintro e w' ⟨rfl, hb⟩
  by_cases hf : fitsB d = true
  · rw [if_pos hf, tell_yes hf]
    exact ⟨a, cap, rfl, hb, owns_below h hb⟩
  · rw [if_neg hf, tell_no hf]
    exact ⟨none, 0, rfl, hb, World.ownsRow_nil _ _ _ _⟩

/-- What is held of the world while a statement goes on that reads one cell and ends with a store into block R. -/
theorem keepQ {W0 W w1 : World} {N R : Nat} {x : Value} (h : W.cell? ⟨N, 0, none⟩ = some x ∧ W.frozen? ⟨R, 0, none⟩ = false ∧ W.frozen? ⟨R, 1, none⟩ = false ∧ W.frozen? ⟨R, 2, none⟩ = false ∧ Cells3 W R ∧ But R W0 W) (hb : Below W.heap.size W w1) :
    w1.cell? ⟨N, 0, none⟩ = some x ∧ w1.frozen? ⟨R, 0, none⟩ = false ∧ w1.frozen? ⟨R, 1, none⟩ = false ∧ w1.frozen? ⟨R, 2, none⟩ = false ∧ Cells3 w1 R ∧ But R W0 w1 := by
  obtain ⟨h0, _, _, _, h6, h7⟩ := h
  have c6 := h6.below hb
  exact ⟨((bcell hb).1 _ _ (cell_lt h0)).trans h0, c6.frozen 0, c6.frozen 1, c6.frozen 2, c6, h7.step hb⟩
theorem keepQs {W0 W : World} {N R : Nat} {x : Value} (h : W.cell? ⟨N, 0, none⟩ = some x ∧ W.frozen? ⟨R, 0, none⟩ = false ∧ W.frozen? ⟨R, 1, none⟩ = false ∧ W.frozen? ⟨R, 2, none⟩ = false ∧ Cells3 W R ∧ But R W0 W) (p q r : Value) (hN : N ≠ R) (w1 : World) (hw : w1 = ((W.setCell ⟨R, 0, none⟩ p).setCell ⟨R, 1, none⟩ q).setCell ⟨R, 2, none⟩ r) :
    w1.cell? ⟨N, 0, none⟩ = some x ∧ w1.frozen? ⟨R, 0, none⟩ = false ∧ w1.frozen? ⟨R, 1, none⟩ = false ∧ w1.frozen? ⟨R, 2, none⟩ = false ∧ Cells3 w1 R ∧ But R W0 w1 := by
  subst hw
  obtain ⟨h0, _, _, _, h6, h7⟩ := h
  have c6 := h6.set3 p q r
  have hc : (((W.setCell ⟨R, 0, none⟩ p).setCell ⟨R, 1, none⟩ q).setCell ⟨R, 2, none⟩ r).cell? ⟨N, 0, none⟩ = W.cell? ⟨N, 0, none⟩ := by
    refine World.cell?_of_block ?_
    simp only
    rw [Below.heap_setCell _ _ _ _ hN, Below.heap_setCell _ _ _ _ hN, Below.heap_setCell _ _ _ _ hN]
  exact ⟨hc.trans h0, c6.frozen 0, c6.frozen 1, c6.frozen 2, c6, ((h7.setCell _ _).setCell _ _).setCell _ _⟩

theorem digs_lt {m k : Nat} (h : (Num.digs 10 m).length ≤ k) : m < 10 ^ k := (Num.digs_length_le (by decide)).1 h
theorem digs_shift_le {m p K : Nat} (hm : (Num.digs 10 m).length ≤ 400) (hp : 400 + p ≤ K) : (Num.digs 10 (m * 10 ^ p)).length ≤ K := by
  obtain ⟨k, hk⟩ : ∃ k : Nat, k = 400 := ⟨_, rfl⟩
  rw [← hk] at hm hp
  refine Nat.le_trans ((Num.digs_length_le (k := k + p) (by decide)).2 ?_) hp
  rw [Nat.pow_add]
  exact Nat.mul_lt_mul_of_pos_right (digs_lt hm) (pow_pos10 p)
theorem digs_add_le {X Y K : Nat} (hx : (Num.digs 10 X).length ≤ K) (hy : (Num.digs 10 Y).length ≤ K) : (Num.digs 10 (X + Y)).length ≤ K + 1 := by
  refine (Num.digs_length_le (by decide)).2 ?_
  have h1 := digs_lt hx
  have h2 := digs_lt hy
  rw [Nat.pow_succ]; omega

theorem Cells3.other {W : World} {R N : Nat} (h : Cells3 W R) (hN : N ≠ R) (o : Nat) (u : Value) : Cells3 (W.setCell ⟨N, o, none⟩ u) R := by
  obtain ⟨x, y, z, T, h⟩ := h
  exact ⟨x, y, z, T, by rw [Below.heap_setCell _ _ _ _ (by simpa using Ne.symm hN)]; exact h⟩
theorem plain_bds {g : Bool} {P : Nat} {k : Int} (hP : (Num.digs 10 P).length ≤ 1201) (hk : -10400 ≤ k ∧ k ≤ 10001) : (Num.limbs (plainD g P k).m).length ≤ 10000000 ∧ -3000000 ≤ (plainD g P k).e ∧ (plainD g P k).e ≤ 3000000 := by
  have h1 := plain_e g P k (by omega) (by omega)
  have h2 : (Num.limbs P).length ≤ 134 := limbs_pow hP (by decide)
  have h3 : (Num.limbs (plainD g P k).m).length ≤ 134 := Nat.le_trans (Num.digs_length_mono Num.two_le_B9 (plain_m_le _ _ _)) h2
  exact ⟨by omega, by omega, by omega⟩
theorem limbs_1200 {X : Nat} (h : (Num.digs 10 X).length ≤ 1200) : (Num.limbs X).length ≤ 134 := limbs_pow h (by decide)
theorem digs_sub_le {X Y K : Nat} (hx : (Num.digs 10 X).length ≤ K) : (Num.digs 10 (X - Y)).length ≤ K := Nat.le_trans (Num.digs_length_mono (by decide) (Nat.sub_le _ _)) hx

/-- What is known at the head of what follows 'both'. -/
structure AddAt (w wc : World) (x y : D) (N M : Nat) (b1 : Option Addr) (c1 : Nat) (b2 : Option Addr) (c2 : Nat) : Prop where
  two : TwoD w (w.heap.size + 1 + 1 + 1) wc x y N M b1 c1 b2 c2
  res : Cells3 wc (w.heap.size + 1 + 1)
theorem AddAt.next {w w' w'' : World} {x y : D} {N M c1 c2 : Nat} {b1 b2 : Option Addr} (h : AddAt w w' x y N M b1 c1 b2 c2) (hb : Below w'.heap.size w' w'') : AddAt w w'' x y N M b1 c1 b2 c2 := ⟨h.two.next hb, h.res.below hb⟩

set_option maxRecDepth 100000 in
set_option maxHeartbeats 6400000 in
theorem add_walk (g : Bool) (a : Option Addr) (n cap : Nat) (e : Int) (g2 : Bool) (a2 : Option Addr) (n2 cap2 : Nat) (e2 : Int) (w : World) (htab : Pow w) (x y : D) (er : Nat)
    (CB : ∀ W, Below w.heap.size w W → Calls Tryz.prog 58 #[.agg #[.bool g, .slice a n cap, .int .i64 e], .agg #[.bool g2, .slice a2 n2 cap2, .int .i64 e2]] W (OutDD W x y er))
    (hp : er = 0 → IsPlain x ∧ fitsB x = true ∧ IsPlain y ∧ fitsB y = true) :
    Calls Tryz.prog 29 #[.agg #[.bool g, .slice a n cap, .int .i64 e], .agg #[.bool g2, .slice a2 n2 cap2, .int .i64 e2]] w (OutDE w (binR er (addR x y)).1 (binR er (addR x y)).2) := by
  obtain ⟨r, hr⟩ : ∃ r, r = binR er (addR x y) := ⟨_, rfl⟩
  rw [← hr]
  replace hr := hid hr
  replace CB := hid CB
  replace hp := hid hp
  replace htab := hid htab
  go_enter Tryz.func29, Tryz.ntmps29
  go_upto_region 1 with fail
  go_cut [6, 7, 8] from 14 (fun v6 v7 v8 w' => ∃ N M b1 c1 b2 c2, v6 = .pointer (some ⟨N, 0, none⟩) ∧ v7 = .pointer (some ⟨M, 0, none⟩) ∧ v8 = .int .i64 er ∧ AddAt w w' x y N M b1 c1 b2 c2)
  case first =>
    go_wp2_with fail
    refine (CB.out _ ((((Below.refl _ _).alloc (Nat.le_refl _) _).alloc (by simp) _).alloc (by simp; omega) _)).mono ?_
    rintro e1 w1 ⟨b1, c1, b2, c2, rfl, ho1, ho2⟩
    have HB1 := hid (below_alloc (below_alloc (below_alloc ho1.1)))
    have R3 := hid (show Cells3 w1 (w.heap.size + 1 + 1) from Cells3.below ⟨_, _, _, _, by simpa using blk_new2 (w.alloc _) _ _⟩ ho1.1)
    have I1 := hid ho1
    have I2 := hid ho2
    clear ho1 ho2 CB
    unfold decV
    go_wp2_with fail
    go_meet
    case rel =>
      exact ⟨w1.heap.size, w1.heap.size + 1, b1, c1, b2, c2, rfl, rfl, rfl, TwoD.new HB1.out (by simp) I1.out I2.out, R3.out.below (((Below.refl _ _).alloc (Nat.le_refl _) _).alloc (by simp) _)⟩
  case rest =>
    obtain ⟨N, M, b1, c1, b2, c2, rfl, rfl, rfl, AT⟩ := hcut
    have h1 := blk_three AT.two.h1
    have h2 := blk_three AT.two.h2
    have z1 := blk_lt AT.two.h1
    have z2 := blk_lt AT.two.h2
    have l1 := AT.two.l1
    have l2 := AT.two.l2
    have HN := hid (show N ≠ w.heap.size + 1 + 1 by omega)
    have HM := hid (show M ≠ w.heap.size + 1 + 1 by omega)
    obtain ⟨⟨k0, k1, k2⟩, _⟩ := h1
    obtain ⟨⟨q0, q1, q2⟩, _⟩ := h2
    obtain ⟨r0, r1, r2, p0, p1, p2⟩ := AT.res.get
    have f0 := AT.res.frozen 0
    have f1 := AT.res.frozen 1
    have f2 := AT.res.frozen 2
    replace AT := hid AT
    clear CB
    by_cases h0 : er = 0
    · obtain ⟨px, fx, py, fy⟩ := hp.out h0
      have hne : ((er : Int) != 0) = false := by rw [bne_eq_false_iff_eq]; omega
      have hr1 := hid (show r = addR x y by rw [hr.out]; unfold binR; rw [if_pos h0])
      have bx := plain_bounds px fx
      have bY := plain_bounds py fy
      clear h0 hr hp
      have HPX := hid px
      have HPY := hid py
      have HFX := hid fx
      have HFY := hid fy
      have HBX := hid bx
      have HBY := hid bY
      clear px py fx fy bx bY
      by_cases hx0 : x.m = 0
      · have hl0 : ((Num.limbs x.m).length : Int) = 0 := by have := (limbs_zero_iff x.m).2 hx0; omega
        rw [(limbs_zero_iff x.m).2 hx0] at k1
        have HR := hid (show r = (y, 0) by
          rw [hr1.out]; unfold addR
          rw [sumD_zero_left (by have := HBX.out; omega) (by have := HBY.out; omega) HPY.out hx0, tell_yes HFY.out])
        clear hx0 hl0 hr1
        go_wp2
        refine bodyPost_ret (v := .tuple #[decV y b2 c2, .int .i64 0]) (by simp [results, Tryz.results29, go_sem, p0, p1, p2, decV]) rfl ?_
        rw [HR.out]
        refine ⟨b2, c2, rfl, ?_, ?_⟩
        · exact ((AT.out.two.bel.setCell (by simp only; omega) _).setCell (by simp only; omega) _).setCell (by simp only; omega) _
        · exact owns_mono (owns_set3 (R := w.heap.size + 1 + 1) AT.out.two.o2 (by omega) _ _ _) (by omega)
      · have hlx : (((Num.limbs x.m).length : Int) == 0) = false := by rw [beq_eq_false_iff_ne]; have := limbs_zero_iff x.m; omega
        by_cases hy0 : y.m = 0
        · have hl0 : ((Num.limbs y.m).length : Int) = 0 := by have := (limbs_zero_iff y.m).2 hy0; omega
          rw [(limbs_zero_iff y.m).2 hy0] at q1
          have HR := hid (show r = (x, 0) by
            rw [hr1.out]; unfold addR
            rw [sumD_zero_right (by have := HBX.out; omega) (by have := HBY.out; omega) HPX.out hy0, tell_yes HFX.out])
          clear hx0 hy0 hl0 hr1
          go_wp2
          refine bodyPost_ret (v := .tuple #[decV x b1 c1, .int .i64 0]) (by simp [results, Tryz.results29, go_sem, p0, p1, p2, decV]) rfl ?_
          rw [HR.out]
          refine ⟨b1, c1, rfl, ?_, ?_⟩
          · exact ((AT.out.two.bel.setCell (by simp only; omega) _).setCell (by simp only; omega) _).setCell (by simp only; omega) _
          · exact owns_mono (owns_set3 (R := w.heap.size + 1 + 1) AT.out.two.o1 (by omega) _ _ _) (by omega)
        · have hly : (((Num.limbs y.m).length : Int) == 0) = false := by rw [beq_eq_false_iff_ne]; have := limbs_zero_iff y.m; omega
          have hlx4 := limbs_400 HBX.out.1
          have hly4 := limbs_400 HBY.out.1
          have hex := HBX.out.2
          have hey := HBY.out.2
          have hdx : 1 ≤ (Num.digs 10 x.m).length := Num.length_pos (by decide) hx0
          have hdy : 1 ≤ (Num.digs 10 y.m).length := Num.length_pos (by decide) hy0
          have CX := fun W (hb : Below wc.heap.size wc W) => dec_head x.neg b1 c1 x.e (Num.limbs x.m) W (AT.out.two.i1.u.below hb) (by omega) (by omega) (by rw [Num.worth_limbs]; have := HBX.out; omega) (htab.out.next (below_trans AT.out.two.bel hb))
          have CY := fun W (hb : Below wc.heap.size wc W) => dec_head y.neg b2 c2 y.e (Num.limbs y.m) W (AT.out.two.i2.u.below hb) (by omega) (by omega) (by rw [Num.worth_limbs]; have := HBY.out; omega) (htab.out.next (below_trans AT.out.two.bel hb))
          rw [Num.worth_limbs] at CX CY
          obtain ⟨hX, hhX⟩ : ∃ hX, hX = headD x := ⟨_, rfl⟩
          obtain ⟨hY, hhY⟩ : ∃ hY, hY = headD y := ⟨_, rfl⟩
          rw [show x.e + (Num.digs 10 x.m).length - 1 = hX from hhX.symm] at CX
          rw [show y.e + (Num.digs 10 y.m).length - 1 = hY from hhY.symm] at CY
          have hXb : x.e ≤ hX ∧ hX ≤ 30000 := by have := HBX.out; rw [hhX]; unfold headD; omega
          have hYb : y.e ≤ hY ∧ hY ≤ 30000 := by have := HBY.out; rw [hhY]; unfold headD; omega
          have wr1 : IntKind.i64.wrap (max hX hY - min x.e y.e) = max hX hY - min x.e y.e := by rw [IntKind.wrap_i64]; omega
          replace CX := hid CX
          replace CY := hid CY
          have HX0 := hid hx0
          have HY0 := hid hy0
          replace hhX := hid hhX
          replace hhY := hid hhY
          clear hx0 hy0 hdx hdy hlx4 hly4
          obtain ⟨fb, hfb⟩ : ∃ fb, fb = decide (800 < max hX hY - min x.e y.e) := ⟨_, rfl⟩
          replace hfb := hid hfb
          go_upto_region 8 with fail
          go_cut [6, 7, 49] from 38 (fun v6 v7 v49 w' => v6 = .pointer (some ⟨N, 0, none⟩) ∧ v7 = .pointer (some ⟨M, 0, none⟩) ∧ v49 = .bool fb ∧ Below wc.heap.size wc w')
          case first =>
            go_region_held3 (fun w' => w'.cell? ⟨N, 0, none⟩ = some (.bool x.neg) ∧ w'.cell? ⟨N, 1, none⟩ = some (.slice b1 (Num.limbs x.m).length c1) ∧ w'.cell? ⟨N, 2, none⟩ = some (.int .i64 x.e) ∧ w'.cell? ⟨M, 0, none⟩ = some (.bool y.neg) ∧ w'.cell? ⟨M, 1, none⟩ = some (.slice b2 (Num.limbs y.m).length c2) ∧ w'.cell? ⟨M, 2, none⟩ = some (.int .i64 y.e) ∧ Below wc.heap.size wc w') (first | (exact ⟨k0, k1, k2, q0, q1, q2, (Below.refl _ _).drew⟩) | (exact keepT (by assumption) (Nat.le_refl _) (by assumption)) | assumption) ((first | (go_at_call 59; (with_reducible refine (CX.out _ ?_).mono ?_); (simp only [*]); rintro e w' ⟨rfl, hb⟩) | (go_at_call 59; (with_reducible refine (CY.out _ ?_).mono ?_); (simp only [*]); rintro e w' ⟨rfl, hb⟩)))
            all_goals
              rename_i hHeld
              obtain ⟨_, _, _, _, _, _, hH⟩ := hHeld
              go_wp2_with fail
              go_meet
              case rel => exact ⟨rfl, rfl, by rw [hfb.out], hH⟩
          case rest =>
            obtain ⟨rfl, rfl, rfl, hb⟩ := hcut
            replace AT := hid (AT.out.next hb)
            clear hb k0 k1 k2 q0 q1 q2 p0 p1 p2 f0 f1 f2 z1 z2 CX CY wr1 hlx hly hne
            have h1 := blk_three AT.out.two.h1
            have h2 := blk_three AT.out.two.h2
            have z1 := blk_lt AT.out.two.h1
            have z2 := blk_lt AT.out.two.h2
            obtain ⟨⟨k0, k1, k2⟩, fk, _⟩ := h1
            obtain ⟨⟨q0, q1, q2⟩, _⟩ := h2
            obtain ⟨r0, r1, r2, p0, p1, p2⟩ := AT.out.res.get
            have f0 := AT.out.res.frozen 0
            have f1 := AT.out.res.frozen 1
            have f2 := AT.out.res.frozen 2
            cases fb with
            | true =>
              have hfar : 800 < max hX hY - min x.e y.e := of_decide_eq_true hfb.out.symm
              have HR := hid (show r = (zeroD, 3) by
                rw [hr1.out]; unfold addR
                refine tell_no ?_
                rw [far_two HX0.out HY0.out HPX.out.2 HPY.out.2 HBX.out.1 HBY.out.1 (by omega) (by omega) (by rw [← hhX.out, ← hhY.out]; exact hfar)]
                simp)
              clear hfar hr1 hfb
              go_wp2
              refine bodyPost_ret (v := .tuple #[decV zeroD none 0, .int .i64 3]) (by simp [results, Tryz.results29, go_sem, p0, p1, p2, decV, zeroD]; rfl) rfl ?_
              rw [HR.out]
              refine ⟨none, 0, rfl, ?_, ?_⟩
              · exact ((AT.out.two.bel.setCell (by simp only; omega) _).setCell (by simp only; omega) _).setCell (by simp only; omega) _
              · exact World.ownsRow_nil _ _ _ _
            | false =>
              have hfar : ¬ 800 < max hX hY - min x.e y.e := of_decide_eq_false hfb.out.symm
              obtain ⟨k, hk⟩ : ∃ k, k = min x.e y.e := ⟨_, rfl⟩
              obtain ⟨p, hp⟩ : ∃ p, p = (x.e - k).toNat := ⟨_, rfl⟩
              obtain ⟨q, hq⟩ : ∃ q, q = (y.e - k).toNat := ⟨_, rfl⟩
              have hp8 : p ≤ 800 := by omega
              have hq8 : q ≤ 800 := by omega
              obtain ⟨X, hXe⟩ : ∃ X, X = x.m * 10 ^ p := ⟨_, rfl⟩
              obtain ⟨Y, hYe⟩ : ∃ Y, Y = y.m * 10 ^ q := ⟨_, rfl⟩
              have hXd : (Num.digs 10 X).length ≤ 1200 := by rw [hXe]; exact digs_shift_le HBX.out.1 (by omega)
              have hYd : (Num.digs 10 Y).length ≤ 1200 := by rw [hYe]; exact digs_shift_le HBY.out.1 (by omega)
              have hkb : -10400 ≤ k ∧ k ≤ 10001 := by omega
              have hrs : r = tellR (if x.neg = y.neg then plainD x.neg (X + Y) k else if X < Y then plainD y.neg (Y - X) k else plainD x.neg (X - Y) k) := by
                rw [hr1.out, hXe, hYe, hp, hq, hk]; rfl
              have CL := fun W (hb : Below wc.heap.size wc W) => dec_level x y b1 c1 b2 c2 k p q W (AT.out.two.i1.below hb) (AT.out.two.i2.below hb) (by have := limbs_400 HBX.out.1; omega) (by have := limbs_400 HBY.out.1; omega) hk.symm (by omega) (by omega) (by omega) (by omega)
              rw [← hXe, ← hYe] at CL
              unfold decV at CL
              replace CL := hid CL
              replace hrs := hid hrs
              replace hXd := hid hXd
              replace hYd := hid hYd
              have wb := AT.out.two.bel.size
              clear hfar hfb hr1 hk hp hq hp8 hq8 hXe hYe hhX hhY HX0 HY0 HPX HPY HFX HFY hXb hYb
              go_upto_region 10 with fail
              go_cut [6, 7, 9, 10, 11] from 51 (fun v6 v7 v9 v10 v11 w' => ∃ d1 m1 d2 m2 Bq, v6 = .pointer (some ⟨N, 0, none⟩) ∧ v7 = .pointer (some ⟨M, 0, none⟩) ∧ v9 = .slice d1 (Num.limbs X).length m1 ∧ v10 = .slice d2 (Num.limbs Y).length m2 ∧ v11 = .int .i64 k ∧ Below wc.heap.size wc w' ∧
                N < Bq ∧ w.heap.size + 1 + 1 + 1 ≤ Bq ∧ w'.ownsRow Bq 42 1 (.slice d1 (Num.limbs X).length m1) (Num.limbs X).length (u32s (Num.limbs X)) ∧ w'.ownsRow Bq 42 1 (.slice d2 (Num.limbs Y).length m2) (Num.limbs Y).length (u32s (Num.limbs Y)))
              case first =>
                go_wp2_with fail
                refine (CL.out _ (Below.refl _ _)).mono ?_
                rintro e2 w2 ⟨d1, m1, d2, m2, rfl, hb2, ho1, ho2⟩
                have HB2 := hid hb2
                have HO1 := hid ho1
                have HO2 := hid ho2
                clear hb2 ho1 ho2
                go_wp2_with fail
                go_meet
                case rel => exact ⟨d1, m1, d2, m2, wc.heap.size, rfl, rfl, rfl, rfl, rfl, HB2.out, z1, by omega, HO1.out, HO2.out⟩
              case rest =>
                obtain ⟨d1, m1, d2, m2, Bq, rfl, rfl, rfl, rfl, rfl, hb, hNB, hRB, ho1, ho2⟩ := hcut
                replace AT := hid (AT.out.next hb)
                have HO1 := hid ho1
                have HO2 := hid ho2
                clear hb k0 k1 k2 q0 q1 q2 p0 p1 p2 f0 f1 f2 fk z1 z2 CL wb ho1 ho2
                have wb := AT.out.two.bel.size
                have h1 := blk_three AT.out.two.h1
                have h2 := blk_three AT.out.two.h2
                have z1 := blk_lt AT.out.two.h1
                have z2 := blk_lt AT.out.two.h2
                obtain ⟨⟨k0, k1, k2⟩, fk, _⟩ := h1
                obtain ⟨⟨q0, q1, q2⟩, _⟩ := h2
                obtain ⟨r0, r1, r2, p0, p1, p2⟩ := AT.out.res.get
                have f0 := AT.out.res.frozen 0
                have f1 := AT.out.res.frozen 1
                have f2 := AT.out.res.frozen 2
                have R3 := hid AT.out.res
                obtain ⟨wl, rfl⟩ : ∃ wl : World, wl = wc := ⟨_, rfl⟩
                go_upto_block 1 with fail
                go_cut [6, 9, 10, 11] from 58 (fun v6 v9 v10 v11 w' => ∃ gz U V dU mU dV mV, v6 = .pointer (some ⟨N, 0, none⟩) ∧ v9 = .slice dU (Num.limbs U).length mU ∧ v10 = .slice dV (Num.limbs V).length mV ∧ v11 = .int .i64 k ∧ V ≤ U ∧ r = tellR (plainD gz (U - V) k) ∧ (Num.digs 10 U).length ≤ 1200 ∧ w'.cell? ⟨N, 0, none⟩ = some (.bool gz) ∧ Cells3 w' (w.heap.size + 1 + 1) ∧ Below w.heap.size w w' ∧
                  w'.ownsRow Bq 42 1 (.slice dU (Num.limbs U).length mU) (Num.limbs U).length (u32s (Num.limbs U)) ∧ w'.ownsRow Bq 42 1 (.slice dV (Num.limbs V).length mV) (Num.limbs V).length (u32s (Num.limbs V)))
                case first =>
                  have HTB : ∀ W, But (w.heap.size + 1 + 1) wl W → Pow W := fun W hW => htab.out.next (hW.below AT.out.two.bel (by omega) AT.out.two.bel.size)
                  by_cases hs : x.neg = y.neg
                  · have hbe : (x.neg == y.neg) = true := by simpa using hs
                    obtain ⟨gx, hgx⟩ : ∃ gx, gx = x.neg := ⟨_, rfl⟩
                    obtain ⟨P, hP⟩ : ∃ P, P = X + Y := ⟨_, rfl⟩
                    have hPd : (Num.digs 10 P).length ≤ 1201 := by rw [hP]; exact digs_add_le hXd.out hYd.out
                    have hPl : (Num.limbs P).length ≤ 134 := limbs_pow hPd (by decide)
                    obtain ⟨d, hd⟩ : ∃ d, d = plainD gx P k := ⟨_, rfl⟩
                    have hdb := plain_bds (g := gx) (P := P) (k := k) hPd (by omega)
                    rw [← hd] at hdb
                    have hrd : tellR d = r := by rw [hrs.out, if_pos hs, ← hgx, ← hP, ← hd]
                    have CA := fun W (hW : But (w.heap.size + 1 + 1) wl W) => limb_Add d1 d2 m1 m2 (Num.limbs X) (Num.limbs Y) W (u32_limbs (hW.owns HO1.out (by omega))) (u32_limbs (hW.owns HO2.out (by omega))) (by have := limbs_1200 hXd.out; omega) (by have := limbs_1200 hYd.out; omega)
                    simp only [Num.worth_limbs, ← hP] at CA
                    have CP := fun W (am : Option Addr) (cm : Nat) (hu : U32 W am (Num.limbs P)) (hW : But (w.heap.size + 1 + 1) wl W) => dec_plain gx am cm k (Num.limbs P) W hu (by omega) (by rw [Num.worth_limbs]; omega) (by omega) (HTB W hW)
                    simp only [Num.worth_limbs, ← hd] at CP
                    have CT := fun W (ap : Option Addr) (cp base : Nat) (hi : W.ownsRow base 42 1 (.slice ap (Num.limbs d.m).length cp) (Num.limbs d.m).length (u32s (Num.limbs d.m))) (hW : But (w.heap.size + 1 + 1) wl W) => dec_told2 d ap cp base W hi (by omega) (by omega) (HTB W hW)
                    simp only [hrd] at CT
                    rw [← hgx] at k0 hbe
                    replace CA := hid CA
                    replace CP := hid CP
                    replace CT := hid CT
                    clear hs hgx hP hPd hPl hd hdb hrd HTB
                    go_wp2_with fail
                    go_region_held3 (fun w' => w'.cell? ⟨N, 0, none⟩ = some (.bool gx) ∧ w'.frozen? ⟨w.heap.size + 1 + 1, 0, none⟩ = false ∧ w'.frozen? ⟨w.heap.size + 1 + 1, 1, none⟩ = false ∧ w'.frozen? ⟨w.heap.size + 1 + 1, 2, none⟩ = false ∧ Cells3 w' (w.heap.size + 1 + 1) ∧ But (w.heap.size + 1 + 1) wl w') (first | (exact ⟨k0, f0, f1, f2, R3.out, (But.refl _ _).drew⟩) | (exact keepQ (by assumption) (by assumption)) | (exact keepQs (by assumption) _ _ _ HN.out _ rfl)) ((first | (go_at_call 63; (with_reducible refine (CA.out _ ?_).mono ?_); (simp only [*]); rintro e1 w1 ⟨am, cm, rfl, hb1, ho1⟩; have hu1 := u32_limbs ho1) | (go_at_call 62; (with_reducible refine (CP.out _ _ _ (by assumption) ?_).mono ?_); (simp only [*]); rintro e2 w2 ⟨ap, cp, rfl, ho2⟩; have hb2 := ho2.1; have ho2' := ho2.2) | (go_at_call 61; (with_reducible refine (CT.out _ _ _ _ ho2' ?_).mono ?_); (simp only [*]); rintro e3 w3 ⟨at3, ct3, rfl, hb3, ho3⟩; have hc2 : Cells3 w2 (w.heap.size + 1 + 1) := (by simp only [*]); obtain ⟨_, _, _, s0, s1, s2⟩ := (hc2.below hb3).get; have hc3 := hc2.below hb3)))
                    rename_i hHeld
                    obtain ⟨_, _, _, _, _, hB⟩ := hHeld
                    have hz : wl.heap.size ≤ w1.heap.size := hb1.size
                    have hw := AT.out.two.bel.size
                    have HO := hid (owns_mono (owns_set3 (R := w.heap.size + 1 + 1) ho3 (by omega) (.bool r.1.neg) (.slice at3 (Num.limbs r.1.m).length ct3) (.int .i64 r.1.e)) (show w.heap.size ≤ _ by omega))
                    have HB := hid (hB.below AT.out.two.bel (by omega) AT.out.two.bel.size)
                    clear hB hb1 ho1 hb2 ho2 ho2' hb3 ho3 hu1 hc2 hc3 CA CP CT
                    go_wp2_with fail
                    refine bodyPost_ret (v := .tuple #[decV r.1 at3 ct3, .int .i64 r.2]) (by simp [results, Tryz.results29, go_sem, s0, s1, s2, decV]) rfl ?_
                    exact ⟨at3, ct3, rfl, HB.out, HO.out⟩
                  · have hbe : (x.neg == y.neg) = false := by simpa using hs
                    have CC := limb_Cmp d1 d2 m1 m2 (Num.limbs X) (Num.limbs Y) wl (u32_limbs HO1.out) (u32_limbs HO2.out) (by have := limbs_1200 hXd.out; omega) (by have := limbs_1200 hYd.out; omega)
                    simp only [Num.worth_limbs] at CC
                    by_cases hlt : X < Y
                    · rw [cmpN_lt hlt] at CC
                      have HR := hid (show r = tellR (plainD y.neg (Y - X) k) by rw [hrs.out, if_neg hs, if_pos hlt])
                      have HLT := hid hlt
                      replace CC := hid CC
                      clear hs hlt
                      go_wp2_with fail
                      refine (CC.out).mono ?_
                      rintro e3 w3 ⟨rfl, hb3⟩
                      have k0' : w3.cell? ⟨N, 0, none⟩ = some (.bool x.neg) := ((bcell hb3).1 _ _ z1).trans k0
                      have q0' : w3.cell? ⟨M, 0, none⟩ = some (.bool y.neg) := ((bcell hb3).1 _ _ z2).trans q0
                      have fk' : w3.frozen? ⟨N, 0, none⟩ = false := ((bcell hb3).2 _ _ z1).trans fk
                      have HB3 := hid hb3
                      clear hb3 k0 k1 k2 q0 q1 q2 p0 p1 p2 f0 f1 f2 fk CC
                      go_wp2_with fail
                      go_region
                      all_goals
                        go_wp2_with fail
                        go_meet
                        case rel =>
                          have hb3' := HB3.out
                          have hs3 := hb3'.size
                          refine ⟨y.neg, Y, X, d2, m2, d1, m1, rfl, rfl, rfl, rfl, Nat.le_of_lt HLT.out, HR.out, hYd.out, World.cell?_setCell_same' _ _ _ (by rw [k0']; rfl), ?_, ?_, ?_, ?_⟩
                          · exact (R3.out.below hb3').other HN.out _ _
                          · exact ((below_trans AT.out.two.bel hb3').setCell (by simp only; omega) _).drew
                          · exact ownsRow_setCell_below (owns_below HO2.out hb3') (by simp only; omega) _
                          · exact ownsRow_setCell_below (owns_below HO1.out hb3') (by simp only; omega) _
                    · have hc0 : 0 ≤ cmpN X Y := by unfold cmpN; rw [if_neg hlt]; split <;> omega
                      have HR := hid (show r = tellR (plainD x.neg (X - Y) k) by rw [hrs.out, if_neg hs, if_neg hlt])
                      have HLT := hid hlt
                      obtain ⟨c, hc⟩ : ∃ c, c = cmpN X Y := ⟨_, rfl⟩
                      rw [← hc] at CC hc0
                      replace CC := hid CC
                      clear hs hlt hc
                      go_wp2_with fail
                      refine (CC.out).mono ?_
                      rintro e3 w3 ⟨rfl, hb3⟩
                      have k0' : w3.cell? ⟨N, 0, none⟩ = some (.bool x.neg) := ((bcell hb3).1 _ _ z1).trans k0
                      have HB3 := hid hb3
                      clear hb3 k0 k1 k2 q0 q1 q2 p0 p1 p2 f0 f1 f2 fk CC
                      go_wp2_with fail
                      go_meet
                      case rel =>
                        have hb3' := HB3.out
                        exact ⟨x.neg, X, Y, d1, m1, d2, m2, rfl, rfl, rfl, rfl, Nat.le_of_not_lt HLT.out, HR.out, hXd.out, k0', R3.out.below hb3', below_trans AT.out.two.bel hb3', owns_below HO1.out hb3', owns_below HO2.out hb3'⟩
                case rest =>
                  obtain ⟨gz, U, V, dU, mU, dV, mV, rfl, rfl, rfl, rfl, hVU, hrd, hUd, kz, R5, hb5, oU, oV⟩ := hcut
                  have hPd : (Num.digs 10 (U - V)).length ≤ 1201 := Nat.le_trans (digs_sub_le hUd) (by omega)
                  have hPl : (Num.limbs (U - V)).length ≤ 134 := limbs_pow hPd (by decide)
                  have CS := limb_Sub dU dV mU mV (Num.limbs U) (Num.limbs V) wc (u32_limbs oU) (u32_limbs oV) (by have := limbs_1200 hUd; omega) (by have h1 := limbs_1200 hUd; have h2 : (Num.limbs V).length ≤ (Num.limbs U).length := Num.digs_length_mono Num.two_le_B9 hVU; omega) (by rw [Num.worth_limbs, Num.worth_limbs]; exact hVU)
                  simp only [Num.worth_limbs] at CS
                  obtain ⟨P, hP⟩ : ∃ P, P = U - V := ⟨_, rfl⟩
                  rw [← hP] at CS hrd hPd hPl
                  obtain ⟨d, hd⟩ : ∃ d, d = plainD gz P k := ⟨_, rfl⟩
                  have hdb := plain_bds (g := gz) (P := P) (k := k) hPd (by omega)
                  rw [← hd] at hdb hrd
                  have CP := fun W (am : Option Addr) (cm : Nat) (hu : U32 W am (Num.limbs P)) (hb : Below w.heap.size w W) => dec_plain gz am cm k (Num.limbs P) W hu (by omega) (by rw [Num.worth_limbs]; omega) (by omega) (htab.out.next hb)
                  simp only [Num.worth_limbs, ← hd] at CP
                  have CT := fun W (ap : Option Addr) (cp base : Nat) (hi : W.ownsRow base 42 1 (.slice ap (Num.limbs d.m).length cp) (Num.limbs d.m).length (u32s (Num.limbs d.m))) (hb : Below w.heap.size w W) => dec_told2 d ap cp base W hi (by omega) (by omega) (htab.out.next hb)
                  simp only [← hrd] at CT
                  replace CS := hid CS
                  replace CP := hid CP
                  replace CT := hid CT
                  have HB5 := hid hb5
                  have HR5 := hid R5
                  have w5 := hb5.size
                  clear hP hPd hPl hd hdb hrd hUd hVU oU oV hb5 R5 p0 p1 p2 f0 f1 f2 fk k0 k1 k2 q0 q1 q2
                  go_wp2_with fail
                  refine (CS.out).mono ?_
                  rintro e6 w6 ⟨as6, cs6, rfl, hb6, ho6⟩
                  have HU6 := hid (u32_limbs ho6)
                  have kz6 : w6.cell? ⟨N, 0, none⟩ = some (.bool gz) := ((bcell hb6).1 _ _ (cell_lt kz)).trans kz
                  have HB6 := hid (below_trans HB5.out hb6)
                  have HR6 := hid (HR5.out.below hb6)
                  clear hb6 ho6 CS kz HB5 HR5
                  go_wp2_with fail
                  refine (CP.out _ _ _ HU6.out HB6.out).mono ?_
                  rintro e7 w7 ⟨ap7, cp7, rfl, ho7⟩
                  have HO7 := hid ho7.2
                  have HB7 := hid (below_trans HB6.out ho7.1)
                  have HR7 := hid (HR6.out.below ho7.1)
                  have hz6 := HB6.out.size
                  have hz7 : w.heap.size + 1 + 1 < w6.heap.size := by obtain ⟨_, _, _, _, hh⟩ := HR6.out; exact blk_lt hh
                  clear ho7 HU6 kz6 CP HR6
                  go_wp2_with fail
                  refine (CT.out _ _ _ _ HO7.out HB7.out).mono ?_
                  rintro e8 w8 ⟨at8, ct8, rfl, hb8, ho8⟩
                  have HB8 := hid (below_trans HB7.out hb8)
                  have HR8 := hid (HR7.out.below hb8)
                  have HO8 := hid ho8
                  clear hb8 ho8 HO7 HB7 HR7 CT
                  obtain ⟨_, _, _, s0, s1, s2⟩ := HR8.out.get
                  have g0 := HR8.out.frozen 0
                  have g1 := HR8.out.frozen 1
                  have g2 := HR8.out.frozen 2
                  go_wp2
                  refine bodyPost_ret (v := .tuple #[decV r.1 at8 ct8, .int .i64 r.2]) (by simp [results, Tryz.results29, go_sem, s0, s1, s2, decV]) rfl ?_
                  refine ⟨at8, ct8, rfl, ?_, ?_⟩
                  · exact ((HB8.out.setCell (by simp only; omega) _).setCell (by simp only; omega) _).setCell (by simp only; omega) _
                  · exact owns_mono (owns_set3 (R := w.heap.size + 1 + 1) HO8.out hz7 _ _ _) hz6
    · have hne : ((er : Int) != 0) = true := by rw [bne_iff_ne]; omega
      have HR := hid (show r = (zeroD, er) by rw [hr.out]; unfold binR; rw [if_neg h0])
      clear h0 hp hr
      go_wp2
      refine bodyPost_ret (v := .tuple #[decV zeroD none 0, .int .i64 er]) (by simp [results, Tryz.results29, go_sem, p0, p1, p2, decV, zeroD]; rfl) rfl ?_
      rw [HR.out]
      refine ⟨none, 0, rfl, ?_, ?_⟩
      · exact ((AT.out.two.bel.setCell (by simp only; omega) _).setCell (by simp only; omega) _).setCell (by simp only; omega) _
      · exact World.ownsRow_nil _ _ _ _

theorem dec_Add (g : Bool) (a : Option Addr) (cap : Nat) (e : Int) (xs : List Nat) (g2 : Bool) (a2 : Option Addr) (cap2 : Nat) (e2 : Int) (ys : List Nat) (w : World) (h : U32 w a xs) (h2 : U32 w a2 ys) (htab : Pow w) :
    Calls Tryz.prog 29 #[.agg #[.bool g, .slice a xs.length cap, .int .i64 e], .agg #[.bool g2, .slice a2 ys.length cap2, .int .i64 e2]] w
      (OutDE w (binR (bothE (takenE g xs.length (Num.worth xs) e) (takenE g2 ys.length (Num.worth ys) e2)) (addR (takenD g xs.length (Num.worth xs) e) (takenD g2 ys.length (Num.worth ys) e2))).1
        (binR (bothE (takenE g xs.length (Num.worth xs) e) (takenE g2 ys.length (Num.worth ys) e2)) (addR (takenD g xs.length (Num.worth xs) e) (takenD g2 ys.length (Num.worth ys) e2))).2) := by
  refine add_walk g a xs.length cap e g2 a2 ys.length cap2 e2 w htab _ _ _ (fun W hb => dec_both g a cap e xs g2 a2 cap2 e2 ys W (h.below hb) (h2.below hb) (htab.next hb)) ?_
  intro h0
  obtain ⟨z1, z2⟩ := bothE_zero h0
  have q1 := taken_facts z1
  have q2 := taken_facts z2
  exact ⟨q1.1, q1.2, q2.1, q2.2⟩

end Go.Proofs.YtiblmkecipoanaaGreatDoor

namespace Go.Proofs.YtiblmkecipoanaaGreatDoor
open Go.RowKit

/-- What holds at the head of a round of 'DivMod': i limbs are left. -/
def DM (W0 : World) (X : List Nat) (y i g pR : Nat) (wr : World) : Prop :=
  ∃ R aR cR, Div W0 X y i R g wr ∧ wr.heap[pR]? = some (.cells #[.slice aR (Num.limbs R).length cR] 22) ∧
    wr.ownsRow (pR + 1) 42 1 (.slice aR (Num.limbs R).length cR) (Num.limbs R).length (u32s (Num.limbs R))
theorem blk_one {w : World} {N : Nat} {x : Value} {T : TypeId} (h : w.heap[N]? = some (.cells #[x] T)) : w.cell? ⟨N, 0, none⟩ = some x ∧ w.frozen? ⟨N, 0, none⟩ = false := ⟨blk_cell h 0, blk_frozen h 0⟩
theorem blk_set {w : World} {N : Nat} {x : Value} {T : TypeId} (h : w.heap[N]? = some (.cells #[x] T)) (u : Value) : (w.setCell ⟨N, 0, none⟩ u).heap[N]? = some (.cells #[u] T) := by
  simp [World.setCell, Array.getElem?_modify, h]
theorem blk_other {w : World} {N M : Nat} {o : Obj} (h : w.heap[N]? = some o) (hN : N ≠ M) (k : Nat) (u : Value) : (w.setCell ⟨M, k, none⟩ u).heap[N]? = some o := by
  rw [Below.heap_setCell _ _ _ _ hN]; exact h
theorem owns_other {w : World} {base : Nat} {e : TypeId} {size : Nat} {v : Value} {n : Nat} {xs : List Value} (h : w.ownsRow base e size v n xs) {p : Nat} {cs : Array Value} {T : TypeId} (hp : w.heap[p]? = some (.cells cs T)) (hT : T ≠ e) (o : Nat) (u : Value) : (w.setCell ⟨p, o, none⟩ u).ownsRow base e size v n xs := by
  refine ⟨h.1, ?_⟩
  rcases h.2 with hn | ⟨g, cap, cur, hv, hb, hg, rest⟩
  · exact .inl hn
  · have hne : g ≠ p := by
      intro e
      subst e
      rw [hg] at hp
      injection hp with hp
      injection hp with _ hp _
      exact hT hp.symm
    exact .inr ⟨g, cap, cur, hv, hb, blk_other hg hne o u, rest⟩
theorem owns_nil_cap {w : World} {base : Nat} {e : TypeId} {n cap m : Nat} {xs : List Value} {a : Option Addr} (h : w.ownsRow base e 1 (.slice a n cap) m xs) : a = none → cap = 0 := by
  rintro rfl
  rcases h.2 with ⟨h', _⟩ | ⟨g, cap', cur, h', _⟩
  · injection h'
  · injection h' with h'; cases h'
section
variable {P : Program} {ops : Array Oper} {o : Oper} {a : Act} {K : Act → World → Prop} {Q : Exit → Act → World → Prop} {E : Prop}
/-- append of a row to a row of the call's own, as one step of a region that draws. -/
theorem step_extend {w : World} {t e : TypeId} {z : Value} {bytes : Nat} (he : SliceOf P t e z bytes) (hg : o.guard = none) (s x : Operand) (hop : o.op = Op.call { callee := Callee.builtin Builtin.append, args := #[s, x], argTypes := #[t, t] })
    (base : Nat) {v : Value} {n : Nat} {xs : List Value} (hown : w.ownsRow base e 1 v n xs) (hs : a.eval s = v) {ao : Option Addr} {m c : Nat} {ys : List Value} (hx : a.eval x = .slice ao m c) (hrow : Row w ao ys) (hl : ys.length = m) (hnone : ao = none → c = 0) (hu : ∀ u ∈ ys, u.oneCell' = true)
    (hm : n + m ≤ maxLen) (hn : (n + m) * bytes ≤ 140737488355328) (hb : base ≤ w.heap.size)
    (hK : ∀ v' w', w'.ownsRow base e 1 v' (n + m) (xs ++ ys) → Below base w w' → K (a.put o.dst v') w') :
    if Region.wanted o (yielded ops a.tmps) = true then Oper.wp P o a w K Q else E := by
  have hw : Region.wanted o (yielded ops a.tmps) = true := by simp [Region.wanted, hg]
  rw [if_pos hw]
  obtain ⟨i, hi, h0, h1, h2⟩ := info_parts he.info
  cases ao with
  | some ad =>
    refine wp_append_own w s x t hop base e i z 1 bytes he.under hi h0 h1 h2 (by rw [he.one]; rfl) (by decide) v n xs hs hown ad m c ys hx (by simpa using hl) ?_ hu hm hn hb ?_
    · intro j u hj
      obtain ⟨b, off, e1, hc⟩ := hrow j u hj
      injection e1 with e1; subst e1
      rw [Addr.add_lit]; exact hc
    · intro v' w' hown' hgrow _
      exact hK v' w' hown' ((Below.refl base w).grown hgrow hb (fun k hk => (hown.lt k hk).1))
  | none =>
    obtain rfl := hnone rfl
    have hys : ys = [] := by
      cases ys with
      | nil => rfl
      | cons y ys => obtain ⟨b, off, e1, _⟩ := hrow 0 y rfl; cases e1
    subst hys
    obtain rfl : m = 0 := by simpa using hl.symm
    have hrun := run_append_owned_none (P := P) (w := w) base t o.type e i 1 he.under hi v n xs hown
    unfold Oper.wp
    simp [execOp, hop, resolve, invoke, builtin, hs, hx, hrun, Result.andThen]
    exact hK v w (by simpa using hown) (Below.refl _ _)
end
theorem limbs_times9 {T y : Nat} (h : T < y * 1000000000) : (Num.limbs T).length ≤ (Num.limbs y).length + 1 := by
  refine limbs_length_le.2 (Nat.lt_of_lt_of_le h ?_)
  rw [Nat.pow_succ]
  exact Nat.mul_le_mul_right _ (Nat.le_of_lt (limbs_length_le.1 (Nat.le_refl _)))
theorem Div.next {w wr w1 : World} {H : List Nat} {P k R g : Nat} (h : Div w H P k R g wr) (hb : Below wr.heap.size wr w1) : Div w H P k R g w1 := by
  obtain ⟨L, h1, h2, h3, h4, h5, h6⟩ := h
  exact ⟨L, h1, h2, h3, h4, owns_below h5 hb, below_trans h6 hb⟩
theorem Div.other {w wr : World} {H : List Nat} {P k R g : Nat} (h : Div w H P k R g wr) {p : Nat} {cs : Array Value} {T : TypeId} (hp : wr.heap[p]? = some (.cells cs T)) (hT : T ≠ 42) (hle : w.heap.size ≤ p) (o : Nat) (u : Value) : Div w H P k R g (wr.setCell ⟨p, o, none⟩ u) := by
  obtain ⟨L, h1, h2, h3, h4, h5, h6⟩ := h
  exact ⟨L, h1, h2, h3, h4, owns_other h5 hp hT o u, h6.setCell (by simpa using hle) _⟩
theorem limbs_snoc (x R : Nat) : Num.worth (x :: Num.limbs R) = x + R * 1000000000 := by
  show Num.val Num.B9 (x :: Num.limbs R) = _
  rw [Num.val_cons, show Num.val Num.B9 (Num.limbs R) = R from Num.worth_limbs R, Num.B9_eq, Nat.mul_comm]

set_option maxRecDepth 100000 in
set_option maxHeartbeats 6400000 in
theorem limb_DivMod (a a2 : Option Addr) (cap cap2 : Nat) (xs ys : List Nat) (w : World) (h : U32 w a xs) (h2 : U32 w a2 ys) (hn : xs.length ≤ 100000) (hn2 : ys.length ≤ 100000) (h0 : Num.worth ys ≠ 0) :
    Calls Tryz.prog 38 #[.slice a xs.length cap, .slice a2 ys.length cap2] w (OutUUE w (Num.limbs (Num.worth xs / Num.worth ys)) (Num.limbs (Num.worth xs % Num.worth ys)) 0) := by
  have C1 := fun W (hb : Below w.heap.size w W) => limb_Norm a cap xs W (h.below hb) (by omega)
  have C2 := fun W (hb : Below w.heap.size w W) => limb_Norm a2 cap2 ys W (h2.below hb) (by omega)
  have lx := worth_lt h.lt hn
  have ly := worth_lt h2.lt hn2
  obtain ⟨x, hx⟩ : ∃ x, x = Num.worth xs := ⟨_, rfl⟩
  obtain ⟨y, hy⟩ : ∃ y, y = Num.worth ys := ⟨_, rfl⟩
  rw [← hx] at C1 lx ⊢
  rw [← hy] at C2 ly h0 ⊢
  unfold OutU at C1 C2
  obtain ⟨X, hX⟩ : ∃ X, X = Num.limbs x := ⟨_, rfl⟩
  obtain ⟨n, hn'⟩ : ∃ n, n = X.length := ⟨_, rfl⟩
  have hX9 : ∀ d ∈ X, d < 1000000000 := by rw [hX]; exact Num.limbs_lt x
  have hXw : Num.val Num.B9 X = x := by rw [hX]; exact Num.worth_limbs x
  rw [← hX] at C1 lx
  rw [← hn'] at C1 lx
  have HN := hid hn'
  have HX9 := hid hX9
  have HXW := hid hXw
  clear hn' hX9 hXw hX
  replace C1 := hid C1
  replace C2 := hid C2
  have hy1 : 1 ≤ (Num.limbs y).length := Num.length_pos Num.two_le_B9 h0
  clear h h2 hx hy
  go_enter Tryz.func38, Tryz.ntmps38
  go_upto_region 1 with fail
  go_cut [7, 8] from 13 (fun v7 v8 w' => ∃ a1 c1 a3 c3 p, v7 = .slice a1 n c1 ∧ v8 = .pointer (some ⟨p, 0, none⟩) ∧ w'.heap[p]? = some (.cells #[.slice a3 (Num.limbs y).length c3] 22) ∧ U32 w' a1 X ∧ U32 w' a3 (Num.limbs y) ∧ Below w.heap.size w w')
  case first =>
    go_wp2_with fail
    refine (C1.out _ (Below.refl _ _)).mono ?_
    rintro e1 w1 ⟨a1, c1, rfl, hb1, ho1⟩
    have HB1 := hid hb1
    have HO1 := hid ho1
    clear hb1 ho1
    go_wp2_with fail
    refine (C2.out _ HB1.out).mono ?_
    rintro e2 w2 ⟨a3, c3, rfl, hb2, ho2⟩
    have HB2 := hid hb2
    have HO2 := hid ho2
    clear hb2 ho2
    go_wp2_with fail
    go_meet
    case rel =>
      have k := (Below.refl w2.heap.size w2).alloc (Nat.le_refl _) (.cells #[.slice a3 (Num.limbs y).length c3] 22)
      exact ⟨a1, c1, a3, c3, w2.heap.size, rfl, rfl, blk_new w2 _, ((⟨owned_row HO1.out, fun d hd => by have := HX9.out d hd; omega⟩ : U32 w1 a1 X).below HB2.out).below k, (u32_limbs HO2.out).below k, below_trans (below_trans HB1.out HB2.out) k⟩
  case rest =>
    obtain ⟨a1, c1, a3, c3, pY, rfl, rfl, hpY, hu1, hu3, hb⟩ := hcut
    obtain ⟨W0, rfl⟩ : ∃ W, W = wc := ⟨_, rfl⟩
    have hlz : (((Num.limbs y).length : Int) == 0) = false := by rw [beq_eq_false_iff_ne]; omega
    have HB := hid hb
    have HY := hid hpY
    have HU1 := hid hu1
    have HU3 := hid hu3
    have cY := (blk_one hpY).1
    have ltY := blk_lt hpY
    clear hb hpY hu1 hu3 C1 C2 hn hn2
    go_wp2_with (at_make; refine wpList_full Tryz.u32Slice rfl _ _ rfl n rfl rfl rfl rfl (by omega) (by unfold maxLen; omega) ?_; intro w1 hown hb1)
    have HOQ := hid hown
    have HGE := hb1.size
    have HG1 : W0.heap.size < w1.heap.size := (hown.lt _ rfl).2
    have HB1 := hid hb1
    clear hown hb1
    go_loopw [11, 12] (fun v11 _ wr => ∃ i : Nat, i ≤ n ∧ v11 = .int .i64 ((i : Int) - 1) ∧ DM W0 X y i W0.heap.size w1.heap.size wr) (fun v11 _ _ => (intOf v11 + 1).toNat)
    case atStart =>
      have k := (Below.refl w1.heap.size w1).alloc (Nat.le_refl _) (.cells #[.slice none 0 0] 22)
      have hoq : w1.ownsRow W0.heap.size 42 1 (.slice (some ⟨W0.heap.size, 0, none⟩) X.length X.length) X.length (u32s (List.replicate n 0)) := by rw [← HN.out]; simpa [u32s] using HOQ.out
      refine ⟨n, Nat.le_refl _, rfl, 0, none, 0, ⟨List.replicate n 0, by simp [HN.out], fun d hd => by have := List.eq_of_mem_replicate hd; omega, ?_, by omega, owns_below hoq k, below_trans HB1.out k⟩, blk_new w1 _, World.ownsRow_nil _ _ _ _⟩
      rw [List.drop_of_length_le (Nat.le_of_eq HN.out.symm), List.drop_of_length_le (by simp)]
      simp [Num.val_nil]
    case round =>
      obtain ⟨i, hi, rfl, R, aR, cR, ⟨L, hL, hL9, hval, hRy, hoQ, hbel⟩, hpR, hoR⟩ := hrel
      cases i with
      | zero =>
        have hxq : x = Num.worth L * y + R := by
          have := hval
          rw [List.drop_zero, List.drop_zero, HXW.out] at this
          exact this
        have hq1 : x / y = Num.worth L := by
          rw [hxq, Nat.mul_comm, Nat.mul_add_div (by omega), Nat.div_eq_of_lt hRy, Nat.add_zero]
        have hr1 : x % y = R := by
          rw [hxq, Nat.mul_comm, Nat.mul_add_mod, Nat.mod_eq_of_lt hRy]
        have hCTq : ∀ W, W.ownsRow W0.heap.size 42 1 (.slice (some ⟨W0.heap.size, 0, none⟩) n n) n (u32s L) → Below W0.heap.size W0 W → Calls Tryz.prog 79 #[.slice (some ⟨W0.heap.size, 0, none⟩) n n] W fun e w' => OutU W0 (Num.limbs (Num.worth L)) e w' ∧ W = w' :=
          fun W ho hb => limb_trim_same (some ⟨W0.heap.size, 0, none⟩) n n L W0 W (by rw [hL, HN.out]) hL9 ho hb
        have hoQ2 := hoQ
        rw [← HN.out] at hoQ2
        have CTq := hid hCTq
        have HOQ2 := hid hoQ2
        have HBEL := hid hbel
        have HOR := hid hoR
        have HQ1 := hid hq1
        have HR1 := hid hr1
        obtain ⟨cR1, fR1⟩ := blk_one hpR
        have hltR := blk_lt hpR
        clear hxq hq1 hr1 hCTq hoQ hoQ2 hbel hoR hval hL9 hpR
        go_wp2_with fail
        go_region_law (go_simp; go_at_call 79; refine (CTq.out _ HOQ2.out.drew HBEL.out.drew).mono ?_; rintro e4 w4 ⟨⟨aq, cq, rfl, hb4, ho4⟩, rfl⟩)
        all_goals
          have HO4 := hid ho4
          have HB4 := hid hb4
          clear ho4 hb4 CTq
          go_wp2
          refine bodyPost_ret (v := .tuple #[.slice aq (Num.limbs (Num.worth L)).length cq, .slice aR (Num.limbs R).length cR, .int .i64 0]) (by simp [results, Tryz.results38, go_sem]) rfl ?_
          rw [HQ1.out, HR1.out]
          have hle := HB.out.size
          exact ⟨aq, cq, aR, cR, rfl, below_trans HB.out HB4.out, owns_mono HO4.out hle, owns_mono HOR.out.drew (by omega)⟩
      | succ j =>
        have hji : ((j + 1 : Nat) : Int) - 1 = (j : Int) := by omega
        rw [hji]
        have hXl : j < X.length := by rw [← HN.out]; omega
        have hne : X ≠ [] := fun e => by rw [e] at hXl; simp at hXl
        obtain ⟨b1, o1, rfl⟩ := HU1.out.isSome hne
        have hcx := (HU1.out.below hbel).row.u32 hXl
        obtain ⟨d, hd⟩ : ∃ d, d = X.getD j 0 := ⟨_, rfl⟩
        rw [← hd] at hcx
        have hd9 : d < 1000000000 := by rw [hd]; exact HX9.out _ (by rw [List.getD_eq_getElem?_getD, List.getElem?_eq_getElem hXl]; simp)
        obtain ⟨cR1, fR1⟩ := blk_one hpR
        have hcY := (bcell hbel).1 pY 0 ltY
        rw [cY] at hcY
        have lR : (Num.limbs R).length ≤ 100000 + 1 := Nat.le_trans (Num.digs_length_mono Num.two_le_B9 (Nat.le_of_lt hRy)) ly
        have hjn : j < n := by omega
        have hrowR := hid (owned_row hoR)
        have hnoR := hid (owns_nil_cap hoR)
        have HPR := hid hpR
        have HBEL := hid hbel
        have HOQ2 := hid hoQ
        have HVAL := hid hval
        have HL9 := hid hL9
        have HD := hid hd
        have hltR := blk_lt hpR
        have hltb := cell_lt hcx
        clear hpR hoR hbel hoQ hval hL9 hd hne hji HOQ HB1
        have hge1 : W0.heap.size ≤ w1.heap.size := HGE
        have hCTr : ∀ (a' : Option Addr) (c' : Nat) (w3 : World), w3.ownsRow wr.heap.size 42 1 (.slice a' (1 + (Num.limbs R).length) c') (1 + (Num.limbs R).length) (u32s (d :: Num.limbs R)) → Below wr.heap.size wr w3 →
            Calls Tryz.prog 79 #[.slice a' (1 + (Num.limbs R).length) c'] w3 fun e w' => OutU wr (Num.limbs (d + R * 1000000000)) e w' ∧ w3 = w' := by
          intro a' c' w3 ho hb
          have := limb_trim_same a' (1 + (Num.limbs R).length) c' (d :: Num.limbs R) wr w3 (by simp; omega) (fun x hx => by
            rcases List.mem_cons.1 hx with h | h
            · omega
            · exact Num.limbs_lt R x h) ho hb
          rwa [limbs_snoc] at this
        have CTr := hid hCTr
        clear hCTr
        go_upto_region 9 with fail
        go_cut [] from 26 to 52 (fun w' => ∃ aT cT, w'.heap[w1.heap.size]? = some (.cells #[.slice aT (Num.limbs (d + R * 1000000000)).length cT] 22) ∧ w'.ownsRow (w1.heap.size + 1) 42 1 (.slice aT (Num.limbs (d + R * 1000000000)).length cT) (Num.limbs (d + R * 1000000000)).length (u32s (Num.limbs (d + R * 1000000000))) ∧
          w'.ownsRow W0.heap.size 42 1 (.slice (some ⟨W0.heap.size, 0, none⟩) X.length X.length) X.length (u32s L) ∧ Below W0.heap.size W0 w')
        case first =>
          go_region_law (first | (go_simp; go_at_call 79; refine (CTr.out _ _ _ (by simpa [u32s] using hown') hbW).mono ?_; rintro e2 w4 ⟨⟨aT, cT, rfl, hbT, hoT⟩, rfl⟩) | (refine step_extend Tryz.u32Slice rfl _ _ rfl wr.heap.size (World.ownsRow_lit _ _ 1 (by simp) (by unfold maxLen; omega) rfl) (by simp [Act.eval]) (by simp [Act.eval]) (hrowR.out.below (((Below.refl _ _).drew).alloc (Nat.le_refl _) _)) (length_u32s _) hnoR.out (u32s_one _) (by unfold maxLen; omega) (by omega) (by simp) ?_; intro v' w3 hown' hb'; have hbW := (((Below.refl wr.heap.size wr).drew).alloc (Nat.le_refl _) _).trans hb'; have cR3 := cR1; rw [← (bcell hbW).1 _ _ hltR] at cR3; have fR3 := fR1; rw [← (bcell hbW).2 _ _ hltR] at fR3; obtain ⟨a', c', rfl, _, _⟩ := owns_row hown'))
          all_goals
            have HOT := hid hoT
            have HBW := hid hbW
            have hltW := hbW.size
            clear hoT hbT hown' hb' hbW CTr
            go_wp2_with fail
            go_meet
            case rel =>
              have hge := HBEL.out.size
              exact ⟨aT, cT, blk_set (blk_below HPR.out HBW.out) _, owns_mono (ownsRow_setCell_below HOT.out (by simpa using hltR) _) hltR, owns_other (owns_below HOQ2.out HBW.out) (blk_below HPR.out HBW.out) (by decide) _ _, (below_trans HBEL.out HBW.out).setCell (by simpa using hge1) _⟩
        case rest =>
          obtain ⟨aT, cT, hpT, hoT, hoQ, hbel⟩ := hcut
          clear HBEL HOQ2 HPR hrowR hnoR CTr hltR cR1 fR1 hcx hltb hcY
          obtain ⟨T, hT⟩ : ∃ T, T = d + R * 1000000000 := ⟨_, rfl⟩
          rw [← hT] at hpT hoT
          have hTy : T < y * 1000000000 := by
            have h1 : (R + 1) * 1000000000 ≤ y * 1000000000 := Nat.mul_le_mul_right _ hRy
            rw [hT]; omega
          have hq9 : T / y < 1000000000 := (Nat.div_lt_iff_lt_mul (by omega)).2 (by rw [Nat.mul_comm]; exact hTy)
          have hqm : T = y * (T / y) + T % y := (Nat.div_add_mod T y).symm
          have hrm : T % y < y := Nat.mod_lt _ (by omega)
          obtain ⟨q, hq⟩ : ∃ q, q = T / y := ⟨_, rfl⟩
          obtain ⟨r, hr⟩ : ∃ r, r = T % y := ⟨_, rfl⟩
          rw [← hq, ← hr] at hqm
          rw [← hq] at hq9
          rw [← hr] at hrm
          have lT : (Num.limbs T).length ≤ 100000 + 3 := by
            have := limbs_times9 hTy
            omega
          have hcY := (bcell hbel).1 pY 0 ltY
          rw [cY] at hcY
          obtain ⟨cR1, fR1⟩ := blk_one hpT
          have hltR := blk_lt hpT
          have hCS : Calls Tryz.prog 80 #[.int .i64 1000000000, .func (.func 81) #[] #[.pointer (some ⟨pY, 0, none⟩), .pointer (some ⟨w1.heap.size, 0, none⟩)]] wc fun e w' => e = .returned (.int .i64 ((q : Int) + 1)) ∧ Below wc.heap.size wc w' := by
            obtain ⟨N, hN⟩ : ∃ N : Nat, N = 1000000000 := ⟨_, rfl⟩
            rw [show (1000000000 : Int) = (N : Int) by omega]
            refine (sort_Search N 81 #[.pointer (some ⟨pY, 0, none⟩), .pointer (some ⟨w1.heap.size, 0, none⟩)] (fun t => decide (T < y * t)) wc (by omega) (run_callFunc Tryz.func81 (by kernel_rfl) (by kernel_rfl)) ?_ ?_).mono ?_
            · intro t W ht hW
              exact div_probe W pY w1.heap.size c3 cT y T t a3 aT (by rw [(bcell hW).1 _ _ (Nat.lt_of_lt_of_le ltY hbel.size)]; exact hcY) (by rw [(bcell hW).1 _ _ hltR]; exact cR1) ((HU3.out.below hbel).below hW) ((u32_limbs hoT).below hW) (by omega) (by omega) (by omega)
            · intro a b hab _ h1
              have h2 := of_decide_eq_true h1
              exact decide_eq_true (Nat.lt_of_lt_of_le h2 (Nat.mul_le_mul_left _ hab))
            · rintro e w' ⟨k, hk, rfl, h1, h2, h3⟩
              have hk1 : k = q + 1 := by
                have g1 : ¬ k ≤ q := fun hle => by
                  have := of_decide_eq_true (h2 q hle (by omega))
                  omega
                have g2 : ¬ q + 1 < k := fun hlt => by
                  have := of_decide_eq_false (h1 (q + 1) hlt)
                  rw [Nat.mul_succ] at this
                  omega
                omega
              exact ⟨by rw [hk1]; rfl, h3⟩
          replace hCS := hid hCS
          replace hT := hid hT
          replace hq := hid hq
          replace hr := hid hr
          have HBEL := hid hbel
          have HPT := hid hpT
          have HOT := hid hoT
          have HOQ2 := hid hoQ
          clear hbel hpT hoT hoQ
          go_upto_region 10 with fail
          go_cut [12] from 26 to 52 (fun v12 w' => v12 = .int .i64 ((q : Int) + 1) ∧ Below wc.heap.size wc w')
          case first =>
            go_wp2_with fail
            refine hCS.out.mono ?_
            rintro e2 w2 ⟨rfl, hb2⟩
            have HB2 := hid hb2
            clear hb2
            go_wp2_with fail
            go_meet
            case rel => exact ⟨rfl, HB2.out⟩
          case rest =>
            obtain ⟨rfl, hb2⟩ := hcut
            have hbW := hb2
            have hcY2 := (bcell hb2).1 pY 0 (Nat.lt_of_lt_of_le ltY HBEL.out.size)
            rw [hcY] at hcY2
            have hpT2 := blk_below HPT.out hb2
            have hoT2 := owns_below HOT.out hb2
            have hoQ2 := owns_below HOQ2.out hb2
            have hbel2 := below_trans HBEL.out hb2
            have hgf := (World.ownsRow.frozenAt hoQ2 j)
            have hgc := World.ownsRow.cellAt hoQ2 j (by omega)
            obtain ⟨z, hz⟩ := u32s_get (xs := L) (j := j) (by omega)
            rw [hz] at hgc
            have HY2 := hid hcY2
            have HPT2 := hid hpT2
            have HOT2 := hid hoT2
            have HBEL2 := hid hbel2
            have HOQ3 := hid hoQ2
            clear HPT HOT HOQ2 HBEL hcY cR1 fR1 hb2 hbW hpT2 hoT2 hoQ2 hbel2 hCS hcY2 hltR hz
            go_upto_region 11 with fail
            go_cut [] from 26 to 52 (fun w' => w' = wc.setCell ⟨W0.heap.size, j, none⟩ (.int .u32 (q : Int)))
            case first =>
              go_wp2_with fail
              go_meet
              case rel => rfl
            case rest =>
              have hDv := Div.step (w1 := wc) hL HL9.out HVAL.out hRy HOQ3.out HBEL2.out hXl (by rw [← HD.out]; exact hd9) (T := T) (by rw [hT.out, ← HD.out, Nat.add_comm]) (by rw [hcut, hq.out])
              have hne : w1.heap.size ≠ W0.heap.size := by omega
              have hpT3 : wc.heap[w1.heap.size]? = some (.cells #[.slice aT (Num.limbs T).length cT] 22) := by rw [hcut]; exact blk_other HPT2.out hne _ _
              have hoT3 : wc.ownsRow (w1.heap.size + 1) 42 1 (.slice aT (Num.limbs T).length cT) (Num.limbs T).length (u32s (Num.limbs T)) := by rw [hcut]; exact ownsRow_setCell_below HOT2.out (by simp only; omega) _
              rw [← hr.out] at hDv
              obtain ⟨cR1, fR1⟩ := blk_one hpT3
              have hltR := blk_lt hpT3
              have hbel : Below W0.heap.size W0 wc := by obtain ⟨_, _, _, _, _, _, h⟩ := hDv; exact h
              have hcY := (bcell hbel).1 pY 0 ltY
              rw [cY] at hcY
              have hCTm : ∀ W, Below wc.heap.size wc W → Calls Tryz.prog 77 #[.slice a3 (Num.limbs y).length c3, .int .u64 q] W (OutU W (Num.limbs (y * q))) := by
                intro W hb
                have := limb_times a3 c3 q (Num.limbs y) W ((HU3.out.below hbel).below hb) (Num.limbs_lt y) (by omega) (by omega)
                rwa [Num.worth_limbs] at this
              have hCLs : ∀ W a4 c4, Below wc.heap.size wc W → U32 W a4 (Num.limbs (y * q)) → Calls Tryz.prog 83 #[.slice aT (Num.limbs T).length cT, .slice a4 (Num.limbs (y * q)).length c4] W (OutU W (Num.limbs r)) := by
                intro W a4 c4 hb hu
                have := limb_less aT a4 cT c4 T (y * q) W ((u32_limbs hoT3).below hb) hu (by omega) (by omega)
                rwa [show T - y * q = r by omega] at this
              unfold OutU at hCTm hCLs
              have CTm := hid hCTm
              have CLs := hid hCLs
              have HDV := hid hDv
              have HPT := hid hpT3
              clear hCTm hCLs hDv hpT3 hoT3 hcut HPT2 HOT2 HBEL2 HOQ3 hgf hgc HY2 HVAL HL9 HD hT hq hr hbel hL
              replace hqm := hid hqm
              have hwi : IntKind.i64.wrap (q : Int) = (q : Int) := IntWalk.i64_in _ (by omega)
              have hwu : IntKind.u64.wrap (q : Int) = (q : Int) := IntWalk.u64_in _ (by omega)
              go_upto_region 12 with fail
              go_region_law (first | (go_simp; go_at_call 77; refine (CTm.out _ (Below.refl _ _).drew).mono ?_; rintro e4 w4 ⟨a4, c4, rfl, hb4, ho4⟩; have hbW4 := ((Below.refl wc.heap.size wc).drew).trans hb4; have cR4 := cR1; rw [← (bcell hbW4).1 _ _ hltR] at cR4) | (go_simp; go_at_call 83; refine (CLs.out _ _ _ hbW4 (u32_limbs ho4)).mono ?_; rintro e5 w5 ⟨a5, c5, rfl, hb5, ho5⟩; have hbW5 := below_trans hbW4 hb5; have cR5 := cR1; rw [← (bcell hbW5).1 _ _ hltR] at cR5; have fR5 := fR1; rw [← (bcell hbW5).2 _ _ hltR] at fR5))
              all_goals
                have HO5 := hid ho5
                have HB5 := hid hbW5
                have hsz4 := hbW4.size
                clear ho4 ho5 hb4 hb5 hbW4 hbW5 CTm CLs
                go_wp2_with fail
                go_roundw
                case rel =>
                  exact ⟨j, by omega, by go_num, r, a5, c5, (HDV.out.next HB5.out).other (blk_below HPT.out HB5.out) (by decide) hge1 _ _, blk_set (blk_below HPT.out HB5.out) _, owns_mono (ownsRow_setCell_below HO5.out (by simp only; omega) _) (by omega)⟩
                case measure => simp [intOf]

end Go.Proofs.YtiblmkecipoanaaGreatDoor

namespace Go.Proofs.YtiblmkecipoanaaGreatDoor

/-- What a call took, and an error's number. -/
def Tk (er : Nat) (x : D) : Prop := (er = 0 ∧ IsPlain x ∧ fitsB x = true) ∨ (er ≠ 0 ∧ er ≤ 3 ∧ x = zeroD)
theorem fits_zero : fitsB zeroD = true := rfl
theorem tk_taken (g : Bool) (n m : Nat) (e : Int) : Tk (takenE g n m e) (takenD g n m e) := by
  by_cases h : takenE g n m e = 0
  · exact .inl ⟨h, taken_facts h⟩
  · refine .inr ⟨h, ?_, ?_⟩
    · unfold takenE; split <;> (try split) <;> omega
    · rcases takenE_cases g n m e with h1 | h1
      · exact absurd h1 h
      · exact h1.2
theorem Tk.good {er : Nat} {x : D} (h : Tk er x) : IsPlain x ∧ fitsB x = true := by
  rcases h with h | h
  · exact h.2
  · rw [h.2.2]; exact ⟨plain_zero, fits_zero⟩
theorem Tk.le {er : Nat} {x : D} (h : Tk er x) : er ≤ 3 := by rcases h with h | h <;> omega
theorem tell_good {d : D} (h : IsPlain d) : IsPlain (tellR d).1 ∧ fitsB (tellR d).1 = true := by
  unfold tellR; split
  · rename_i hf; exact ⟨h, hf⟩
  · exact ⟨plain_zero, fits_zero⟩
theorem tell_le (d : D) : (tellR d).2 ≤ 3 := by unfold tellR; split <;> simp
theorem tell_zero {d : D} (h : (tellR d).2 = 0) : (tellR d).1 = d := by
  unfold tellR at h ⊢; split
  · rfl
  · rename_i hf; rw [if_neg hf] at h; simp at h
theorem bin_good {er : Nat} {d : D} (h : IsPlain d) : IsPlain (binR er (tellR d)).1 ∧ fitsB (binR er (tellR d)).1 = true := by
  unfold binR; split
  · exact tell_good h
  · exact ⟨plain_zero, fits_zero⟩
theorem bin_le {er : Nat} {d : D} (h : er ≤ 3) : (binR er (tellR d)).2 ≤ 3 := by
  unfold binR; split
  · exact tell_le d
  · exact h
theorem bin_zero {er : Nat} {d : D} (h : (binR er (tellR d)).2 = 0) : er = 0 ∧ (binR er (tellR d)).1 = d := by
  unfold binR at h ⊢; split
  · rename_i h0; rw [if_pos h0] at h; exact ⟨h0, tell_zero h⟩
  · rename_i h0; rw [if_neg h0] at h; exact absurd h h0
theorem bothE_comm {x y : Nat} {a b : D} (hx : Tk x a) (hy : Tk y b) (hxv : x = 0 ∨ x = 1 ∨ x = 3) (hyv : y = 0 ∨ y = 1 ∨ y = 3) : bothE x y = bothE y x := by
  unfold bothE
  rcases hxv with rfl | rfl | rfl <;> rcases hyv with rfl | rfl | rfl <;> rfl
theorem takenE_vals (g : Bool) (n m : Nat) (e : Int) : takenE g n m e = 0 ∨ takenE g n m e = 1 ∨ takenE g n m e = 3 := by unfold takenE; split <;> (try split) <;> simp
theorem bothE_le {x y : Nat} (hx : x ≤ 3) (hy : y ≤ 3) : bothE x y ≤ 3 := by unfold bothE; split <;> (try split) <;> omega

theorem lowE {x : D} (h : IsPlain x ∧ fitsB x = true) : -10400 ≤ x.e := (plain_bounds h.1 h.2).2.1

/-- The order of whole numbers. -/
def cmpI (a b : Int) : Int := if a < b then -1 else if b < a then 1 else 0
theorem cmpI_neg (a b : Int) : cmpI a b = - cmpI b a := by unfold cmpI; split <;> split <;> (try split) <;> omega
theorem cmpN_mul (X Y : Nat) {P : Nat} (h : 0 < P) : cmpN (X * P) (Y * P) = cmpN X Y := by
  unfold cmpN
  have h1 : X * P < Y * P ↔ X < Y := Nat.mul_lt_mul_right h
  have h2 : Y * P < X * P ↔ Y < X := Nat.mul_lt_mul_right h
  simp only [h1, h2]
theorem head_low {m : Nat} (e : Int) (hm : m ≠ 0) (he : -100000 ≤ e) : 10 ^ upE (e + (Num.digs 10 m).length - 1) ≤ m * 10 ^ upE e := by
  have hl := Num.length_pos (b := 10) (by decide) hm
  obtain ⟨k, hk⟩ : ∃ k, (Num.digs 10 m).length = k + 1 := ⟨(Num.digs 10 m).length - 1, by omega⟩
  have h1 : 10 ^ k ≤ m := Num.pow_le_of_lt_length (by decide) (by omega)
  have h2 : upE (e + (Num.digs 10 m).length - 1) = k + upE e := by unfold upE; omega
  rw [h2, Nat.pow_add]
  exact Nat.mul_le_mul_right _ h1
theorem head_high {m : Nat} (e : Int) (he : -100000 ≤ e) : m * 10 ^ upE e < 10 ^ upE (e + (Num.digs 10 m).length) := by
  have h1 : m < 10 ^ (Num.digs 10 m).length := Num.lt_pow_length (by decide) m
  have h2 : upE (e + (Num.digs 10 m).length) = (Num.digs 10 m).length + upE e := by unfold upE; omega
  rw [h2, Nat.pow_add]
  exact Nat.mul_lt_mul_of_pos_right h1 (pow_pos10 _)
theorem size_lt {x y : D} (hx : -100000 ≤ x.e) (hy : -100000 ≤ y.e) (y0 : y.m ≠ 0) (h : headD x < headD y) : x.m * 10 ^ upE x.e < y.m * 10 ^ upE y.e := by
  unfold headD at h
  refine Nat.lt_of_lt_of_le (head_high x.e hx) (Nat.le_trans ?_ (head_low y.e y0 hy))
  exact Nat.pow_le_pow_right (by decide) (by unfold upE; omega)
theorem size_worth {x y : D} (hx : -100000 ≤ x.e) (hy : -100000 ≤ y.e) (x0 : x.m ≠ 0) (y0 : y.m ≠ 0) : sizeC x y = cmpN (x.m * 10 ^ upE x.e) (y.m * 10 ^ upE y.e) := by
  unfold sizeC
  by_cases he : headD x = headD y
  · rw [if_neg (by simpa using he)]
    obtain ⟨k, hk⟩ : ∃ k, k = min x.e y.e := ⟨_, rfl⟩
    rw [← hk, ← level_worth x.m x.e k (by omega) (by omega), ← level_worth y.m y.e k (by omega) (by omega), cmpN_mul _ _ (pow_pos10 _)]
  · rw [if_pos he]
    by_cases hlt : headD x < headD y
    · rw [if_pos hlt, cmpN_lt (size_lt hx hy y0 hlt)]
    · rw [if_neg hlt, cmpN_gt (size_lt hy hx x0 (by omega))]
theorem cmp_core (s t a b z : Int) (X Y : Nat) (hX : 0 < X) (hY : 0 < Y) (hs : s = 1 ∨ s = -1) (ht : t = 1 ∨ t = -1) (ha : a = s * (X : Int)) (hb : b = t * (Y : Int)) (hz : z = cmpN X Y) :
    (if s < t then (-1 : Int) else if t < s then 1 else if s = 0 then 0 else s * z) = cmpI a b := by
  unfold cmpI
  have h3 : (X < Y ∧ z = -1) ∨ (Y < X ∧ z = 1) ∨ (X = Y ∧ z = 0) := by
    unfold cmpN at hz
    by_cases h1 : X < Y
    · exact .inl ⟨h1, by rw [hz, if_pos h1]⟩
    · by_cases h2 : Y < X
      · exact .inr (.inl ⟨h2, by rw [hz, if_neg h1, if_pos h2]⟩)
      · exact .inr (.inr ⟨by omega, by rw [hz, if_neg h1, if_neg h2]⟩)
  clear hz
  rcases hs with rfl | rfl <;> rcases ht with rfl | rfl <;> rcases h3 with ⟨h3, rfl⟩ | ⟨h3, rfl⟩ | ⟨h3, rfl⟩ <;> (repeat (first | omega | split))
theorem cmpR_worth {x y : D} (hx : -100000 ≤ x.e) (hy : -100000 ≤ y.e) : cmpR x y = cmpI (wo x) (wo y) := by
  have sx : signD x = if x.m = 0 then 0 else sgn x.neg := rfl
  have sy : signD y = if y.m = 0 then 0 else sgn y.neg := rfl
  have pos : ∀ (d : D), d.m ≠ 0 → 0 < d.m * 10 ^ upE d.e := fun d h => Nat.mul_pos (by omega) (pow_pos10 _)
  unfold cmpR
  rw [sx, sy]
  by_cases x0 : x.m = 0
  · rw [if_pos x0, (wo_zero_iff x).2 x0]
    by_cases y0 : y.m = 0
    · rw [if_pos y0, (wo_zero_iff y).2 y0]; rfl
    · rw [if_neg y0]
      have hw : wo y = sgn y.neg * ((y.m * 10 ^ upE y.e : Nat) : Int) := rfl
      have := pos y y0
      generalize y.m * 10 ^ upE y.e = Y at *
      rw [hw]
      unfold cmpI
      rcases sgn_cases y.neg with h | h <;> rw [h] <;> (repeat (first | omega | split))
  · rw [if_neg x0]
    by_cases y0 : y.m = 0
    · rw [if_pos y0, (wo_zero_iff y).2 y0]
      have hw : wo x = sgn x.neg * ((x.m * 10 ^ upE x.e : Nat) : Int) := rfl
      have := pos x x0
      generalize x.m * 10 ^ upE x.e = X at *
      rw [hw]
      unfold cmpI
      rcases sgn_cases x.neg with h | h <;> rw [h] <;> (repeat (first | omega | split))
    · rw [if_neg y0]
      exact cmp_core _ _ _ _ _ _ _ (pos x x0) (pos y y0) (sgn_cases _) (sgn_cases _) rfl rfl (size_worth hx hy x0 y0)

theorem cmpR_anti {x y : D} (hx : -100000 ≤ x.e) (hy : -100000 ≤ y.e) : cmpR x y = - cmpR y x := by rw [cmpR_worth hx hy, cmpR_worth hy hx]; exact cmpI_neg _ _
theorem cmpI_cases (a b : Int) : (a < b ∧ cmpI a b = -1) ∨ (b < a ∧ cmpI a b = 1) ∨ (a = b ∧ cmpI a b = 0) := by
  unfold cmpI
  by_cases h1 : a < b
  · exact .inl ⟨h1, if_pos h1⟩
  · by_cases h2 : b < a
    · exact .inr (.inl ⟨h2, by rw [if_neg h1, if_pos h2]⟩)
    · exact .inr (.inr ⟨by omega, by rw [if_neg h1, if_neg h2]⟩)

/- What DecRing says. -/
theorem ring_comm {er er' : Nat} {x y : D} (hx : IsPlain x ∧ fitsB x = true) (hy : IsPlain y ∧ fitsB y = true) (h : er = er') : binR er (addR x y) = binR er' (addR y x) ∧ binR er (mulR x y) = binR er' (mulR y x) := by
  subst h
  have a := lowE hx
  have b := lowE hy
  constructor
  · unfold addR; rw [sumD_comm x y (by omega) (by omega)]
  · unfold mulR; rw [prod_comm]
theorem ring_back {ex ey : Nat} {x y : D} (hx : Tk ex x) (hy : Tk ey y) (h1 : (binR (bothE ex ey) (addR x y)).2 = 0) (h3 : (binR (bothE 0 0) (addR (binR (bothE ex ey) (addR x y)).1 (negD y))).2 = 0) :
    (binR (bothE 0 0) (addR (binR (bothE ex ey) (addR x y)).1 (negD y))).1 = x := by
  unfold addR at h1 h3 ⊢
  obtain ⟨_, e1⟩ := bin_zero h1
  obtain ⟨_, e2⟩ := bin_zero h3
  have a := lowE hx.good
  have b := lowE hy.good
  have gs := bin_good (er := bothE ex ey) (sumD_plain x y)
  have c := lowE gs
  rw [e2]
  refine wo_inj (sumD_plain _ _) hx.good.1 (sumD_e _ _ _ (by omega) (by rw [neg_e]; omega) (by omega)) (by omega) ?_
  rw [wo_sum _ _ (by omega) (by rw [neg_e]; omega), wo_neg, e1, wo_sum _ _ (by omega) (by omega)]
  omega
theorem ring_dist {ex ey ez : Nat} {x y z : D} (hx : Tk ex x) (hy : Tk ey y) (hz : Tk ez z) {ab ac bc one two : D × Nat}
    (e1 : ab = binR (bothE ex ey) (addR x y)) (e2 : ac = binR (bothE ex ez) (mulR x z)) (e3 : bc = binR (bothE ey ez) (mulR y z)) (e4 : one = binR (bothE 0 ez) (mulR ab.1 z)) (e5 : two = binR (bothE 0 0) (addR ac.1 bc.1))
    (h1 : ab.2 = 0) (h2 : ac.2 = 0) (h3 : bc.2 = 0) (h4 : one.2 = 0) (h5 : two.2 = 0) : one.1 = two.1 := by
  have a := lowE hx.good
  have b := lowE hy.good
  have c := lowE hz.good
  have g1 := bin_good (er := bothE ex ey) (sumD_plain x y)
  have g2 := bin_good (er := bothE ex ez) (prod_plain x z)
  have g3 := bin_good (er := bothE ey ez) (prod_plain y z)
  unfold addR mulR at *
  rw [← e1] at g1
  rw [← e2] at g2
  rw [← e3] at g3
  have l1 := lowE g1
  have l2 := lowE g2
  have l3 := lowE g3
  have q1 : ab.1 = sumD x y := by rw [e1] at h1 ⊢; exact (bin_zero h1).2
  have q2 : ac.1 = prodD x z := by rw [e2] at h2 ⊢; exact (bin_zero h2).2
  have q3 : bc.1 = prodD y z := by rw [e3] at h3 ⊢; exact (bin_zero h3).2
  have q4 : one.1 = prodD ab.1 z := by rw [e4] at h4 ⊢; exact (bin_zero h4).2
  have q5 : two.1 = sumD ac.1 bc.1 := by rw [e5] at h5 ⊢; exact (bin_zero h5).2
  have w1 : wo ab.1 = wo x + wo y := by rw [q1]; exact wo_sum _ _ (by omega) (by omega)
  have w2 : wo ac.1 * ((10 ^ topE : Nat) : Int) = wo x * wo z := by rw [q2]; exact wo_prod _ _ (by omega) (by omega)
  have w3 : wo bc.1 * ((10 ^ topE : Nat) : Int) = wo y * wo z := by rw [q3]; exact wo_prod _ _ (by omega) (by omega)
  have w4 : wo one.1 * ((10 ^ topE : Nat) : Int) = wo ab.1 * wo z := by rw [q4]; exact wo_prod _ _ (by omega) (by omega)
  have w5 : wo two.1 = wo ac.1 + wo bc.1 := by rw [q5]; exact wo_sum _ _ (by omega) (by omega)
  have hT : ((10 ^ topE : Nat) : Int) ≠ 0 := by have := pow_pos10 topE; omega
  rw [q4, q5]
  refine wo_inj (prod_plain _ _) (sumD_plain _ _) ?_ (sumD_e _ _ _ (by omega) (by omega) (by omega)) ?_
  · exact plainD_e _ _ _ _ (by omega) (by omega)
  · rw [← q4, ← q5]
    refine Int.eq_of_mul_eq_mul_right hT ?_
    rw [w4, w5, w1, Int.add_mul, Int.add_mul, w2, w3]

/- What DecOrder says. -/
theorem wo_eq_iff {x y : D} (hx : IsPlain x ∧ fitsB x = true) (hy : IsPlain y ∧ fitsB y = true) : x = y ↔ wo x = wo y := by
  have a := lowE hx
  have b := lowE hy
  exact ⟨fun h => by rw [h], fun h => wo_inj hx.1 hy.1 (by omega) (by omega) h⟩
theorem wo_neg_iff {d : D} (h : IsPlain d) : wo d < 0 ↔ d.neg = true := by
  have hw : wo d = sgn d.neg * ((d.m * 10 ^ upE d.e : Nat) : Int) := rfl
  by_cases h0 : d.m = 0
  · rw [h.1 h0]; simp [wo, zeroD]
  · have := Nat.mul_pos (show 0 < d.m by omega) (pow_pos10 (upE d.e))
    generalize d.m * 10 ^ upE d.e = X at *
    rw [hw]
    cases hn : d.neg
    · rw [show sgn false = 1 from rfl]; simp
    · rw [show sgn true = -1 from rfl]; simp; omega
/-- The difference's sign is the order. -/
theorem order_diff2 {x y : D} (hx : IsPlain x ∧ fitsB x = true) (hy : IsPlain y ∧ fitsB y = true) {d : D × Nat} (hd : d = binR (bothE 0 0) (addR x (negD y))) (h : d.2 = 0) :
    (cmpR x y < 0 ↔ d.1.neg = true) ∧ (cmpR x y = 0 ↔ d.1.m = 0) := by
  have a := lowE hx
  have b := lowE hy
  have q : d.1 = sumD x (negD y) := by rw [hd] at h ⊢; unfold addR at h ⊢; exact (bin_zero h).2
  have hp : IsPlain d.1 := by rw [q]; exact sumD_plain _ _
  have hw : wo d.1 = wo x - wo y := by rw [q, wo_sum _ _ (by omega) (by rw [neg_e]; omega), wo_neg]; omega
  rw [cmpR_worth (by omega) (by omega), ← wo_neg_iff hp, ← wo_zero_iff, hw]
  rcases cmpI_cases (wo x) (wo y) with ⟨h1, h2⟩ | ⟨h1, h2⟩ | ⟨h1, h2⟩ <;> rw [h2] <;> constructor <;> constructor <;> intro h3 <;> omega
theorem order_eq {x y : D} (hx : IsPlain x ∧ fitsB x = true) (hy : IsPlain y ∧ fitsB y = true) : cmpR x y = 0 ↔ x = y := by
  have a := lowE hx
  have b := lowE hy
  rw [wo_eq_iff hx hy, cmpR_worth (by omega) (by omega)]
  rcases cmpI_cases (wo x) (wo y) with ⟨h1, h2⟩ | ⟨h1, h2⟩ | ⟨h1, h2⟩ <;> rw [h2] <;> constructor <;> intro h3 <;> omega
theorem order_trans {x y z : D} (hx : IsPlain x ∧ fitsB x = true) (hy : IsPlain y ∧ fitsB y = true) (hz : IsPlain z ∧ fitsB z = true) (h1 : cmpR x y ≤ 0) (h2 : cmpR y z ≤ 0) : cmpR x z ≤ 0 := by
  have a := lowE hx
  have b := lowE hy
  have c := lowE hz
  rw [cmpR_worth (by omega) (by omega)] at h1 h2 ⊢
  rcases cmpI_cases (wo x) (wo y) with ⟨p1, p2⟩ | ⟨p1, p2⟩ | ⟨p1, p2⟩ <;> rcases cmpI_cases (wo y) (wo z) with ⟨q1, q2⟩ | ⟨q1, q2⟩ | ⟨q1, q2⟩ <;> rcases cmpI_cases (wo x) (wo z) with ⟨r1, r2⟩ | ⟨r1, r2⟩ | ⟨r1, r2⟩ <;> omega
theorem order_sums {ex ey ez : Nat} {x y z : D} (hx : Tk ex x) (hy : Tk ey y) (hz : Tk ez z) {ac bc : D × Nat} (e1 : ac = binR (bothE ex ez) (addR x z)) (e2 : bc = binR (bothE ey ez) (addR y z)) (h1 : ac.2 = 0) (h2 : bc.2 = 0) :
    cmpR ac.1 bc.1 = cmpR x y := by
  have a := lowE hx.good
  have b := lowE hy.good
  have c := lowE hz.good
  unfold addR at *
  have g1 := bin_good (er := bothE ex ez) (sumD_plain x z)
  have g2 := bin_good (er := bothE ey ez) (sumD_plain y z)
  rw [← e1] at g1
  rw [← e2] at g2
  have l1 := lowE g1
  have l2 := lowE g2
  have q1 : ac.1 = sumD x z := by rw [e1] at h1 ⊢; exact (bin_zero h1).2
  have q2 : bc.1 = sumD y z := by rw [e2] at h2 ⊢; exact (bin_zero h2).2
  have w1 : wo ac.1 = wo x + wo z := by rw [q1]; exact wo_sum _ _ (by omega) (by omega)
  have w2 : wo bc.1 = wo y + wo z := by rw [q2]; exact wo_sum _ _ (by omega) (by omega)
  rw [cmpR_worth (by omega) (by omega), cmpR_worth (by omega) (by omega), w1, w2]
  unfold cmpI
  have k1 : wo x + wo z < wo y + wo z ↔ wo x < wo y := by omega
  have k2 : wo y + wo z < wo x + wo z ↔ wo y < wo x := by omega
  simp only [k1, k2]

end Go.Proofs.YtiblmkecipoanaaGreatDoor
