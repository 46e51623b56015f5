/- Layer 3, plain part: rounding a quotient to 34 digits. Layer 3, first walks: taken, even, nearest, norm. Layer 3, second walks: nearest, norm. Layer 3, third walks: norm, and whether a quotient ends. Layer 3, fourth walks: Div. Layer 3, fifth walks: split, Whole. -/
import Derived.Test.YtiblmkecipoanaaGreatDoorMe
import Derived.Test.YtiblmkecipoanaaGreatDoorMf
import Derived.Test.YtiblmkecipoanaaGreatDoorMg
import Derived.Deep.CutBlock
import Derived.Deep.RegionHeld3
namespace Go.Proofs.YtiblmkecipoanaaGreatDoor
open Go.RowKit

/-- T/P rounded to the nearest, of two that are as near the even one. -/
def nearN (T P : Nat) : Nat := if P < 2 * (T % P) ∨ (2 * (T % P) = P ∧ (T / P) % 2 = 1) then T / P + 1 else T / P

theorem near_scale {T P c : Nat} (hc : 0 < c) : nearN (c * T) (c * P) = nearN T P := by
  unfold nearN
  rw [Nat.mul_div_mul_left _ _ hc, Nat.mul_mod_mul_left]
  have e : 2 * (c * (T % P)) = c * (2 * (T % P)) := by ac_rfl
  simp only [e, Nat.mul_lt_mul_left hc, Nat.mul_left_cancel_iff hc]

/-- Rounding the digits of a quotient, its rest known, is rounding it at once. -/
theorem near_cut (H Y h D : Nat) (hY : 0 < Y) (hD : D = 2 * h) :
    (if h < H / Y % D ∨ (H / Y % D = h ∧ (0 < H % Y ∨ H / Y / D % 2 = 1)) then H / Y / D + 1 else H / Y / D) = nearN H (Y * D) := by
  unfold nearN
  rw [← Nat.div_div_eq_div_mul, Nat.mod_mul]
  have hr := Nat.mod_lt H hY
  obtain ⟨o, ho⟩ : ∃ o, o = H / Y % D := ⟨_, rfl⟩
  obtain ⟨r, hre⟩ : ∃ r, r = H % Y := ⟨_, rfl⟩
  obtain ⟨k, hk⟩ : ∃ k, k = H / Y / D := ⟨_, rfl⟩
  rw [← ho, ← hre, ← hk]
  rw [← hre] at hr
  have e1 : Y * D = 2 * (Y * h) := by rw [hD]; ac_rfl
  have e2 : 2 * (r + Y * o) = 2 * r + 2 * (Y * o) := Nat.mul_add _ _ _
  rw [e1, e2]
  have hcase : o < h ∨ o = h ∨ h < o := by omega
  rcases hcase with h1 | h1 | h1
  · have h2 : Y * (o + 1) ≤ Y * h := Nat.mul_le_mul_left _ h1
    rw [Nat.mul_succ] at h2
    rw [if_neg (by omega), if_neg (by omega)]
  · subst h1
    by_cases h3 : 0 < r
    · rw [if_pos (.inr ⟨rfl, .inl h3⟩), if_pos (.inl (by omega))]
    · by_cases h4 : k % 2 = 1
      · rw [if_pos (.inr ⟨rfl, .inr h4⟩), if_pos (.inr ⟨by omega, h4⟩)]
      · rw [if_neg (by omega), if_neg (by omega)]
  · have h2 : Y * (h + 1) ≤ Y * o := Nat.mul_le_mul_left _ h1
    rw [Nat.mul_succ] at h2
    rw [if_pos (.inl h1), if_pos (.inl (by omega))]

theorem quot_le {X Y a b c d K : Nat} (h2 : X * 10 ^ a < 10 * K * (Y * 10 ^ b)) (h3 : K * (Y * 10 ^ d) ≤ X * 10 ^ c) : a + d ≤ c + b := by
  by_cases h : a + d ≤ c + b
  · exact h
  · exfalso
    have e1 : X * 10 ^ a * 10 ^ d < 10 * K * (Y * 10 ^ b) * 10 ^ d := Nat.mul_lt_mul_of_pos_right h2 (pow_pos10 d)
    have e2 : K * (Y * 10 ^ d) * 10 ^ b ≤ X * 10 ^ c * 10 ^ b := Nat.mul_le_mul_right _ h3
    have e3 : X * 10 ^ (c + b + 1) ≤ X * 10 ^ (a + d) := Nat.mul_le_mul_left _ (Nat.pow_le_pow_right (by decide) (by omega))
    have e4 : X * 10 ^ (c + b + 1) = 10 * (X * 10 ^ c * 10 ^ b) := by rw [Nat.pow_succ, Nat.pow_add]; ac_rfl
    have e5 : X * 10 ^ (a + d) = X * 10 ^ a * 10 ^ d := by rw [Nat.pow_add, Nat.mul_assoc]
    have e6 : 10 * K * (Y * 10 ^ b) * 10 ^ d = 10 * (K * (Y * 10 ^ d) * 10 ^ b) := by ac_rfl
    omega
/-- A quotient of 34 digits. -/
def In34 (X Y a b : Nat) : Prop := 10 ^ 33 * (Y * 10 ^ b) ≤ X * 10 ^ a ∧ X * 10 ^ a < 10 * 10 ^ 33 * (Y * 10 ^ b)
theorem in34_uniq {X Y a b c d : Nat} (h : In34 X Y a b) (h' : In34 X Y c d) : a + d = c + b := by
  have h1 := quot_le h.2 h'.1
  have h2 := quot_le h'.2 h.1
  omega
theorem near_same {X Y a b c d : Nat} (h : In34 X Y a b) (h' : In34 X Y c d) : nearN (X * 10 ^ a) (Y * 10 ^ b) = nearN (X * 10 ^ c) (Y * 10 ^ d) := by
  have hu := in34_uniq h h'
  rw [← near_scale (T := X * 10 ^ a) (pow_pos10 d), ← near_scale (T := X * 10 ^ c) (pow_pos10 b)]
  have e1 : 10 ^ d * (X * 10 ^ a) = 10 ^ b * (X * 10 ^ c) := by
    have : X * 10 ^ (a + d) = X * 10 ^ (c + b) := by rw [hu]
    rw [Nat.pow_add, Nat.pow_add] at this
    have t1 : 10 ^ d * (X * 10 ^ a) = X * (10 ^ a * 10 ^ d) := by ac_rfl
    have t2 : 10 ^ b * (X * 10 ^ c) = X * (10 ^ c * 10 ^ b) := by ac_rfl
    omega
  have e2 : 10 ^ d * (Y * 10 ^ b) = 10 ^ b * (Y * 10 ^ d) := by ac_rfl
  rw [e1, e2]

def upQ (X Y : Nat) : Nat := 36 + (Num.digs 10 Y).length - (Num.digs 10 X).length
def dropQ (X Y : Nat) : Nat := (Num.digs 10 (X * 10 ^ upQ X Y / Y)).length - 34
theorem digs_iff {n k : Nat} : (Num.digs 10 n).length = k + 1 ↔ 10 ^ k ≤ n ∧ n < 10 ^ (k + 1) := by
  constructor
  · intro h
    exact ⟨Num.pow_le_of_lt_length (by decide) (by omega), (Num.digs_length_le (by decide)).1 (by omega)⟩
  · intro ⟨h1, h2⟩
    have h3 := (Num.digs_length_le (b := 10) (by decide)).2 h2
    have h4 : ¬ (Num.digs 10 n).length ≤ k := fun h => by
      have := (Num.digs_length_le (b := 10) (by decide)).1 h
      omega
    omega
theorem digs_pos10 {n : Nat} (h : n ≠ 0) : 1 ≤ (Num.digs 10 n).length := Num.length_pos (by decide) h
/-- There are digits to drop. -/
theorem drop_pos {X Y : Nat} (hX : X ≠ 0) (hY : Y ≠ 0) : 36 ≤ (Num.digs 10 (X * 10 ^ upQ X Y / Y)).length := by
  have hl : (Num.digs 10 (X * 10 ^ upQ X Y)).length = (Num.digs 10 X).length + upQ X Y := Num.digs_length_mul_pow (by decide) hX _
  have hu : 36 + (Num.digs 10 Y).length ≤ (Num.digs 10 X).length + upQ X Y := by unfold upQ; omega
  obtain ⟨k, hk⟩ : ∃ k, (Num.digs 10 Y).length = k := ⟨_, rfl⟩
  have hYlt : Y < 10 ^ k := (Num.digs_length_le (by decide)).1 (by omega)
  have hH : 10 ^ (35 + k) ≤ X * 10 ^ upQ X Y := Num.pow_le_of_lt_length (by decide) (by omega)
  obtain ⟨j, hj⟩ : ∃ j : Nat, j = 35 := ⟨_, rfl⟩
  have hq : 10 ^ j ≤ X * 10 ^ upQ X Y / Y := by
    rw [Nat.le_div_iff_mul_le (by omega)]
    have : 10 ^ j * Y ≤ 10 ^ j * 10 ^ k := Nat.mul_le_mul_left _ (by omega)
    rw [← Nat.pow_add, hj] at this
    rw [hj]
    exact Nat.le_trans this hH
  have : ¬ (Num.digs 10 (X * 10 ^ upQ X Y / Y)).length ≤ j := fun h => by
    have := (Num.digs_length_le (b := 10) (by decide)).1 h
    omega
  omega
theorem mul_mid (t K Y Z : Nat) : t * K * (Y * Z) = Y * (K * Z * t) := by ac_rfl
theorem prog34 {X Y : Nat} (hX : X ≠ 0) (hY : Y ≠ 0) : In34 X Y (upQ X Y) (dropQ X Y) := by
  have h36 := drop_pos hX hY
  obtain ⟨u, hu⟩ : ∃ u, u = upQ X Y := ⟨_, rfl⟩
  obtain ⟨d, hd⟩ : ∃ d, d = dropQ X Y := ⟨_, rfl⟩
  rw [← hu, ← hd]
  unfold dropQ at hd
  rw [← hu] at h36 hd
  obtain ⟨H, hH⟩ : ∃ H, H = X * 10 ^ u := ⟨_, rfl⟩
  unfold In34
  rw [← hH] at h36 hd ⊢
  obtain ⟨j, hj⟩ : ∃ j : Nat, j = 33 + d := ⟨_, rfl⟩
  obtain ⟨h1, h2⟩ := digs_iff.1 (show (Num.digs 10 (H / Y)).length = j + 1 by omega)
  have hY0 : 0 < Y := by omega
  have e1 := Nat.div_add_mod H Y
  have e2 := Nat.mod_lt H hY0
  have f1 : Y * 10 ^ j ≤ Y * (H / Y) := Nat.mul_le_mul_left _ h1
  have f2 : Y * (H / Y + 1) ≤ Y * 10 ^ (j + 1) := Nat.mul_le_mul_left _ h2
  rw [Nat.mul_succ] at f2
  have g1 : 10 ^ 33 * (Y * 10 ^ d) = Y * 10 ^ j := by
    rw [hj, Nat.pow_add]
    exact Nat.mul_left_comm _ _ _
  have g2 : 10 * 10 ^ 33 * (Y * 10 ^ d) = Y * 10 ^ (j + 1) := by
    rw [hj, show 10 ^ (33 + d + 1) = 10 ^ 33 * 10 ^ d * 10 from by rw [Nat.pow_add 10 (33 + d) 1, Nat.pow_add 10 33 d, Nat.pow_one]]
    exact mul_mid _ _ _ _
  rw [g1, g2]
  clear g1 g2 hj hd h36
  exact ⟨by omega, by omega⟩

/-- The quotient of two that are not 0, rounded to 34 digits. -/
def quotR (x y : D) : D := plainD (x.neg != y.neg) (nearN (x.m * 10 ^ upQ x.m y.m) (y.m * 10 ^ dropQ x.m y.m)) (x.e - y.e - upQ x.m y.m + dropQ x.m y.m)
/-- Another way to the 34 digits. -/
theorem quot_by {x y : D} {a b : Nat} (hx : x.m ≠ 0) (hy : y.m ≠ 0) (h : In34 x.m y.m a b) : quotR x y = plainD (x.neg != y.neg) (nearN (x.m * 10 ^ a) (y.m * 10 ^ b)) (x.e - y.e - a + b) := by
  have h0 := prog34 hx hy
  have hu := in34_uniq h0 h
  unfold quotR
  rw [near_same h0 h]
  congr 1
  omega
/-- A quotient that ends within 34 digits is not rounded. -/
theorem quot_exact {x y : D} (hx : x.m ≠ 0) (hy : y.m ≠ 0) (hr : x.m * 10 ^ upQ x.m y.m % y.m = 0)
    (hd : (Num.digs 10 (plainD false (x.m * 10 ^ upQ x.m y.m / y.m) 0).m).length ≤ 34) :
    quotR x y = plainD (x.neg != y.neg) (x.m * 10 ^ upQ x.m y.m / y.m) (x.e - y.e - upQ x.m y.m) := by
  have h36 := drop_pos hx hy
  unfold quotR
  obtain ⟨d, hde⟩ : ∃ d, d = dropQ x.m y.m := ⟨_, rfl⟩
  rw [← hde]
  unfold dropQ at hde
  obtain ⟨u, hu⟩ : ∃ u, u = upQ x.m y.m := ⟨_, rfl⟩
  rw [← hu] at h36 hr hd hde ⊢
  obtain ⟨H, hH⟩ : ∃ H, H = x.m * 10 ^ u := ⟨_, rfl⟩
  rw [← hH] at h36 hr hd hde ⊢
  obtain ⟨q, hq⟩ : ∃ q, q = H / y.m := ⟨_, rfl⟩
  rw [← hq] at h36 hd hde ⊢
  have hq0 : q ≠ 0 := by
    intro e
    rw [e] at h36
    simp [Num.digs_zero] at h36
  unfold plainD at hd
  rw [if_neg hq0] at hd
  simp only at hd
  rw [Num.digs_div_pow (by decide), List.length_drop] at hd
  have htz : d ≤ tz q := by omega
  have hsp := (tz_split hq0).1
  have hqd : q = 10 ^ d * (q / 10 ^ tz q * 10 ^ (tz q - d)) := by
    have : 10 ^ tz q = 10 ^ (tz q - d) * 10 ^ d := by rw [← Nat.pow_add]; congr 1; omega
    calc q = q / 10 ^ tz q * 10 ^ tz q := hsp.symm
      _ = q / 10 ^ tz q * (10 ^ (tz q - d) * 10 ^ d) := by rw [← this]
      _ = 10 ^ d * (q / 10 ^ tz q * 10 ^ (tz q - d)) := by ac_rfl
  obtain ⟨k, hk⟩ : ∃ k, k = q / 10 ^ tz q * 10 ^ (tz q - d) := ⟨_, rfl⟩
  rw [← hk] at hqd
  have hHe : H = y.m * 10 ^ d * k := by
    have := Nat.div_add_mod H y.m
    rw [hr, ← hq, hqd] at this
    rw [← this]
    ac_rfl
  have hP : 0 < y.m * 10 ^ d := Nat.mul_pos (by omega) (pow_pos10 d)
  have hn : nearN H (y.m * 10 ^ d) = k := by
    unfold nearN
    rw [hHe, Nat.mul_mod_right, Nat.mul_div_cancel_left _ hP]
    rw [if_neg (by omega)]
  rw [hn, hqd, Nat.mul_comm (10 ^ d) k]
  have hk0 : k ≠ 0 := by
    intro e
    rw [e] at hqd
    simp at hqd
    exact hq0 hqd
  unfold plainD
  rw [if_neg hk0, if_neg (Nat.mul_ne_zero hk0 (by have := pow_pos10 d; omega)), tz_pow hk0]
  congr 1
  · rw [Nat.add_comm, Nat.pow_add, Nat.mul_comm (10 ^ tz k), ← Nat.div_div_eq_div_mul, Nat.mul_div_cancel _ (pow_pos10 d)]
  · omega

end Go.Proofs.YtiblmkecipoanaaGreatDoor

namespace Go.Proofs.YtiblmkecipoanaaGreatDoor
open Go.RowKit

set_option maxRecDepth 100000 in
set_option maxHeartbeats 1600000 in
theorem quot_taken (g : Bool) (a : Option Addr) (cap : Nat) (e : Int) (xs : List Nat) (g2 : Bool) (a2 : Option Addr) (cap2 : Nat) (e2 : Int) (ys : List Nat) (w : World) (h : U32 w a xs) (h2 : U32 w a2 ys) (htab : Pow w) :
    Calls Tryz.prog 35 #[.agg #[.bool g, .slice a xs.length cap, .int .i64 e], .agg #[.bool g2, .slice a2 ys.length cap2, .int .i64 e2]] w
      (OutDD w (takenD g xs.length (Num.worth xs) e) (takenD g2 ys.length (Num.worth ys) e2) (bothE (takenE g xs.length (Num.worth xs) e) (takenE g2 ys.length (Num.worth ys) e2))) := by
  have C1 := fun W (hb : Below w.heap.size w W) => dec_Norm g a cap e xs W (h.below hb) (htab.next hb)
  have C2 := fun W (hb : Below w.heap.size w W) => dec_Norm g2 a2 cap2 e2 ys W (h2.below hb) (htab.next hb)
  obtain ⟨x, hx⟩ : ∃ x, x = takenD g xs.length (Num.worth xs) e := ⟨_, rfl⟩
  obtain ⟨y, hy⟩ : ∃ y, y = takenD g2 ys.length (Num.worth ys) e2 := ⟨_, rfl⟩
  obtain ⟨ex, hex⟩ : ∃ x, x = takenE g xs.length (Num.worth xs) e := ⟨_, rfl⟩
  obtain ⟨ey, hey⟩ : ∃ y, y = takenE g2 ys.length (Num.worth ys) e2 := ⟨_, rfl⟩
  obtain ⟨n, hn⟩ : ∃ n, n = xs.length := ⟨_, rfl⟩
  obtain ⟨n2, hn2⟩ : ∃ n, n = ys.length := ⟨_, rfl⟩
  rw [← hx, ← hex] at C1
  rw [← hy, ← hey] at C2
  rw [← hx, ← hy, ← hex, ← hey]
  rw [← hn] at C1 ⊢
  rw [← hn2] at C2 ⊢
  have C1 := hid C1
  have C2 := hid C2
  obtain ⟨er, her⟩ : ∃ er, er = bothE ex ey := ⟨_, rfl⟩
  rw [← her]
  have HER := hid her
  clear h h2 htab hx hy hex hey hn hn2 her
  go_enter Tryz.func35, Tryz.ntmps35
  go_wp2_with fail
  refine (C1.out _ (((((Below.refl _ _).alloc (Nat.le_refl _) _).alloc (by simp) _).alloc (by simp; omega) _).alloc (by simp; omega) _)).mono ?_
  rintro e1 w1 ⟨b1, c1, rfl, ho1⟩
  have HB1 := hid (below_alloc (below_alloc (below_alloc (below_alloc ho1.1))))
  have hz1 : w.heap.size + 1 + 1 + 1 + 1 ≤ w1.heap.size := by simpa using ho1.1.size
  have HO1 := hid (owns_mono ho1.2 (show w.heap.size + 1 + 1 + 1 + 1 ≤ _ by simp))
  have hk := blk_three (blk_below (blk_alloc (blk_alloc (blk_new2 w _ _) _) _) ho1.1)
  have HK2 := hid (show w1.heap[w.heap.size + 1 + 1]? = _ by simpa using blk_below (blk_alloc (blk_new2 (w.alloc _) _ _) _) ho1.1)
  have HK3 := hid (show w1.heap[w.heap.size + 1 + 1 + 1]? = _ by simpa using blk_below (blk_new2 ((w.alloc _).alloc _) _ _) ho1.1)
  obtain ⟨⟨k0, k1, k2⟩, _⟩ := hk
  have hz2 : w.heap.size + 1 < w1.heap.size := by omega
  clear ho1 C1
  unfold decV
  go_wp2_with fail
  refine (C2.out _ (HB1.out.alloc (HB1.out.size) _)).mono ?_
  rintro e2 w2 ⟨b2, c2, rfl, ho2⟩
  have hb2 := below_alloc ho2.1
  have HB2 := hid (below_trans HB1.out hb2)
  have HO2 := hid (owns_below HO1.out hb2)
  have HP2 := hid (owns_mono ho2.2 (show w.heap.size + 1 + 1 + 1 + 1 ≤ _ by simp; omega))
  have h7 := blk_three (blk_below (blk_new w1 _) ho2.1)
  have h4 := blk_three (blk_below HK2.out hb2)
  have h5 := blk_three (blk_below HK3.out hb2)
  have hz3 : w1.heap.size < w2.heap.size := by have := ho2.1.size; simp at this; omega
  have hz4 : w.heap.size + 1 + 1 < w2.heap.size := by omega
  have hz5 : w.heap.size + 1 + 1 + 1 < w2.heap.size := by omega
  have hz6 : w.heap.size + 1 + 1 < w1.heap.size := by omega
  have hz7 : w.heap.size + 1 + 1 + 1 < w1.heap.size := by omega
  clear ho2 hb2 HB1 HO1 HK2 HK3 C2 k0 k1 k2
  obtain ⟨⟨k0, k1, k2⟩, _⟩ := h7
  obtain ⟨⟨p0, p1, p2⟩, pf0, pf1, pf2⟩ := h4
  obtain ⟨⟨q0, q1, q2⟩, qf0, qf1, qf2⟩ := h5
  unfold decV
  have b6 : ∀ X, Below w.heap.size w (((((((w2.setCell { block := w.heap.size + 1 + 1, off := 0 } (Value.bool x.neg)).setCell { block := w.heap.size + 1 + 1, off := 1 } (Value.slice b1 (Num.limbs x.m).length c1)).setCell { block := w.heap.size + 1 + 1, off := 2 } (Value.int IntKind.i64 x.e)).setCell { block := w.heap.size + 1 + 1 + 1, off := 0 } (Value.bool y.neg)).setCell { block := w.heap.size + 1 + 1 + 1, off := 1 } (Value.slice b2 (Num.limbs y.m).length c2)).setCell { block := w.heap.size + 1 + 1 + 1, off := 2 } (Value.int IntKind.i64 y.e)).alloc X).drew := fun X =>
    ((((((((HB2.out.setCell (by simp only; omega) _).setCell (by simp only; omega) _).setCell (by simp only; omega) _).setCell (by simp only; omega) _).setCell (by simp only; omega) _).setCell (by simp only; omega) _).alloc (by simpa using HB2.out.size) _).drew)
  have own6 : ∀ (X : Obj) {v : Value} {k : Nat} {zs : List Value}, w2.ownsRow (w.heap.size + 1 + 1 + 1 + 1) 42 1 v k zs → (((((((w2.setCell { block := w.heap.size + 1 + 1, off := 0 } (Value.bool x.neg)).setCell { block := w.heap.size + 1 + 1, off := 1 } (Value.slice b1 (Num.limbs x.m).length c1)).setCell { block := w.heap.size + 1 + 1, off := 2 } (Value.int IntKind.i64 x.e)).setCell { block := w.heap.size + 1 + 1 + 1, off := 0 } (Value.bool y.neg)).setCell { block := w.heap.size + 1 + 1 + 1, off := 1 } (Value.slice b2 (Num.limbs y.m).length c2)).setCell { block := w.heap.size + 1 + 1 + 1, off := 2 } (Value.int IntKind.i64 y.e)).alloc X).drew.ownsRow (w.heap.size + 1 + 1 + 1 + 1) 42 1 v k zs := fun X v k zs h =>
    owns_below (ownsRow_setCell_below (ownsRow_setCell_below (ownsRow_setCell_below (ownsRow_setCell_below (ownsRow_setCell_below (ownsRow_setCell_below h (by simp only; omega) _) (by simp only; omega) _) (by simp only; omega) _) (by simp only; omega) _) (by simp only; omega) _) (by simp only; omega) _) (((Below.refl _ _).alloc (Nat.le_refl _) X).drew)
  have HBE := hid (b6 (Obj.cells #[Value.bool y.neg, Value.slice b2 (Num.limbs y.m).length c2, Value.int IntKind.i64 y.e] 24))
  have HOE := hid (own6 (Obj.cells #[Value.bool y.neg, Value.slice b2 (Num.limbs y.m).length c2, Value.int IntKind.i64 y.e] 24) HO2.out)
  have HPE := hid (own6 (Obj.cells #[Value.bool y.neg, Value.slice b2 (Num.limbs y.m).length c2, Value.int IntKind.i64 y.e] 24) HP2.out)
  clear b6 own6
  by_cases hx1 : ex = 1
  · subst hx1
    have HR := hid (show er = 1 by rw [HER.out]; unfold bothE; rw [if_pos (.inl rfl)])
    go_wp2_with fail
    go_region
    go_wp2_with fail
    refine bodyPost_ret (v := .tuple #[decV x b1 c1, decV y b2 c2, .int .i64 er]) (by rw [HR.out]; simp [results, Tryz.results35, go_sem, p0, p1, p2, q0, q1, q2, decV, hz4, hz5]) rfl ?_
    refine ⟨b1, c1, b2, c2, rfl, ⟨?_, ?_⟩, ⟨?_, ?_⟩⟩
    · exact HBE.out
    · exact owns_mono HOE.out (by omega)
    · exact HBE.out
    · exact owns_mono HPE.out (by omega)
  · have hn1 : ((ex : Int) == 1) = false := by rw [beq_eq_false_iff_ne]; omega
    by_cases hy1 : ey = 1
    · subst hy1
      have HR := hid (show er = 1 by rw [HER.out]; unfold bothE; rw [if_pos (.inr rfl)])
      go_wp2_with fail
      go_region
      go_wp2_with fail
      refine bodyPost_ret (v := .tuple #[decV x b1 c1, decV y b2 c2, .int .i64 er]) (by rw [HR.out]; simp [results, Tryz.results35, go_sem, p0, p1, p2, q0, q1, q2, decV, hz4, hz5]) rfl ?_
      refine ⟨b1, c1, b2, c2, rfl, ⟨?_, ?_⟩, ⟨?_, ?_⟩⟩
      · exact HBE.out
      · exact owns_mono HOE.out (by omega)
      · exact HBE.out
      · exact owns_mono HPE.out (by omega)
    · have hn2 : ((ey : Int) == 1) = false := by rw [beq_eq_false_iff_ne]; omega
      by_cases hx0 : ex = 0
      · subst hx0
        have HR := hid (show er = ey by rw [HER.out]; unfold bothE; rw [if_neg (by omega), if_neg (by omega)])
        go_wp2_with fail
        go_region
        go_wp2_with fail
        refine bodyPost_ret (v := .tuple #[decV x b1 c1, decV y b2 c2, .int .i64 er]) (by rw [HR.out]; simp [results, Tryz.results35, go_sem, p0, p1, p2, q0, q1, q2, decV, hz4, hz5]) rfl ?_
        refine ⟨b1, c1, b2, c2, rfl, ⟨?_, ?_⟩, ⟨?_, ?_⟩⟩
        · exact HBE.out
        · exact owns_mono HOE.out (by omega)
        · exact HBE.out
        · exact owns_mono HPE.out (by omega)
      · have hn3 : ((ex : Int) != 0) = true := by rw [bne_iff_ne]; omega
        have HR := hid (show er = ex by rw [HER.out]; unfold bothE; rw [if_neg (by omega), if_pos hx0])
        go_wp2_with fail
        go_region
        go_wp2_with fail
        refine bodyPost_ret (v := .tuple #[decV x b1 c1, decV y b2 c2, .int .i64 er]) (by rw [HR.out]; simp [results, Tryz.results35, go_sem, p0, p1, p2, q0, q1, q2, decV, hz4, hz5]) rfl ?_
        refine ⟨b1, c1, b2, c2, rfl, ⟨?_, ?_⟩, ⟨?_, ?_⟩⟩
        · exact HBE.out
        · exact owns_mono HOE.out (by omega)
        · exact HBE.out
        · exact owns_mono HPE.out (by omega)



theorem limbs_even (m : Nat) : (decide ((Num.limbs m).length = 0) || decide ((Num.limbs m).getD 0 0 % 2 = 0)) = decide (m % 2 = 0) := by
  by_cases h : m = 0
  · subst h; rfl
  · have h1 : Num.limbs m = m % Num.B9 :: Num.limbs (m / Num.B9) := Num.digs_pos Num.two_le_B9 h
    rw [h1]
    simp only [List.length_cons, List.getD_cons_zero]
    have h2 : (m % Num.B9) % 2 = m % 2 := Nat.mod_mod_of_dvd m (by decide)
    rw [h2, decide_eq_false (by omega), Bool.false_or]

set_option maxHeartbeats 800000 in
theorem quot_even (a : Option Addr) (cap m : Nat) (w : World) (h : U32 w a (Num.limbs m)) :
    Calls Tryz.prog 85 #[.slice a (Num.limbs m).length cap] w fun e w' => e = .returned (.bool (decide (m % 2 = 0))) ∧ w = w' := by
  by_cases h0 : m = 0
  · subst h0
    show Calls Tryz.prog 85 #[.slice a 0 cap] w _
    go_enter Tryz.func85, Tryz.ntmps85
    go_wp2
    go_ret
    exact ⟨rfl, rfl⟩
  · have hl : 0 < (Num.limbs m).length := Num.length_pos Num.two_le_B9 h0
    obtain ⟨b, off, rfl⟩ := h.isSome (fun e => by rw [e] at hl; simp at hl)
    have hc := h.row.u32 hl
    rw [Nat.add_zero] at hc
    have hm := limbs_even m
    rw [decide_eq_false (by omega), Bool.false_or] at hm
    obtain ⟨d, hd⟩ : ∃ d, d = (Num.limbs m).getD 0 0 := ⟨_, rfl⟩
    have hd9 : d < 4294967296 := by rw [hd]; exact h.getD_lt 0
    rw [← hd] at hc hm
    have hlz : (((Num.limbs m).length : Int) == 0) = false := by rw [beq_eq_false_iff_ne]; omega
    obtain ⟨n, hn⟩ : ∃ n, n = (Num.limbs m).length := ⟨_, rfl⟩
    rw [← hn] at hl hlz ⊢
    have hb : (((d : Int) % 2) == 0) = decide (m % 2 = 0) := by
      rw [← hm]
      by_cases h : d % 2 = 0
      · rw [decide_eq_true h, beq_iff_eq]; omega
      · rw [decide_eq_false h, beq_eq_false_iff_ne]; omega
    have hl2 : (0 : Int) < n := by omega
    clear h hd hm hn
    go_enter Tryz.func85, Tryz.ntmps85
    go_wp2
    go_ret
    exact ⟨by first | rfl | rw [hb] | simp [hb], rfl⟩

end Go.Proofs.YtiblmkecipoanaaGreatDoor

namespace Go.Proofs.YtiblmkecipoanaaGreatDoor
open Go.RowKit

theorem digs_five (k : Nat) : (Num.digs 10 (5 * 10 ^ k)).length = 1 + k := Num.digs_length_mul_pow (by decide) (by decide) k
theorem limbs_five (k : Nat) (hk : k ≤ 30000) : (Num.limbs (5 * 10 ^ k)).length ≤ 4000 := limbs_pow (K := 30001) (by rw [digs_five]; omega) (by decide)
theorem cmpN_cases (x y : Nat) : (x < y ∧ cmpN x y = -1) ∨ (x = y ∧ cmpN x y = 0) ∨ (y < x ∧ cmpN x y = 1) := by
  rcases Nat.lt_trichotomy x y with h | h | h
  · exact .inl ⟨h, cmpN_lt h⟩
  · exact .inr (.inl ⟨h, cmpN_eq.2 h⟩)
  · exact .inr (.inr ⟨h, cmpN_gt h⟩)

set_option maxRecDepth 100000 in
set_option maxHeartbeats 3200000 in
theorem quot_nearest (a : Option Addr) (cap q drop : Nat) (more : Bool) (w : World) (h : U32 w a (Num.limbs q)) (hq : q ≠ 0) (hl : (Num.limbs q).length ≤ 100000) (hd : 1 ≤ drop) (hd2 : drop ≤ 30000) :
    Calls Tryz.prog 40 #[.slice a (Num.limbs q).length cap, .int .i64 drop, .bool more] w
      (OutU w (Num.limbs (if 5 * 10 ^ (drop - 1) < q % 10 ^ drop ∨ (q % 10 ^ drop = 5 * 10 ^ (drop - 1) ∧ (more = true ∨ q / 10 ^ drop % 2 = 1)) then q / 10 ^ drop + 1 else q / 10 ^ drop))) := by
  obtain ⟨k, rfl⟩ : ∃ k, drop = k + 1 := ⟨drop - 1, by omega⟩
  have hk1 : ((k + 1 : Nat) : Int) - 1 = (k : Int) := by omega
  rw [Nat.add_sub_cancel]
  have CC := fun W (hb : Below w.heap.size w W) => limb_Cut a cap (k + 1) (Num.limbs q) W (h.below hb) (by omega) hd2 (by rw [Num.worth_limbs]; exact hq)
  rw [Num.worth_limbs] at CC
  have CS := fun W N (hu : U32 W (some ⟨N, 0, none⟩) [5]) => limb_Shift (some ⟨N, 0, none⟩) 1 k [5] W hu (by simp) (by omega)
  rw [show Num.worth [5] = 5 from rfl] at CS
  obtain ⟨K, hK⟩ : ∃ K, K = q / 10 ^ (k + 1) := ⟨_, rfl⟩
  obtain ⟨o, ho⟩ : ∃ o, o = q % 10 ^ (k + 1) := ⟨_, rfl⟩
  obtain ⟨f, hf⟩ : ∃ f, f = 5 * 10 ^ k := ⟨_, rfl⟩
  have lK : (Num.limbs K).length ≤ 100000 := Nat.le_trans (Num.digs_length_mono Num.two_le_B9 (by rw [hK]; exact Nat.div_le_self _ _)) hl
  have lo : (Num.limbs o).length ≤ 100000 := Nat.le_trans (Num.digs_length_mono Num.two_le_B9 (by rw [ho]; exact Nat.mod_le _ _)) hl
  have lf : (Num.limbs f).length ≤ 4000 := by rw [hf]; exact limbs_five k (by omega)
  rw [← hK, ← ho] at CC ⊢
  rw [← hf] at CS ⊢
  have CP := fun W a1 c1 a2 c2 (h1 : U32 W a1 (Num.limbs o)) (h2 : U32 W a2 (Num.limbs f)) => limb_Cmp a1 a2 c1 c2 (Num.limbs o) (Num.limbs f) W h1 h2 (by omega) (by omega)
  rw [Num.worth_limbs, Num.worth_limbs] at CP
  have CE := fun W a1 c1 (h1 : U32 W a1 (Num.limbs K)) => quot_even a1 c1 K W h1
  have CA := fun W a1 c1 N (h1 : U32 W a1 (Num.limbs K)) (h2 : U32 W (some ⟨N, 0, none⟩) [1]) => limb_Add a1 (some ⟨N, 0, none⟩) c1 1 (Num.limbs K) [1] W h1 h2 (by omega) (by simp)
  rw [Num.worth_limbs, show Num.worth [1] = 1 from rfl] at CA
  unfold OutUUE at CC
  unfold OutUE at CS
  unfold OutU at CA
  replace CC := hid CC
  replace CS := hid CS
  replace CP := hid CP
  replace CE := hid CE
  replace CA := hid CA
  obtain ⟨res, hres⟩ : ∃ r, r = (if f < o ∨ (o = f ∧ (more = true ∨ K % 2 = 1)) then K + 1 else K) := ⟨_, rfl⟩
  rw [← hres]
  replace hres := hid hres
  clear h hK ho hf hq
  go_enter Tryz.func40, Tryz.ntmps40
  go_wp2_with fail
  refine (CC.out _ (Below.refl _ _)).mono ?_
  rintro e1 w1 ⟨a7, c7, a8, c8, rfl, hb1, ho7, ho8⟩
  have HB1 := hid hb1
  have HO7 := hid ho7
  have HO8 := hid ho8
  clear hb1 ho7 ho8 CC
  go_wp2_with fail
  refine (CS.out _ _ (u32_one (by decide) (blk_cell (blk_new w1 _) 0))).mono ?_
  rintro e2 w2 ⟨a9, c9, rfl, hb2, ho9⟩
  have HB2 := hid (below_alloc hb2)
  have HO9 := hid ho9
  clear hb2 ho9 CS
  go_wp2_with fail
  refine (CP.out _ _ _ _ _ ((u32_limbs HO8.out).below HB2.out) (u32_limbs HO9.out)).mono ?_
  rintro e3 w3 ⟨rfl, hb3⟩
  have HB3 := hid (below_trans (below_trans HB1.out HB2.out) hb3)
  have HO := hid (owns_below (owns_below HO7.out HB2.out) hb3)
  clear hb3 HO7 HO8 HO9 HB1 HB2 CP
  have key : (res = K + 1 ∧ (cmpN o f = 1 ∨ (cmpN o f = 0 ∧ (more = true ∨ decide (K % 2 = 0) = false)))) ∨ (res = K ∧ (cmpN o f = -1 ∨ (cmpN o f = 0 ∧ more = false ∧ decide (K % 2 = 0) = true))) := by
    rcases cmpN_cases o f with ⟨h1, h2⟩ | ⟨h1, h2⟩ | ⟨h1, h2⟩
    · exact .inr ⟨by rw [hres.out, if_neg (by omega)], .inl h2⟩
    · cases more with
      | true => exact .inl ⟨by rw [hres.out, if_pos (.inr ⟨h1.symm ▸ rfl, .inl rfl⟩)], .inr ⟨h2, .inl rfl⟩⟩
      | false =>
        by_cases h3 : K % 2 = 0
        · exact .inr ⟨by rw [hres.out, if_neg (by simp; omega)], .inr ⟨h2, rfl, decide_eq_true h3⟩⟩
        · exact .inl ⟨by rw [hres.out, if_pos (.inr ⟨h1, .inr (by omega)⟩)], .inr ⟨h2, .inr (decide_eq_false h3)⟩⟩
    · exact .inl ⟨by rw [hres.out, if_pos (.inl h1)], .inl h2⟩
  replace key := hid key
  obtain ⟨c, hc⟩ : ∃ c, c = cmpN o f := ⟨_, rfl⟩
  obtain ⟨ev, hev⟩ : ∃ b, b = decide (K % 2 = 0) := ⟨_, rfl⟩
  rw [← hc, ← hev] at key
  rw [← hc]
  rw [← hev] at CE
  clear hc hev hres
  rcases key.out with ⟨hr, h1 | ⟨h1, h2 | h2⟩⟩ | ⟨hr, h1 | ⟨h1, h2, h3⟩⟩
  · subst hr h1
    go_wp2_with fail
    refine (CA.out _ _ _ _ ((u32_limbs HO.out).below (((Below.refl w3.heap.size w3)).alloc (Nat.le_refl _) _)) (u32_one (by decide) (blk_cell (blk_new w3 _) 0))).mono ?_
    rintro e5 w5 ⟨a5, c5, rfl, hb5, ho5⟩
    have HB5 := hid (below_trans HB3.out (below_alloc hb5))
    have HO5 := hid (owns_mono ho5 (show w.heap.size ≤ _ by have := HB3.out.size; simp; omega))
    clear hb5 ho5 CA CE key
    go_wp2
    go_ret
    exact ⟨a5, c5, rfl, HB5.out, HO5.out⟩
  · subst hr h1 h2
    go_wp2_with fail
    refine (CA.out _ _ _ _ ((u32_limbs HO.out).below (((Below.refl w3.heap.size w3)).alloc (Nat.le_refl _) _)) (u32_one (by decide) (blk_cell (blk_new w3 _) 0))).mono ?_
    rintro e5 w5 ⟨a5, c5, rfl, hb5, ho5⟩
    have HB5 := hid (below_trans HB3.out (below_alloc hb5))
    have HO5 := hid (owns_mono ho5 (show w.heap.size ≤ _ by have := HB3.out.size; simp; omega))
    clear hb5 ho5 CA CE key
    go_wp2
    go_ret
    exact ⟨a5, c5, rfl, HB5.out, HO5.out⟩
  · subst hr h1 h2
    cases more with
    | true =>
      go_wp2_with fail
      refine (CA.out _ _ _ _ ((u32_limbs HO.out).below (((Below.refl w3.heap.size w3)).alloc (Nat.le_refl _) _)) (u32_one (by decide) (blk_cell (blk_new w3 _) 0))).mono ?_
      rintro e5 w5 ⟨a5, c5, rfl, hb5, ho5⟩
      have HB5 := hid (below_trans HB3.out (below_alloc hb5))
      have HO5 := hid (owns_mono ho5 (show w.heap.size ≤ _ by have := HB3.out.size; simp; omega))
      clear hb5 ho5 CA CE key
      go_wp2
      go_ret
      exact ⟨a5, c5, rfl, HB5.out, HO5.out⟩
    | false =>
      go_wp2_with fail
      refine (CE.out _ _ _ (u32_limbs HO.out)).mono ?_
      rintro e4 w4 ⟨rfl, rfl⟩
      go_wp2_with fail
      refine (CA.out _ _ _ _ ((u32_limbs HO.out).below (((Below.refl w3.heap.size w3)).alloc (Nat.le_refl _) _)) (u32_one (by decide) (blk_cell (blk_new w3 _) 0))).mono ?_
      rintro e5 w5 ⟨a5, c5, rfl, hb5, ho5⟩
      have HB5 := hid (below_trans HB3.out (below_alloc hb5))
      have HO5 := hid (owns_mono ho5 (show w.heap.size ≤ _ by have := HB3.out.size; simp; omega))
      clear hb5 ho5 CA CE key
      go_wp2
      go_ret
      exact ⟨a5, c5, rfl, HB5.out, HO5.out⟩
  · subst hr h1
    go_wp2
    go_ret
    exact ⟨a7, c7, rfl, HB3.out, HO.out⟩
  · subst hr h1 h2 h3
    go_wp2_with fail
    refine (CE.out _ _ _ (u32_limbs HO.out)).mono ?_
    rintro e4 w4 ⟨rfl, rfl⟩
    go_wp2
    go_ret
    exact ⟨a7, c7, rfl, HB3.out, HO.out⟩

end Go.Proofs.YtiblmkecipoanaaGreatDoor

namespace Go.Proofs.YtiblmkecipoanaaGreatDoor
open Go.RowKit

set_option maxRecDepth 100000 in
set_option maxHeartbeats 1600000 in
theorem quot_norm (g : Bool) (a : Option Addr) (cap : Nat) (e : Int) (xs : List Nat) (w : World) (h : U32 w a xs) (htab : Pow w) :
    Calls Tryz.prog 41 #[.agg #[.bool g, .slice a xs.length cap, .int .i64 e]] w
      (OutDE w (takenD g xs.length (Num.worth xs) e) (if takenE g xs.length (Num.worth xs) e = 1 then 3 else takenE g xs.length (Num.worth xs) e)) := by
  have CN := fun W (hb : Below w.heap.size w W) => dec_Norm g a cap e xs W (h.below hb) (htab.next hb)
  obtain ⟨d, hd⟩ : ∃ x, x = takenD g xs.length (Num.worth xs) e := ⟨_, rfl⟩
  obtain ⟨er, her⟩ : ∃ x, x = takenE g xs.length (Num.worth xs) e := ⟨_, rfl⟩
  obtain ⟨n, hn⟩ : ∃ n, n = xs.length := ⟨_, rfl⟩
  rw [← hd, ← her] at CN
  rw [← hd, ← her]
  rw [← hn] at CN ⊢
  unfold OutDE at CN
  replace CN := hid CN
  obtain ⟨eo, heo⟩ : ∃ x, x = (if er = 1 then 3 else er) := ⟨_, rfl⟩
  rw [← heo]
  replace heo := hid heo
  clear h htab hd her hn
  go_enter Tryz.func41, Tryz.ntmps41
  go_wp2_with fail
  refine (CN.out _ (((Below.refl _ _).alloc (Nat.le_refl _) _).alloc (by simp) _)).mono ?_
  rintro e1 w1 ⟨b1, c1, rfl, ho1⟩
  have HB1 := hid (below_alloc (below_alloc ho1.1))
  have hz : w.heap.size + 1 + 1 ≤ w1.heap.size := by simpa using ho1.1.size
  have hz2 : w.heap.size + 1 < w1.heap.size := by omega
  have HO1 := hid (owns_mono ho1.2 (show w.heap.size + 1 + 1 ≤ _ by simp))
  obtain ⟨⟨p0, p1, p2⟩, f0, f1, f2⟩ := blk_three (blk_below (blk_new2 w _ _) ho1.1)
  clear ho1 CN
  unfold decV
  by_cases h1 : er = 1
  · subst h1
    have HE := hid (show eo = 3 by rw [heo.out, if_pos rfl])
    go_wp2
    refine bodyPost_ret (v := .tuple #[decV d b1 c1, .int .i64 3]) (by simp [results, Tryz.results41, go_sem, p0, p1, p2, decV, hz2]) rfl ?_
    rw [HE.out]
    exact ⟨b1, c1, rfl, (((HB1.out.setCell (by simp) _).setCell (by simp) _).setCell (by simp) _).alloc (by simpa using HB1.out.size) _, owns_mono (owns_below (owns_set3 (R := w.heap.size + 1) HO1.out (by omega) _ _ _) ((Below.refl _ _).alloc (Nat.le_refl _) _)) (show w.heap.size ≤ w.heap.size + 1 + 1 by omega)⟩
  · have HE := hid (show eo = er by rw [heo.out, if_neg h1])
    have hne : ((er : Int) == 1) = false := by rw [beq_eq_false_iff_ne]; omega
    clear h1
    go_wp2
    refine bodyPost_ret (v := .tuple #[decV d b1 c1, .int .i64 er]) (by simp [results, Tryz.results41, go_sem, p0, p1, p2, decV, hz2]) rfl ?_
    rw [HE.out]
    exact ⟨b1, c1, rfl, (((HB1.out.setCell (by simp) _).setCell (by simp) _).setCell (by simp) _).alloc (by simpa using HB1.out.size) _, owns_mono (owns_below (owns_set3 (R := w.heap.size + 1) HO1.out (by omega) _ _ _) ((Below.refl _ _).alloc (Nat.le_refl _) _)) (show w.heap.size ≤ w.heap.size + 1 + 1 by omega)⟩

/-- Does a quotient end within 34 digits? -/
def exactB (Q R : Nat) : Bool := decide (R = 0) && decide (takenE false (Num.limbs Q).length Q 0 = 0) && decide ((Num.digs 10 (takenD false (Num.limbs Q).length Q 0).m).length ≤ 34)

set_option maxRecDepth 100000 in
set_option maxHeartbeats 1600000 in
theorem div_exact (W : World) (pq pr cq cr Q R : Nat) (aq ar : Option Addr) (hq : W.cell? ⟨pq, 0, none⟩ = some (.slice aq (Num.limbs Q).length cq)) (hr : W.cell? ⟨pr, 0, none⟩ = some (.slice ar (Num.limbs R).length cr)) (uq : U32 W aq (Num.limbs Q)) (htab : Pow W) :
    Calls Tryz.prog 39 #[.pointer (some ⟨pq, 0, none⟩), .pointer (some ⟨pr, 0, none⟩)] W fun e W' => e = .returned (.bool (exactB Q R)) ∧ Below W.heap.size W W' := by
  have CN := dec_Norm false aq cq 0 (Num.limbs Q) W uq htab
  rw [Num.worth_limbs] at CN
  have hgood : (Num.digs 10 (takenD false (Num.limbs Q).length Q 0).m).length ≤ 400 := by
    by_cases h : takenE false (Num.limbs Q).length Q 0 = 0
    · have := taken_facts h
      exact (plain_bounds this.1 this.2).1
    · rcases takenE_cases false (Num.limbs Q).length Q 0 with h2 | h2
      · exact absurd h2 h
      · rw [h2.2]; simp [zeroD, Num.digs_zero]
  unfold exactB
  obtain ⟨d, hd⟩ : ∃ x, x = takenD false (Num.limbs Q).length Q 0 := ⟨_, rfl⟩
  obtain ⟨er, her⟩ : ∃ x, x = takenE false (Num.limbs Q).length Q 0 := ⟨_, rfl⟩
  rw [← hd, ← her] at CN
  rw [← hd, ← her]
  rw [← hd] at hgood
  have lim := limbs_pow (K := 400) (J := 45) hgood (by decide)
  have CD := fun V a c (hb : Below W.heap.size W V) (hu : U32 V a (Num.limbs d.m)) => limb_Digits a c (Num.limbs d.m) V hu (by omega) (htab.next hb)
  rw [Num.worth_limbs] at CD
  obtain ⟨D, hD⟩ : ∃ D, D = (Num.digs 10 d.m).length := ⟨_, rfl⟩
  rw [← hD] at CD ⊢
  unfold OutDE at CN
  replace CN := hid CN
  replace CD := hid CD
  have hlr := cell_lt hr
  clear hd her hD uq htab hgood
  have hR0 := limbs_zero_iff R
  obtain ⟨nr, hnr⟩ : ∃ n, n = (Num.limbs R).length := ⟨_, rfl⟩
  rw [← hnr] at hr hR0
  have hdr : decide (R = 0) = decide (nr = 0) := by rw [decide_eq_decide]; exact hR0.symm
  rw [hdr]
  clear hnr hR0 hdr
  go_enter Tryz.func39, Tryz.ntmps39
  go_wp2_with fail
  refine CN.out.mono ?_
  rintro e1 w1 ⟨b1, c1, rfl, ho1⟩
  have HB1 := hid ho1.1
  have HO1 := hid ho1.2
  have hr1 := (bcell ho1.1).1 pr 0 hlr
  rw [hr] at hr1
  have hlr1 : pr < w1.heap.size := Nat.lt_of_lt_of_le hlr ho1.1.size
  clear ho1 CN
  unfold decV
  by_cases h1 : nr = 0
  · subst h1
    by_cases h2 : er = 0
    · subst h2
      go_wp2_with fail
      refine (CD.out _ _ _ (HB1.out.alloc HB1.out.size _) ((u32_limbs HO1.out).below ((Below.refl _ _).alloc (Nat.le_refl _) _))).mono ?_
      rintro e2 w2 ⟨rfl, hb2⟩
      have HB2 := hid (below_trans HB1.out (below_alloc hb2))
      clear hb2 CD
      go_wp2
      go_ret
      exact ⟨by simp; omega, HB2.out⟩
    · have hne : ((er : Int) == 0) = false := by rw [beq_eq_false_iff_ne]; omega
      go_wp2
      go_ret
      exact ⟨by simp, HB1.out.alloc HB1.out.size _⟩
  · have hne : ((nr : Int) == 0) = false := by rw [beq_eq_false_iff_ne]; omega
    go_wp2
    go_ret
    exact ⟨by simp [h1], HB1.out.alloc HB1.out.size _⟩

end Go.Proofs.YtiblmkecipoanaaGreatDoor

namespace Go.Proofs.YtiblmkecipoanaaGreatDoor
open Go.RowKit

/-- What Div tells. -/
def divR (er : Nat) (x y : D) : D × Nat := if er ≠ 0 then (zeroD, er) else if y.m = 0 then (zeroD, 4) else if x.m = 0 then (zeroD, 0) else tellR (quotR x y)
theorem quot_bounds {X Y : Nat} (hX : X ≠ 0) (hY : Y ≠ 0) (lx : (Num.digs 10 X).length ≤ 400) (ly : (Num.digs 10 Y).length ≤ 400) :
    upQ X Y ≤ 436 ∧ (Num.digs 10 (X * 10 ^ upQ X Y)).length ≤ 436 ∧ (Num.digs 10 (X * 10 ^ upQ X Y / Y)).length ≤ 436 ∧ 36 ≤ (Num.digs 10 (X * 10 ^ upQ X Y / Y)).length := by
  have h1 : (Num.digs 10 (X * 10 ^ upQ X Y)).length = (Num.digs 10 X).length + upQ X Y := Num.digs_length_mul_pow (by decide) hX _
  have h2 : upQ X Y = 36 + (Num.digs 10 Y).length - (Num.digs 10 X).length := rfl
  have h3 := Num.digs_length_mono (b := 10) (by decide) (Nat.div_le_self (X * 10 ^ upQ X Y) Y)
  have h4 := drop_pos hX hY
  omega
/-- A row of limbs of its own, behind a pointer. -/
structure BoxL (W : World) (B p m : Nat) (a : Option Addr) (c : Nat) : Prop where
  blk : W.heap[p]? = some (.cells #[.slice a (Num.limbs m).length c] 22)
  own : W.ownsRow B 42 1 (.slice a (Num.limbs m).length c) (Num.limbs m).length (u32s (Num.limbs m))
theorem BoxL.below {W W' : World} {B p m c : Nat} {a : Option Addr} (h : BoxL W B p m a c) (hb : Below W.heap.size W W') : BoxL W' B p m a c := ⟨blk_below h.blk hb, owns_below h.own hb⟩
theorem BoxL.inU {W : World} {B p m c : Nat} {a : Option Addr} (h : BoxL W B p m a c) : U32 W a (Num.limbs m) := u32_limbs h.own

theorem keepDD {B : Nat} {w W w1 : World} {N M : Nat} {x y : Value} (h : W.cell? ⟨N, 1, none⟩ = some x ∧ W.cell? ⟨M, 1, none⟩ = some y ∧ Below B w W) (hB : B ≤ w.heap.size) (hb : Below W.heap.size W w1) :
    w1.cell? ⟨N, 1, none⟩ = some x ∧ w1.cell? ⟨M, 1, none⟩ = some y ∧ Below B w w1 :=
  ⟨by rw [(bcell hb).1 _ _ (cell_lt h.1)]; exact h.1, by rw [(bcell hb).1 _ _ (cell_lt h.2.1)]; exact h.2.1, h.2.2.trans (hb.mono (Nat.le_trans hB h.2.2.size))⟩

theorem AddAt.other {w w' : World} {x y : D} {N M c1 c2 : Nat} {b1 b2 : Option Addr} (h : AddAt w w' x y N M b1 c1 b2 c2) {p : Nat} {cs : Array Value} (hp : w'.heap[p]? = some (.cells cs 22)) (hle : w.heap.size + 1 + 1 < p) (hN : N ≠ p) (hM : M ≠ p) (o : Nat) (u : Value) : AddAt w (w'.setCell ⟨p, o, none⟩ u) x y N M b1 c1 b2 c2 :=
  ⟨⟨blk_other h.two.h1 hN o u, blk_other h.two.h2 hM o u, h.two.l1, h.two.l2, owns_other h.two.o1 hp (by decide) o u, owns_other h.two.o2 hp (by decide) o u, h.two.bel.setCell (by simp only; omega) _⟩, h.res.other (by omega) _ _⟩
theorem BoxL.set {W : World} {B p m c m' c' : Nat} {a a' : Option Addr} (h : BoxL W B p m a c) (h' : W.ownsRow B 42 1 (.slice a' (Num.limbs m').length c') (Num.limbs m').length (u32s (Num.limbs m'))) : BoxL (W.setCell ⟨p, 0, none⟩ (.slice a' (Num.limbs m').length c')) B p m' a' c' :=
  ⟨blk_set h.blk _, owns_other h' h.blk (by decide) _ _⟩
theorem taken_tell {g : Bool} {n Q : Nat} {E : Int} (h : nearB n E = true) : takenD g n Q E = (tellR (plainD g Q E)).1 ∧ (if takenE g n Q E = 1 then 3 else takenE g n Q E) = (tellR (plainD g Q E)).2 := by
  unfold takenD takenE tellR
  rw [if_pos h, if_pos h]
  by_cases hf : fitsB (plainD g Q E) = true
  · simp [hf]
  · simp [hf]

theorem near_form {H Y Q R drop : Nat} {mr : Bool} (hY : Y ≠ 0) (hd : 1 ≤ drop) (hQ : Q = H / Y) (hR : R = H % Y) (hm : mr = true ↔ 0 < R) :
    (if 5 * 10 ^ (drop - 1) < Q % 10 ^ drop ∨ (Q % 10 ^ drop = 5 * 10 ^ (drop - 1) ∧ (mr = true ∨ Q / 10 ^ drop % 2 = 1)) then Q / 10 ^ drop + 1 else Q / 10 ^ drop) = nearN H (Y * 10 ^ drop) := by
  obtain ⟨k, rfl⟩ : ∃ k, drop = k + 1 := ⟨drop - 1, by omega⟩
  rw [Nat.add_sub_cancel]
  have h := near_cut H Y (5 * 10 ^ k) (10 ^ (k + 1)) (by omega) (by rw [Nat.pow_succ]; omega)
  rw [← hQ, ← hR] at h
  rw [← h]
  simp only [hm]
theorem near_le {H Y Q R drop : Nat} {mr : Bool} (hY : Y ≠ 0) (hd : 1 ≤ drop) (hQ : Q = H / Y) (hR : R = H % Y) (hm : mr = true ↔ 0 < R) : nearN H (Y * 10 ^ drop) ≤ Q + 1 := by
  rw [← near_form hY hd hQ hR hm]
  have := Nat.div_le_self Q (10 ^ drop)
  split <;> omega
theorem near_len {Q V : Nat} (h2 : (Num.digs 10 Q).length ≤ 436) (hV : V ≤ Q + 1) : (Num.limbs V).length ≤ 60 := by
  obtain ⟨j, hj⟩ : ∃ j : Nat, j = 436 := ⟨_, rfl⟩
  have h3 := (Num.digs_length_le (b := 10) (by decide)).1 (Nat.le_trans h2 (Nat.le_of_eq hj.symm))
  have h4 : V < 10 ^ (j + 1) := by rw [Nat.pow_succ]; omega
  have h5 := (Num.digs_length_le (b := 10) (by decide)).2 h4
  exact limbs_pow (K := 437) (J := 60) (by omega) (by decide)
theorem exact_fin {x y : D} {u H Q R : Nat} (hx : ¬ x.m = 0) (hy : ¬ y.m = 0) (hu : u = upQ x.m y.m) (hH : H = x.m * 10 ^ u) (hQ : Q = H / y.m) (hR : R = H % y.m) (h : exactB Q R = true) : plainD (x.neg != y.neg) Q (x.e - y.e - u) = quotR x y := by
  subst hu hH hQ hR
  unfold exactB at h
  simp only [Bool.and_eq_true, decide_eq_true_eq] at h
  obtain ⟨⟨h1, h2⟩, h3⟩ := h
  obtain ⟨_, n2, _⟩ := taken_zero h2
  rw [n2] at h3
  exact (quot_exact hx hy h1 h3).symm

set_option maxRecDepth 100000 in
set_option maxHeartbeats 6400000 in
theorem div_walk (g : Bool) (a : Option Addr) (n cap : Nat) (e : Int) (g2 : Bool) (a2 : Option Addr) (n2 cap2 : Nat) (e2 : Int) (w : World) (htab : Pow w) (x y : D) (er : Nat)
    (CT : ∀ W, Below w.heap.size w W → Calls Tryz.prog 35 #[.agg #[.bool g, .slice a n cap, .int .i64 e], .agg #[.bool g2, .slice a2 n2 cap2, .int .i64 e2]] W (OutDD W x y er))
    (hp : er = 0 → IsPlain x ∧ fitsB x = true ∧ IsPlain y ∧ fitsB y = true) :
    Calls Tryz.prog 11 #[.agg #[.bool g, .slice a n cap, .int .i64 e], .agg #[.bool g2, .slice a2 n2 cap2, .int .i64 e2]] w (OutDE w (divR er x y).1 (divR er x y).2) := by
  obtain ⟨r, hr⟩ : ∃ r, r = divR er x y := ⟨_, rfl⟩
  rw [← hr]
  replace hr := hid hr
  replace CT := hid CT
  replace hp := hid hp
  replace htab := hid htab
  go_enter Tryz.func11, Tryz.ntmps11
  go_upto_region 1 with fail
  go_cut [6, 7, 8] from 18 (fun v6 v7 v8 w' => ∃ N M b1 c1 b2 c2, v6 = .pointer (some ⟨N, 0, none⟩) ∧ v7 = .pointer (some ⟨M, 0, none⟩) ∧ v8 = .int .i64 er ∧ AddAt w w' x y N M b1 c1 b2 c2)
  case first =>
    as_aux_lemma =>
      go_wp2_with fail
      refine (CT.out _ ((((Below.refl _ _).alloc (Nat.le_refl _) _).alloc (by simp) _).alloc (by simp; omega) _)).mono ?_
      rintro e1 w1 ⟨b1, c1, b2, c2, rfl, ho1, ho2⟩
      have HB1 := hid (below_alloc (below_alloc (below_alloc ho1.1)))
      have R3 := hid (show Cells3 w1 (w.heap.size + 1 + 1) from Cells3.below ⟨_, _, _, _, by simpa using blk_new2 (w.alloc _) _ _⟩ ho1.1)
      have I1 := hid ho1
      have I2 := hid ho2
      clear ho1 ho2 CT
      unfold decV
      go_wp2_with fail
      go_meet
      case rel =>
        exact ⟨w1.heap.size, w1.heap.size + 1, b1, c1, b2, c2, rfl, rfl, rfl, TwoD.new HB1.out (by simp) I1.out I2.out, R3.out.below (((Below.refl _ _).alloc (Nat.le_refl _) _).alloc (by simp) _)⟩
  case rest =>
    obtain ⟨N, M, b1, c1, b2, c2, rfl, rfl, rfl, AT⟩ := hcut
    have h1 := blk_three AT.two.h1
    have h2 := blk_three AT.two.h2
    have l1 := AT.two.l1
    have l2 := AT.two.l2
    obtain ⟨⟨k0, k1, k2⟩, _⟩ := h1
    obtain ⟨⟨q0, q1, q2⟩, _⟩ := h2
    obtain ⟨r0, r1, r2, p0, p1, p2⟩ := AT.res.get
    have f0 := AT.res.frozen 0
    have f1 := AT.res.frozen 1
    have f2 := AT.res.frozen 2
    replace AT := hid AT
    clear CT
    by_cases h0 : er = 0
    · obtain ⟨px, fx, py, fy⟩ := hp.out h0
      have hne : ((er : Int) != 0) = false := by rw [bne_eq_false_iff_eq]; omega
      have bx := plain_bounds px fx
      have bY := plain_bounds py fy
      by_cases hy0 : y.m = 0
      · rw [(limbs_zero_iff y.m).2 hy0] at q1
        have HR := hid (show r = (zeroD, 4) by rw [hr.out]; unfold divR; rw [if_neg (by omega), if_pos hy0])
        clear h0 hp hr px py fx fy hy0 bx bY
        go_wp2
        refine bodyPost_ret (v := .tuple #[decV zeroD none 0, .int .i64 4]) (by simp [results, Tryz.results11, go_sem, p0, p1, p2, decV, zeroD]; rfl) rfl ?_
        rw [HR.out]
        exact ⟨none, 0, rfl, below_put AT.out.two.bel (by omega) false none 0 0 0, World.ownsRow_nil _ _ _ _⟩
      · have hly : (((Num.limbs y.m).length : Int) == 0) = false := by rw [beq_eq_false_iff_ne]; have := limbs_zero_iff y.m; omega
        by_cases hx0 : x.m = 0
        · rw [(limbs_zero_iff x.m).2 hx0] at k1
          have HR := hid (show r = (zeroD, 0) by rw [hr.out]; unfold divR; rw [if_neg (by omega), if_neg hy0, if_pos hx0])
          clear h0 hp hr px py fx fy hy0 hx0 bx bY
          go_wp2
          refine bodyPost_ret (v := .tuple #[decV zeroD none 0, .int .i64 0]) (by simp [results, Tryz.results11, go_sem, p0, p1, p2, decV, zeroD]; rfl) rfl ?_
          rw [HR.out]
          exact ⟨none, 0, rfl, below_put AT.out.two.bel (by omega) false none 0 0 0, World.ownsRow_nil _ _ _ _⟩
        · have hlx : (((Num.limbs x.m).length : Int) == 0) = false := by rw [beq_eq_false_iff_ne]; have := limbs_zero_iff x.m; omega
          have HR := hid (show r = tellR (quotR x y) by rw [hr.out]; unfold divR; rw [if_neg (by omega), if_neg hy0, if_neg hx0])
          have qb := quot_bounds hx0 hy0 bx.1 bY.1
          have HX0 := hid hx0
          have HY0 := hid hy0
          have HBX := hid bx
          have HBY := hid bY
          have lX := limbs_pow (K := 400) (J := 45) bx.1 (by decide)
          have lY := limbs_pow (K := 400) (J := 45) bY.1 (by decide)
          obtain ⟨u, hu⟩ : ∃ u, u = upQ x.m y.m := ⟨_, rfl⟩
          have CD1 := fun W (hb : Below wc.heap.size wc W) => limb_Digits b1 c1 (Num.limbs x.m) W ((AT.out.two.i1.u).below hb) (by omega) (htab.out.next (AT.out.two.bel.trans (hb.mono AT.out.two.bel.size)))
          have CD2 := fun W (hb : Below wc.heap.size wc W) => limb_Digits b2 c2 (Num.limbs y.m) W ((AT.out.two.i2.u).below hb) (by omega) (htab.out.next (AT.out.two.bel.trans (hb.mono AT.out.two.bel.size)))
          rw [Num.worth_limbs] at CD1 CD2
          obtain ⟨dx, hdx⟩ : ∃ d, d = (Num.digs 10 x.m).length := ⟨_, rfl⟩
          obtain ⟨dy, hdy⟩ : ∃ d, d = (Num.digs 10 y.m).length := ⟨_, rfl⟩
          have hud : u = 36 + dy - dx := by rw [hu, hdx, hdy]; rfl
          have hdx4 : dx ≤ 400 := by rw [hdx]; exact bx.1
          have hdy4 : dy ≤ 400 := by rw [hdy]; exact bY.1
          rw [← hdx] at CD1
          rw [← hdy] at CD2
          rw [← hu] at qb
          replace qb := hid qb
          replace CD1 := hid CD1
          replace CD2 := hid CD2
          replace hu := hid hu
          have wr1 : IntKind.i64.wrap (36 + (dy : Int)) = 36 + (dy : Int) := IntWalk.i64_in _ (by omega)
          have wr2 : IntKind.i64.wrap (36 + (dy : Int) - dx) = 36 + (dy : Int) - dx := IntWalk.i64_in _ (by omega)
          clear h0 hp hr px py fx fy hy0 hx0 bx bY hdx hdy
          go_upto_region 8 with fail
          go_cut [9] from 18 (fun v9 w' => v9 = .int .i64 (u : Nat) ∧ Below wc.heap.size wc w')
          case first =>
            go_wp2_with fail
            go_region_held3 (fun w' => w'.cell? ⟨N, 1, none⟩ = some (.slice b1 (Num.limbs x.m).length c1) ∧ w'.cell? ⟨M, 1, none⟩ = some (.slice b2 (Num.limbs y.m).length c2) ∧ Below wc.heap.size wc w') (first | assumption | (exact ⟨k1, q1, (Below.refl _ _).drew⟩) | (exact keepDD (by assumption) (Nat.le_refl _) (by assumption))) ((go_at_call 36; first | ((with_reducible refine (CD1.out _ ?_).mono ?_); (simp only [*]); rintro e1 w1 ⟨rfl, hb1⟩) | ((with_reducible refine (CD2.out _ ?_).mono ?_); (simp only [*]); rintro e1 w2 ⟨rfl, hb2⟩)))
            all_goals
              rename_i hHeld
              obtain ⟨_, _, hB⟩ := hHeld
              have HB := hid hB
              clear hB hb1 hb2 CD1 CD2
              go_wp2_with fail
              go_meet
              case rel => exact ⟨by congr 1; omega, HB.out⟩
          case rest =>
            obtain ⟨rfl, hb⟩ := hcut
            replace AT := hid (AT.out.next hb)
            clear hb CD1 CD2 k0 k1 k2 q0 q1 q2 p0 p1 p2 f0 f1 f2 wr1 wr2 hud hdx4 hdy4 dx dy
            obtain ⟨⟨k0, k1, k2⟩, _⟩ := blk_three AT.out.two.h1
            obtain ⟨⟨q0, q1, q2⟩, _⟩ := blk_three AT.out.two.h2
            obtain ⟨H, hH⟩ : ∃ H, H = x.m * 10 ^ u := ⟨_, rfl⟩
            have hul := qb.out.1
            have CS := limb_Shift b1 c1 u (Num.limbs x.m) wc AT.out.two.i1.u (by omega) (by omega)
            rw [Num.worth_limbs, ← hH] at CS
            rw [← hH] at qb
            have lH := limbs_pow (K := 436) (J := 49) qb.out.2.1 (by decide)
            unfold OutUE at CS
            replace CS := hid CS
            replace hH := hid hH
            go_upto_region 9 with fail
            go_cut [10] from 18 (fun v10 w' => ∃ aH cH, v10 = .slice aH (Num.limbs H).length cH ∧ U32 w' aH (Num.limbs H) ∧ Below wc.heap.size wc w')
            case first =>
              go_wp2_with fail
              refine CS.out.mono ?_
              rintro e1 w1 ⟨aH, cH, rfl, hb1, ho1⟩
              have HB1 := hid hb1
              have HO1 := hid ho1
              clear hb1 ho1 CS
              go_wp2_with fail
              go_meet
              case rel => exact ⟨aH, cH, rfl, u32_limbs HO1.out, HB1.out⟩
            case rest =>
              obtain ⟨aH, cH, rfl, hu1, hb⟩ := hcut
              replace AT := hid (AT.out.next hb)
              clear hb CS k0 k1 k2 q0 q1 q2
              obtain ⟨⟨k0, k1, k2⟩, _⟩ := blk_three AT.out.two.h1
              obtain ⟨⟨q0, q1, q2⟩, _⟩ := blk_three AT.out.two.h2
              have CM := limb_DivMod aH b2 cH c2 (Num.limbs H) (Num.limbs y.m) wc hu1 AT.out.two.i2.u (by omega) (by omega) (by rw [Num.worth_limbs]; exact HY0.out)
              rw [Num.worth_limbs, Num.worth_limbs] at CM
              obtain ⟨Q, hQ⟩ : ∃ Q, Q = H / y.m := ⟨_, rfl⟩
              obtain ⟨Rr, hR⟩ : ∃ R, R = H % y.m := ⟨_, rfl⟩
              rw [← hQ, ← hR] at CM
              rw [← hQ] at qb
              have lQ := limbs_pow (K := 436) (J := 49) qb.out.2.2.1 (by decide)
              unfold OutUUE at CM
              replace CM := hid CM
              replace hQ := hid hQ
              replace hR := hid hR
              clear hu1
              go_upto_region 10 with fail
              go_cut [12, 13] from 18 (fun v12 v13 w' => ∃ pq aq cq ar cr, v12 = .pointer (some ⟨pq, 0, none⟩) ∧ v13 = .pointer (some ⟨pq + 1, 0, none⟩) ∧ w.heap.size + 1 + 1 < pq ∧ N < pq ∧ M < pq ∧ BoxL w' (w.heap.size + 1 + 1 + 1) pq Q aq cq ∧ BoxL w' (w.heap.size + 1 + 1 + 1) (pq + 1) Rr ar cr ∧ AddAt w w' x y N M b1 c1 b2 c2)
              case first =>
                have ltN := blk_lt AT.out.two.h1
                have ltM := blk_lt AT.out.two.h2
                go_wp2_with fail
                refine CM.out.mono ?_
                rintro e1 w1 ⟨aq, cq, ar, cr, rfl, hb1, ho1, ho2⟩
                have hsz := hb1.size
                have HB1 := hid hb1
                have HO1 := hid ho1
                have HO2 := hid ho2
                clear hb1 ho1 ho2 CM
                go_wp2_with fail
                go_meet
                case rel =>
                  have k1 := (Below.refl w1.heap.size w1).alloc (Nat.le_refl _) (.cells #[.slice aq (Num.limbs Q).length cq] 22)
                  have k2 := k1.alloc (by simp) (.cells #[.slice ar (Num.limbs Rr).length cr] 22)
                  have s2 : ((w1.alloc (.cells #[.slice aq (Num.limbs Q).length cq] 22)).alloc (.cells #[.slice ar (Num.limbs Rr).length cr] 22)).heap[w1.heap.size + 1]? = some (.cells #[.slice ar (Num.limbs Rr).length cr] 22) := blk_new2 w1 _ _
                  have s1 : ((w1.alloc (.cells #[.slice aq (Num.limbs Q).length cq] 22)).alloc (.cells #[.slice ar (Num.limbs Rr).length cr] 22)).heap[w1.heap.size]? = some (.cells #[.slice aq (Num.limbs Q).length cq] 22) := blk_alloc (blk_new w1 _) _
                  exact ⟨w1.heap.size, aq, cq, ar, cr, rfl, rfl, by omega, by omega, by omega, ⟨s1, owns_mono (owns_below HO1.out k2) (by omega)⟩, ⟨s2, owns_mono (owns_below HO2.out k2) (by omega)⟩, (AT.out.next HB1.out).next k2⟩
              case rest =>
                obtain ⟨pq, aq, cq, ar, cr, rfl, rfl, l3, l4, l5, hbq, hbr, hAT⟩ := hcut
                replace AT := hid hAT
                clear hAT CM k0 k1 k2 q0 q1 q2
                obtain ⟨⟨k0, k1, k2⟩, _⟩ := blk_three AT.out.two.h1
                obtain ⟨⟨q0, q1, q2⟩, _⟩ := blk_three AT.out.two.h2
                have HBQ := hid hbq
                have HBR := hid hbr
                clear hbq hbr
                obtain ⟨dq, hdq⟩ : ∃ d, d = (Num.digs 10 Q).length := ⟨_, rfl⟩
                have hq36 : 36 ≤ dq := by rw [hdq]; exact qb.out.2.2.2
                have hq436 : dq ≤ 436 := by rw [hdq]; exact qb.out.2.2.1
                obtain ⟨drop, hdr⟩ : ∃ d, d = dq - 34 := ⟨_, rfl⟩
                have hdI : (dq : Int) - 34 = (drop : Int) := by omega
                have hdl : 1 ≤ drop ∧ drop ≤ 402 := by omega
                have hdQ : drop = dropQ x.m y.m := by
                  unfold dropQ
                  rw [← hu.out, ← hH.out, ← hQ.out, ← hdq, hdr]
                have CD := limb_Digits aq cq (Num.limbs Q) wc HBQ.out.inU (by omega) (htab.out.next AT.out.two.bel)
                rw [Num.worth_limbs, ← hdq] at CD
                replace CD := hid CD
                replace hdQ := hid hdQ
                have hx1 := HBX.out.2
                have hy1 := HBY.out.2
                have wr3 : IntKind.i64.wrap (x.e - y.e) = x.e - y.e := IntWalk.i64_in _ (by omega)
                have wr4 : IntKind.i64.wrap (x.e - y.e - u) = x.e - y.e - u := IntWalk.i64_in _ (by omega)
                clear hdq hdr hlx hly
                go_upto_region 13 with fail
                go_cut [17] from 18 (fun v17 w' => v17 = .int .i64 (drop : Nat) ∧ Below wc.heap.size wc w')
                case first =>
                  obtain ⟨cq1, fq1⟩ := blk_one HBQ.out.blk
                  go_wp2_with fail
                  refine CD.out.mono ?_
                  rintro e1 w1 ⟨rfl, hb1⟩
                  have HB1 := hid hb1
                  clear hb1 CD
                  go_wp2_with fail
                  go_meet
                  case rel => exact ⟨by first | rw [hdI] | congr 1, HB1.out⟩
                case rest =>
                  obtain ⟨rfl, hb⟩ := hcut
                  replace AT := hid (AT.out.next hb)
                  replace HBQ := hid (HBQ.out.below hb)
                  replace HBR := hid (HBR.out.below hb)
                  clear hb CD k0 k1 k2 q0 q1 q2 hdI hq36 hq436
                  obtain ⟨cq1, fq1⟩ := blk_one HBQ.out.blk
                  obtain ⟨cr1, fr1⟩ := blk_one HBR.out.blk
                  have CE := div_exact wc pq (pq + 1) cq cr Q Rr aq ar cq1 cr1 HBQ.out.inU (htab.out.next AT.out.two.bel)
                  obtain ⟨ex, hex⟩ : ∃ b, b = exactB Q Rr := ⟨_, rfl⟩
                  rw [← hex] at CE
                  replace CE := hid CE
                  replace hex := hid hex
                  have hcall := run_callFunc Tryz.func39 (by kernel_rfl) (by kernel_rfl)
                  have hdp : (0 : Int) < (drop : Nat) := by omega
                  go_upto_region 14 with fail
                  go_cut [83] from 18 (fun v83 w' => v83 = .bool (!ex) ∧ Below wc.heap.size wc w')
                  case first =>
                    go_wp2_with fail
                    refine CE.out.mono ?_
                    rintro e1 w1 ⟨rfl, hb1⟩
                    have HB1 := hid hb1
                    clear hb1 CE
                    go_wp2_with fail
                    go_meet
                    case rel => exact ⟨by first | rfl | simp, HB1.out⟩
                  case rest =>
                    obtain ⟨rfl, hb⟩ := hcut
                    replace AT := hid (AT.out.next hb)
                    replace HBQ := hid (HBQ.out.below hb)
                    replace HBR := hid (HBR.out.below hb)
                    clear hb CE hcall cq1 fq1 cr1 fr1
                    obtain ⟨cq1, fq1⟩ := blk_one HBQ.out.blk
                    obtain ⟨cr1, fr1⟩ := blk_one HBR.out.blk
                    have hltq := blk_lt HBQ.out.blk
                    go_upto_if 83 with fail
                    go_cut [15] from 18 (fun v15 w' => ∃ Q' E' aq' cq', v15 = .int .i64 E' ∧ BoxL w' (w.heap.size + 1 + 1 + 1) pq Q' aq' cq' ∧ AddAt w w' x y N M b1 c1 b2 c2 ∧ plainD (x.neg != y.neg) Q' E' = quotR x y ∧ (Num.limbs Q').length ≤ 60 ∧ -30000 ≤ E' ∧ E' ≤ 30000)
                    case first =>
                      cases ex with
                      | true =>
                        have hfin := exact_fin HX0.out HY0.out hu.out hH.out hQ.out hR.out hex.out.symm
                        replace hfin := hid hfin
                        go_wp2_with fail
                        go_meet
                        case rel => exact ⟨Q, _, aq, cq, rfl, HBQ.out, AT.out, hfin.out, by omega, by omega, by omega⟩
                      | false =>
                        obtain ⟨mr, hmr⟩ : ∃ b, b = decide (0 < (Num.limbs Rr).length) := ⟨_, rfl⟩
                        have hmr2 : mr = true ↔ 0 < Rr := by
                          rw [hmr]
                          have := limbs_zero_iff Rr
                          rw [decide_eq_true_eq]
                          omega
                        have hmore := hmr.symm
                        have hQ0 : Q ≠ 0 := by
                          intro e0
                          have h1 := qb.out.2.2.2
                          rw [e0, Num.digs_zero] at h1
                          simp at h1
                        have CNr := quot_nearest aq cq Q drop mr wc HBQ.out.inU hQ0 (by omega) hdl.1 (by omega)
                        rw [near_form HY0.out hdl.1 hQ.out hR.out hmr2] at CNr
                        have hVQ := near_le HY0.out hdl.1 hQ.out hR.out hmr2
                        obtain ⟨V, hV⟩ : ∃ V, V = nearN H (y.m * 10 ^ drop) := ⟨_, rfl⟩
                        rw [← hV] at CNr hVQ
                        have lV := near_len qb.out.2.2.1 hVQ
                        have hfin : plainD (x.neg != y.neg) V (x.e - y.e - u + drop) = quotR x y := by
                          unfold quotR
                          rw [← hu.out, ← hH.out, ← hdQ.out, hV]
                        have wr5 : IntKind.i64.wrap (x.e - y.e - u + drop) = x.e - y.e - u + drop := IntWalk.i64_in _ (by omega)
                        unfold OutU at CNr
                        replace CNr := hid CNr
                        replace hfin := hid hfin
                        clear hV hVQ hmr2 hmr hQ0
                        go_wp2_with fail
                        try rw [hmore]
                        refine CNr.out.mono ?_
                        rintro e1 w1 ⟨a', c', rfl, hb1, ho1⟩
                        have HB1 := hid hb1
                        have HO1 := hid ho1
                        have hltq1 : pq < w1.heap.size := Nat.lt_of_lt_of_le hltq hb1.size
                        have hb1sz := AT.out.two.bel.size
                        have cq2 := (bcell hb1).1 pq 0 hltq
                        rw [cq1] at cq2
                        have fq2 := (bcell hb1).2 pq 0 hltq
                        rw [fq1] at fq2
                        clear hb1 ho1 CNr
                        go_wp2_with fail
                        go_meet
                        case rel =>
                          have bq := HBQ.out.below HB1.out
                          have hBle : w.heap.size + 1 + 1 + 1 ≤ wc.heap.size := by omega
                          exact ⟨V, _, a', c', rfl, bq.set (owns_mono HO1.out hBle), (AT.out.next HB1.out).other bq.blk l3 (by omega) (by omega) _ _, hfin.out, lV, by omega, by omega⟩
                    case rest =>
                      obtain ⟨Q', E', aq', cq', rfl, hbq, hAT, hfin, l6, eb1, eb2⟩ := hcut
                      replace AT := hid hAT
                      replace HBQ := hid hbq
                      clear hAT hbq cq1 fq1 cr1 fr1 HBR hex wr3 wr4
                      obtain ⟨⟨k0, k1, k2⟩, _⟩ := blk_three AT.out.two.h1
                      obtain ⟨⟨q0, q1, q2⟩, _⟩ := blk_three AT.out.two.h2
                      obtain ⟨cq1, fq1⟩ := blk_one HBQ.out.blk
                      have hltN := blk_lt AT.out.two.h1
                      have CN := quot_norm (x.neg != y.neg) aq' cq' E' (Num.limbs Q') wc HBQ.out.inU (htab.out.next AT.out.two.bel)
                      rw [Num.worth_limbs] at CN
                      obtain ⟨t1, t2⟩ := taken_tell (g := x.neg != y.neg) (Q := Q') (nearB_iff.2 ⟨(by omega : (Num.limbs Q').length ≤ 200), eb1, eb2⟩)
                      rw [t1, t2, hfin] at CN
                      obtain ⟨t, ht⟩ : ∃ t, t = tellR (quotR x y) := ⟨_, rfl⟩
                      rw [← ht] at CN
                      have HR2 := hid (HR.out.trans ht.symm)
                      simp only [bne] at CN
                      unfold OutDE decV at CN
                      replace CN := hid CN
                      clear t1 t2 hfin ht eb1 eb2 l6
                      go_wp2_with fail
                      refine CN.out.mono ?_
                      rintro e1 w1 ⟨a3, c3, rfl, ho3⟩
                      have hr3 := AT.out.res.below ho3.1
                      obtain ⟨_, _, _, p0, p1, p2⟩ := hr3.get
                      have f0 := hr3.frozen 0
                      have f1 := hr3.frozen 1
                      have f2 := hr3.frozen 2
                      have HB3 := hid (below_trans AT.out.two.bel ho3.1)
                      have HO := hid (owns_mono (owns_set3 (R := w.heap.size + 1 + 1) ho3.2 (by omega) (.bool t.1.neg) (.slice a3 (Num.limbs t.1.m).length c3) (.int .i64 t.1.e)) (show w.heap.size ≤ _ by omega))
                      clear ho3 hr3 CN
                      go_wp2_with fail
                      refine bodyPost_ret (v := .tuple #[decV t.1 a3 c3, .int .i64 t.2]) (by simp [results, Tryz.results11, go_sem, p0, p1, p2, decV]) rfl ?_
                      rw [HR2.out]
                      exact ⟨a3, c3, rfl, below_put HB3.out (by omega) _ _ _ _ _, HO.out⟩
    · have hne : ((er : Int) != 0) = true := by rw [bne_iff_ne]; omega
      have HR := hid (show r = (zeroD, er) by rw [hr.out]; unfold divR; rw [if_pos h0])
      clear h0 hp hr
      go_wp2
      refine bodyPost_ret (v := .tuple #[decV zeroD none 0, .int .i64 er]) (by simp [results, Tryz.results11, go_sem, p0, p1, p2, decV, zeroD]; rfl) rfl ?_
      rw [HR.out]
      exact ⟨none, 0, rfl, below_put AT.out.two.bel (by omega) false none 0 0 0, World.ownsRow_nil _ _ _ _⟩

theorem quot_Div (g : Bool) (a : Option Addr) (cap : Nat) (e : Int) (xs : List Nat) (g2 : Bool) (a2 : Option Addr) (cap2 : Nat) (e2 : Int) (ys : List Nat) (w : World) (h : U32 w a xs) (h2 : U32 w a2 ys) (htab : Pow w) :
    Calls Tryz.prog 11 #[.agg #[.bool g, .slice a xs.length cap, .int .i64 e], .agg #[.bool g2, .slice a2 ys.length cap2, .int .i64 e2]] w
      (OutDE w (divR (bothE (takenE g xs.length (Num.worth xs) e) (takenE g2 ys.length (Num.worth ys) e2)) (takenD g xs.length (Num.worth xs) e) (takenD g2 ys.length (Num.worth ys) e2)).1
        (divR (bothE (takenE g xs.length (Num.worth xs) e) (takenE g2 ys.length (Num.worth ys) e2)) (takenD g xs.length (Num.worth xs) e) (takenD g2 ys.length (Num.worth ys) e2)).2) := by
  refine div_walk g a xs.length cap e g2 a2 ys.length cap2 e2 w htab _ _ _ (fun W hb => quot_taken g a cap e xs g2 a2 cap2 e2 ys W (h.below hb) (h2.below hb) (htab.next hb)) ?_
  intro h0
  obtain ⟨z1, z2⟩ := bothE_zero h0
  have t1 := taken_facts z1
  have t2 := taken_facts z2
  exact ⟨t1.1, t1.2, t2.1, t2.2⟩

end Go.Proofs.YtiblmkecipoanaaGreatDoor

namespace Go.Proofs.YtiblmkecipoanaaGreatDoor
open Go.RowKit

/-- A number's whole part without its sign; what stands behind the point; half of the power that the point cuts off. -/
def wholeN (d : D) : Nat := if 0 ≤ d.e then d.m * 10 ^ d.e.toNat else d.m / 10 ^ (-d.e).toNat
def offN (d : D) : Nat := if 0 ≤ d.e then 0 else d.m % 10 ^ (-d.e).toNat
def restB (d : D) : Bool := decide (0 < offN d)
def halfB (d : D) : Bool := decide (d.e < 0) && decide (5 * 10 ^ ((-d.e).toNat - 1) ≤ offN d)

set_option maxRecDepth 100000 in
set_option maxHeartbeats 3200000 in
theorem quot_split (d : D) (a : Option Addr) (cap : Nat) (w : World) (h : InD w d a cap) (hd : IsPlain d) (hf : fitsB d = true) :
    Calls Tryz.prog 47 #[decV d a cap] w fun en w' => ∃ a1 c1, en = .returned (.tuple #[.slice a1 (Num.limbs (wholeN d)).length c1, .bool (restB d), .bool (halfB d)]) ∧ Below w.heap.size w w' ∧
      w'.ownsRow w.heap.size 42 1 (.slice a1 (Num.limbs (wholeN d)).length c1) (Num.limbs (wholeN d)).length (u32s (Num.limbs (wholeN d))) := by
  have bd := plain_bounds hd hf
  have lm := limbs_400 bd.1
  obtain ⟨g, m, e⟩ := d
  simp only at bd lm
  have hu := h.u
  simp only at hu
  by_cases h0 : 0 ≤ e
  · obtain ⟨k, rfl⟩ : ∃ k : Nat, e = (k : Int) := ⟨e.toNat, by omega⟩
    have hk : k ≤ 30000 := by omega
    have e1 : wholeN ⟨g, m, (k : Int)⟩ = m * 10 ^ k := by unfold wholeN; simp
    have e2 : restB ⟨g, m, (k : Int)⟩ = false := by unfold restB offN; simp
    have e3 : halfB ⟨g, m, (k : Int)⟩ = false := by unfold halfB; rw [decide_eq_false (by simp only; omega)]; rfl
    rw [e1, e2, e3]
    have CS := fun W (hb : Below w.heap.size w W) => limb_Shift a cap k (Num.limbs m) W (hu.below hb) (by omega) hk
    rw [Num.worth_limbs] at CS
    obtain ⟨V, hV⟩ : ∃ V, V = m * 10 ^ k := ⟨_, rfl⟩
    rw [← hV] at CS ⊢
    unfold OutUE at CS
    replace CS := hid CS
    have hk0 : (0 : Int) ≤ (k : Nat) := by omega
    unfold decV
    dsimp only
    clear h hd hf bd hu e1 e2 e3 hV h0
    go_enter Tryz.func47, Tryz.ntmps47
    go_wp2_with fail
    refine (CS.out _ ((Below.refl _ _).alloc (Nat.le_refl _) _)).mono ?_
    rintro e1 w1 ⟨a1, c1, rfl, hb1, ho1⟩
    have HB1 := hid (below_alloc hb1)
    have HO1 := hid (owns_mono ho1 (show w.heap.size ≤ _ by simp))
    clear hb1 ho1 CS
    go_wp2
    refine bodyPost_ret (v := .tuple #[.slice a1 (Num.limbs V).length c1, .bool false, .bool false]) (by simp [results, Tryz.results47, go_sem]) rfl ?_
    exact ⟨a1, c1, rfl, HB1.out, HO1.out⟩
  · obtain ⟨k, hk⟩ : ∃ k : Nat, -e = ((k + 1 : Nat) : Int) := ⟨(-e).toNat - 1, by omega⟩
    have hk3 : k + 1 ≤ 30000 := by omega
    have hkn : (-e).toNat = k + 1 := by omega
    have hm : m ≠ 0 := by
      intro e0
      have := hd.1 e0
      unfold zeroD at this
      simp only [D.mk.injEq] at this
      omega
    have e1 : wholeN ⟨g, m, e⟩ = m / 10 ^ (k + 1) := by
      unfold wholeN; rw [if_neg h0]; simp only [hkn]
    have eo : offN ⟨g, m, e⟩ = m % 10 ^ (k + 1) := by
      unfold offN; rw [if_neg h0]; simp only [hkn]
    have e2 : restB ⟨g, m, e⟩ = decide (0 < m % 10 ^ (k + 1)) := by unfold restB; rw [eo]
    have e3 : halfB ⟨g, m, e⟩ = decide (5 * 10 ^ k ≤ m % 10 ^ (k + 1)) := by
      unfold halfB; rw [eo, decide_eq_true (by simp only; omega), Bool.true_and]; simp only [hkn, Nat.add_sub_cancel]
    rw [e1, e2, e3]
    have CC := fun W (hb : Below w.heap.size w W) => limb_Cut a cap (k + 1) (Num.limbs m) W (hu.below hb) (by omega) hk3 (by rw [Num.worth_limbs]; exact hm)
    rw [Num.worth_limbs] at CC
    have CS := fun W N (hu : U32 W (some ⟨N, 0, none⟩) [5]) => limb_Shift (some ⟨N, 0, none⟩) 1 k [5] W hu (by simp) (by omega)
    rw [show Num.worth [5] = 5 from rfl] at CS
    obtain ⟨K, hK⟩ : ∃ K, K = m / 10 ^ (k + 1) := ⟨_, rfl⟩
    obtain ⟨o, ho⟩ : ∃ o, o = m % 10 ^ (k + 1) := ⟨_, rfl⟩
    obtain ⟨f, hf'⟩ : ∃ f, f = 5 * 10 ^ k := ⟨_, rfl⟩
    have lo : (Num.limbs o).length ≤ 45 := Nat.le_trans (Num.digs_length_mono Num.two_le_B9 (by rw [ho]; exact Nat.mod_le _ _)) lm
    have lf : (Num.limbs f).length ≤ 4000 := by rw [hf']; exact limbs_five k (by omega)
    rw [← hK, ← ho] at CC
    rw [← hf'] at CS
    rw [← hK, ← ho, ← hf']
    have CP := fun W a1 c1 a2 c2 (h1 : U32 W a1 (Num.limbs o)) (h2 : U32 W a2 (Num.limbs f)) => limb_Cmp a1 a2 c1 c2 (Num.limbs o) (Num.limbs f) W h1 h2 (by omega) (by omega)
    rw [Num.worth_limbs, Num.worth_limbs] at CP
    have hr : decide (0 < (Num.limbs o).length) = decide (0 < o) := by
      rw [decide_eq_decide]; have := limbs_zero_iff o; omega
    have hh : decide ((0 : Int) ≤ cmpN o f) = decide (f ≤ o) := by
      rw [decide_eq_decide]
      rcases cmpN_cases o f with ⟨h1, h2⟩ | ⟨h1, h2⟩ | ⟨h1, h2⟩ <;> rw [h2] <;> omega
    unfold OutUUE at CC
    unfold OutUE at CS
    replace CS := hid CS
    replace CP := hid CP
    have HRr := hid hr
    have HHh := hid hh
    have hneg : ¬ (0 : Int) ≤ e := h0
    obtain ⟨j, hj⟩ : ∃ j, j = k + 1 := ⟨_, rfl⟩
    rw [← hj] at CC
    have hej : -e = (j : Int) := by omega
    have hbig : ¬ (30000 : Int) < (j : Int) := by omega
    have hjk : (j : Int) - 1 = (k : Int) := by omega
    have hjb : 0 ≤ j ∧ j ≤ 30000 := by omega
    have heb : -30000 ≤ e := by omega
    replace CC := hid CC
    unfold decV
    dsimp only
    clear h hd hf bd hu e1 e2 e3 eo hK ho hf' hm hr hh hk h0 hkn hj
    go_enter Tryz.func47, Tryz.ntmps47
    go_wp2_with fail
    try rw [hej]
    refine (CC.out _ ((Below.refl _ _).alloc (Nat.le_refl _) _)).mono ?_
    rintro e1 w1 ⟨a7, c7, a8, c8, rfl, hb1, ho7, ho8⟩
    have HB1 := hid (below_alloc hb1)
    have HO7 := hid (owns_mono ho7 (show w.heap.size ≤ _ by simp))
    have HO8 := hid ho8
    clear hb1 ho7 ho8 CC
    go_wp2_with fail
    try rw [hjk]
    refine (CS.out _ _ (u32_one (by decide) (blk_cell (blk_new w1 _) 0))).mono ?_
    rintro e2 w2 ⟨a9, c9, rfl, hb2, ho9⟩
    have HB2 := hid (below_alloc hb2)
    have HO9 := hid ho9
    clear hb2 ho9 CS
    go_wp2_with fail
    refine (CP.out _ _ _ _ _ ((u32_limbs HO8.out).below HB2.out) (u32_limbs HO9.out)).mono ?_
    rintro e3 w3 ⟨rfl, hb3⟩
    have HB3 := hid (below_trans (below_trans HB1.out HB2.out) hb3)
    have HO := hid (owns_below (owns_below HO7.out HB2.out) hb3)
    clear hb3 HO7 HO8 HO9 HB1 HB2 CP
    go_wp2
    refine bodyPost_ret (v := .tuple #[.slice a7 (Num.limbs K).length c7, .bool (decide (0 < (Num.limbs o).length)), .bool (decide ((0 : Int) ≤ cmpN o f))]) (by simp [results, Tryz.results47, go_sem]) rfl ?_
    rw [HRr.out, HHh.out]
    exact ⟨a7, c7, rfl, HB3.out, HO.out⟩

end Go.Proofs.YtiblmkecipoanaaGreatDoor
