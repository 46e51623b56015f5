/- Layer 1, third part: ten, order, Cmp, less, Sub. -/
import Derived.Test.YtmdgciolnpkccaaGreatDoorLimbB
namespace Go.Proofs.YtmdgciolnpkccaaGreatDoor
open Go.RowKit

theorem limb_ten (n : Nat) (w : World) (hn : n ≤ 9) :
    Calls Tryz.prog 151 #[.int .i64 n] w fun e w' => e = .returned (.int .u64 ((10 ^ n : Nat) : Int)) ∧ w = w' := by
  have HP : Hid (∀ k, k ≤ n → 10 ^ k ≤ 1000000000) := fun k hk => Nat.pow_le_pow_right (by omega) (by omega : k ≤ 9)
  go_enter Tryz.func151, Tryz.ntmps151
  go_wp2
  go_loop [3, 5] (fun p i => ∃ (k P : Nat), k ≤ n ∧ i = .int .i64 k ∧ p = .int .u64 P ∧ P = 10 ^ k) (fun _ i => n - (intOf i).toNat)
  case atStart => exact ⟨0, 1, Nat.zero_le _, rfl, rfl, rfl⟩
  case round =>
    obtain ⟨k, P, hk, rfl, rfl, hP⟩ := hrel
    have hb : P ≤ 1000000000 := by rw [hP]; exact HP.out k hk
    have HQ := hid hP
    clear hP
    by_cases hlt : k < n
    · go_wp2
      go_round
      case rel => exact ⟨k + 1, P * 10, by omega, by go_num, by go_num, by rw [HQ.out, Nat.pow_succ]⟩
      case measure => simp [intOf]; omega
    · obtain rfl : n = k := by omega
      go_wp2
      go_ret
      exact ⟨ret_int (by rw [HQ.out]; simp), rfl⟩

theorem compare_u32 (x y : Nat) (w : World) :
    Calls Tryz.prog 197 #[.int .u32 x, .int .u32 y] w fun e w' => e = .returned (.int .i64 (cmpN x y)) ∧ w = w' := by
  rcases Nat.lt_trichotomy x y with h | h | h
  · have e : cmpN x y = -1 := by simp [cmpN, h]
    rw [e]
    go_enter Tryz.func197, Tryz.ntmps197
    go_wp2
    go_ret
    exact ⟨rfl, rfl⟩
  · subst h
    have e : cmpN x x = 0 := by simp [cmpN]
    rw [e]
    go_enter Tryz.func197, Tryz.ntmps197
    go_wp2
    go_ret
    exact ⟨rfl, rfl⟩
  · have e : cmpN x y = 1 := by unfold cmpN; rw [if_neg (by omega), if_pos h]
    rw [e]
    go_enter Tryz.func197, Tryz.ntmps197
    go_wp2
    go_ret
    exact ⟨rfl, rfl⟩

theorem cmpN_eq {x y : Nat} : cmpN x y = 0 ↔ x = y := by unfold cmpN; split <;> (try split) <;> omega
theorem cmpN_lt {x y : Nat} (h : x < y) : cmpN x y = -1 := by simp [cmpN, h]
theorem cmpN_gt {x y : Nat} (h : y < x) : cmpN x y = 1 := by unfold cmpN; rw [if_neg (by omega), if_pos h]

theorem drewN_more {w wr : World} (h : ∃ q, wr = w.drewN q) (n : Nat) : ∃ q, wr.drewN n = w.drewN q := by
  obtain ⟨q, rfl⟩ := h; exact ⟨q + n, World.drewN_drewN _ _ _⟩

set_option maxRecDepth 100000 in
/-- Two lists of one length: the highest limbs that part. -/
theorem order_same (b off b2 off2 n cap cap2 : Nat) (xs ys : List Nat) (w : World) (hn : n ≤ 1000000000) (hx : xs.length = n) (hy : ys.length = n) (lx : ∀ x ∈ xs, x < 1000000000) (ly : ∀ x ∈ ys, x < 1000000000)
    (c1 : ∀ j, j < n → w.cell? ⟨b, off + j, none⟩ = some (.int .u32 ((xs.getD j 0 : Nat) : Int))) (c2 : ∀ j, j < n → w.cell? ⟨b2, off2 + j, none⟩ = some (.int .u32 ((ys.getD j 0 : Nat) : Int))) :
    Calls Tryz.prog 154 #[.slice (some ⟨b, off, none⟩) n cap, .slice (some ⟨b2, off2, none⟩) n cap2] w fun e w' => e = .returned (.int .i64 (cmpN (Num.worth xs) (Num.worth ys))) ∧ ∃ q, w' = w.drewN q := by
  have HX := hid hx
  have HY := hid hy
  have LX := hid lx
  have LY := hid ly
  have C1 := hid c1
  have C2 := hid c2
  clear hx hy lx ly c1 c2
  have hc0 : cmpN n n = 0 := cmpN_eq.2 rfl
  go_enter Tryz.func154, Tryz.ntmps154
  go_wp2_with (go_at_call 132; refine (compare_int n n _ (by omega) (by omega)).mono ?_; rintro e w' ⟨rfl, rfl⟩)
  go_loopw [6] (fun i wr => ∃ k : Nat, k ≤ n ∧ i = .int .i64 ((k : Int) - 1) ∧ xs.drop k = ys.drop k ∧ ∃ q, wr = w.drewN q) (fun i _ => (intOf i + 1).toNat)
  case atStart => exact ⟨n, Nat.le_refl _, rfl, by rw [List.drop_of_length_le (by have := HX.out; omega), List.drop_of_length_le (by have := HY.out; omega)], 0, rfl⟩
  case round =>
    obtain ⟨k, hk, rfl, hd, hq⟩ := hrel
    have HD := hid hd
    have HQ := hid hq
    clear hd
    by_cases hk0 : k = 0
    · subst hk0
      go_wp2
      go_ret
      exact ⟨ret_int (cmpN_eq.2 (show Num.worth xs = Num.worth ys from congrArg Num.worth HD.out)).symm, HQ.out⟩
    · obtain ⟨m, rfl⟩ : ∃ m, k = m + 1 := ⟨k - 1, by omega⟩
      have e1 : ((m + 1 : Nat) : Int) - 1 = (m : Int) := by omega
      rw [e1]
      obtain ⟨x, hxe⟩ : ∃ x, x = xs.getD m 0 := ⟨_, rfl⟩
      obtain ⟨y, hye⟩ : ∃ y, y = ys.getD m 0 := ⟨_, rfl⟩
      have g1 : wr.cell? ⟨b, off + m, none⟩ = some (.int .u32 ((xs.getD m 0 : Nat) : Int)) := by obtain ⟨q, rfl⟩ := hq; exact C1.out m (by omega)
      have g2 : wr.cell? ⟨b2, off2 + m, none⟩ = some (.int .u32 ((ys.getD m 0 : Nat) : Int)) := by obtain ⟨q, rfl⟩ := hq; exact C2.out m (by omega)
      clear hq
      rw [← hxe] at g1
      rw [← hye] at g2
      have hm1 : m < xs.length := by have := HX.out; omega
      have hm2 : m < ys.length := by have := HY.out; omega
      have hmn : m < n := by omega
      have HXE := hid hxe
      have HYE := hid hye
      clear hxe hye e1
      go_wp2_with fail
      go_quiet ((go_at_call 197; exact quiet_same (compare_u32 x y _)))
      have HN : Hid (∀ (c : Int), c = cmpN x y → c ≠ 0 → cmpN (Num.worth xs) (Num.worth ys) = c) := by
        intro c hc h0
        rcases Nat.lt_trichotomy x y with h | h | h
        · rw [hc, cmpN_lt h]
          exact cmpN_lt (Num.val_lt_top (by decide) xs ys LX.out m hm1 hm2 HD.out (by rw [← HXE.out, ← HYE.out]; exact h))
        · exact absurd (cmpN_eq.2 h) (hc ▸ h0)
        · rw [hc, cmpN_gt h]
          exact cmpN_gt (Num.val_lt_top (by decide) ys xs LY.out m hm2 hm1 HD.out.symm (by rw [← HXE.out, ← HYE.out]; exact h))
      have HE : Hid (cmpN x y = 0 → xs.drop m = ys.drop m) := by
        intro h
        rw [Num.drop_getD hm1, Num.drop_getD hm2, HD.out, ← HXE.out, ← HYE.out, cmpN_eq.1 h]
      obtain ⟨c, hc⟩ : ∃ c, c = cmpN x y := ⟨_, rfl⟩
      rw [← hc] at HE ⊢
      have HN := hid (HN.out c hc)
      clear hc hm1 hm2
      by_cases h0 : c = 0
      · subst h0
        go_wp2
        go_roundw
        case rel => exact ⟨m, by omega, by go_num, HE.out rfl, drewN_more HQ.out nq⟩
        case measure => simp [intOf]
      · have h0' : (c != 0) = true := by simpa using h0
        go_wp2
        go_ret
        exact ⟨ret_int (HN.out h0).symm, drewN_more HQ.out nq⟩

theorem order_empty (a a2 : Option Addr) (cap cap2 : Nat) (w : World) :
    Calls Tryz.prog 154 #[.slice a 0 cap, .slice a2 0 cap2] w fun e w' => e = .returned (.int .i64 0) ∧ ∃ q, w' = w.drewN q := by
  have C := compare_int 0 0
  have e0 : cmpN 0 0 = 0 := rfl
  rw [e0] at C
  have C := hid C
  go_enter Tryz.func154, Tryz.ntmps154
  go_wp2_with (go_at_call 132; refine (C.out _ (by omega) (by omega)).mono ?_; rintro e w' ⟨rfl, rfl⟩)
  refine wp_loop_rounds 1 ?_
  rw [rounds_succ]
  go_wp2
  go_ret
  exact ⟨rfl, 0, rfl⟩
theorem order_diff (a a2 : Option Addr) (n n2 cap cap2 : Nat) (c : Int) (w : World) (hn : n ≤ 1000000000) (hn2 : n2 ≤ 1000000000) (hc : cmpN n n2 = c) (h0 : (c != 0) = true) :
    Calls Tryz.prog 154 #[.slice a n cap, .slice a2 n2 cap2] w fun e w' => e = .returned (.int .i64 c) ∧ ∃ q, w' = w.drewN q := by
  have C := compare_int n n2
  rw [hc] at C
  have C := hid C
  clear hc
  go_enter Tryz.func154, Tryz.ntmps154
  go_wp2_with (go_at_call 132; refine (C.out _ (by omega) (by omega)).mono ?_; rintro e w' ⟨rfl, rfl⟩)
  go_ret
  exact ⟨rfl, 0, rfl⟩
theorem limb_order (a a2 : Option Addr) (cap cap2 m n : Nat) (w : World) (h : U32 w a (Num.limbs m)) (h2 : U32 w a2 (Num.limbs n)) (hm : (Num.limbs m).length ≤ 1000000000) (hn : (Num.limbs n).length ≤ 1000000000) :
    Calls Tryz.prog 154 #[.slice a (Num.limbs m).length cap, .slice a2 (Num.limbs n).length cap2] w fun e w' => e = .returned (.int .i64 (cmpN m n)) ∧ ∃ q, w' = w.drewN q := by
  have key := Num.lt_of_digs_length Num.two_le_B9 (m := m) (n := n)
  have key2 := Num.lt_of_digs_length Num.two_le_B9 (m := n) (n := m)
  rcases Nat.lt_trichotomy (Num.limbs m).length (Num.limbs n).length with hl | hl | hl
  · rw [cmpN_lt (key hl)]
    exact order_diff a a2 _ _ cap cap2 _ w hm hn (cmpN_lt hl) rfl
  · by_cases h0 : Num.limbs m = []
    · have h1 : Num.limbs n = [] := List.length_eq_zero_iff.1 (by rw [← hl, h0]; rfl)
      rw [cmpN_eq.2 (Num.digs_inj Num.two_le_B9 (h0.trans h1.symm)), h0, h1]
      exact order_empty a a2 cap cap2 w
    · have h1 : Num.limbs n ≠ [] := by intro e; rw [e] at hl; exact h0 (List.length_eq_zero_iff.1 hl)
      obtain ⟨b, off, rfl⟩ := h.isSome h0
      obtain ⟨b2, off2, rfl⟩ := h2.isSome h1
      have C := order_same b off b2 off2 (Num.limbs m).length cap cap2 (Num.limbs m) (Num.limbs n) w hm rfl hl.symm (Num.limbs_lt m) (Num.limbs_lt n) (fun j hj => h.row.u32 hj) (fun j hj => h2.row.u32 (by omega))
      rw [Num.worth_limbs, Num.worth_limbs] at C
      rw [← hl]
      exact C
  · rw [cmpN_gt (key2 hl)]
    exact order_diff a a2 _ _ cap cap2 _ w hm hn (cmpN_gt hl) rfl

/-- So many limbs has a number. -/
theorem limbs_length_le {n k : Nat} : (Num.limbs n).length ≤ k ↔ n < Num.B9 ^ k := Num.digs_length_le Num.two_le_B9
theorem worth_bound {xs : List Nat} (h : ∀ x ∈ xs, x < 4294967296) : Num.worth xs + 5 ≤ 5 * Num.B9 ^ xs.length := by
  induction xs with
  | nil => simp [Num.worth, Num.val]
  | cons x xs ih =>
    have h1 := h x (by simp)
    have h2 := ih (fun y hy => h y (by simp [hy]))
    have h3 : Num.B9 * (Num.worth xs + 5) ≤ Num.B9 * (5 * Num.B9 ^ xs.length) := Nat.mul_le_mul_left _ h2
    have e : Num.worth (x :: xs) = x + Num.B9 * Num.worth xs := rfl
    have e2 : 5 * Num.B9 ^ (x :: xs).length = Num.B9 * (5 * Num.B9 ^ xs.length) := by
      rw [List.length_cons, Nat.pow_succ]; ac_rfl
    rw [e, e2]
    rw [Nat.mul_add] at h3
    have : Num.B9 = 1000000000 := rfl
    omega
theorem worth_lt {xs : List Nat} {k : Nat} (h : ∀ x ∈ xs, x < 4294967296) (hk : xs.length ≤ k) : (Num.limbs (Num.worth xs)).length ≤ k + 1 := by
  rw [limbs_length_le]
  have h1 := worth_bound h
  have h2 : Num.B9 ^ xs.length ≤ Num.B9 ^ k := Nat.pow_le_pow_right (by decide) hk
  have h3 : 5 * Num.B9 ^ k ≤ Num.B9 ^ k * Num.B9 := by rw [Nat.mul_comm]; exact Nat.mul_le_mul_left _ (by decide)
  rw [Nat.pow_succ]
  omega

theorem limb_Cmp (a a2 : Option Addr) (cap cap2 : Nat) (xs ys : List Nat) (w : World) (h : U32 w a xs) (h2 : U32 w a2 ys) (hn : xs.length ≤ 100000000) (hn2 : ys.length ≤ 100000000) :
    Calls Tryz.prog 110 #[.slice a xs.length cap, .slice a2 ys.length cap2] w fun e w' => e = .returned (.int .i64 (cmpN (Num.worth xs) (Num.worth ys))) ∧ Below w.heap.size w w' := by
  have l1 := worth_lt h.lt (Nat.le_refl _)
  have l2 := worth_lt h2.lt (Nat.le_refl _)
  have H := hid h
  have H2 := hid h2
  clear h h2
  go_enter Tryz.func110, Tryz.ntmps110
  go_wp2_with fail
  refine (limb_Norm a cap xs w H.out (by omega)).mono ?_
  rintro e w1 ⟨a1, c1, rfl, hb1, ho1⟩
  have U1 := hid (u32_limbs ho1)
  have HB1 := hid hb1
  clear hb1 ho1
  go_wp2_with fail
  refine (limb_Norm a2 cap2 ys w1 (H2.out.below HB1.out) (by omega)).mono ?_
  rintro e w2 ⟨a2, c2, rfl, hb2, ho2⟩
  have U2 := hid (u32_limbs ho2)
  have HB2 := hid hb2
  clear hb2 ho2
  go_wp2_with fail
  refine (limb_order a1 a2 c1 c2 (Num.worth xs) (Num.worth ys) w2 (U1.out.below HB2.out) U2.out (by omega) (by omega)).mono ?_
  rintro e w3 ⟨rfl, q, rfl⟩
  go_wp2
  go_ret
  exact ⟨rfl, below_drewN (below_trans HB1.out HB2.out) q⟩

end Go.Proofs.YtmdgciolnpkccaaGreatDoor
