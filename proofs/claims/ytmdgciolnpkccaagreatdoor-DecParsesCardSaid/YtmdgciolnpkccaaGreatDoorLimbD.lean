/- Layer 1, fourth part: less, Sub. -/
import Derived.Test.YtmdgciolnpkccaaGreatDoorLimbC
namespace Go.Proofs.YtmdgciolnpkccaaGreatDoor
open Go.RowKit

/-- What holds at the head of a round of 'less'. -/
def Les (w : World) (xs ys : List Nat) (n k borrow : Nat) (g cap : Nat) (wr : World) : Prop :=
  ∃ out : List Nat, out.length = k ∧ (∀ x ∈ out, x < 1000000000) ∧ Num.val Num.B9 out + Num.val Num.B9 (ys.take k) = Num.val Num.B9 (xs.take k) + borrow * Num.B9 ^ k ∧
    wr.ownsRow w.heap.size 70 1 (.slice (some ⟨g, 0, none⟩) n cap) n (u32s (out ++ List.replicate (n - k) 0)) ∧ Below w.heap.size w wr

theorem Les.step {w wr w1 : World} {xs ys : List Nat} {n k borrow g cap : Nat} {out : List Nat} (h1 : out.length = k) (h2 : ∀ x ∈ out, x < 1000000000)
    (h3 : Num.val Num.B9 out + Num.val Num.B9 (ys.take k) = Num.val Num.B9 (xs.take k) + borrow * Num.B9 ^ k) (h4 : wr.ownsRow w.heap.size 70 1 (.slice (some ⟨g, 0, none⟩) n cap) n (u32s (out ++ List.replicate (n - k) 0))) (h5 : Below w.heap.size w wr)
    (hk : k < n) (hb : borrow ≤ 1) (hx : xs.getD k 0 < 1000000000) (hy : ys.getD k 0 < 1000000000) (T : Nat) (hT : T + ys.getD k 0 + borrow = xs.getD k 0 + 1000000000) (hw : w1 = wr.setCell ⟨g, k, none⟩ (.int .u32 ((T % 1000000000 : Nat) : Int))) :
    Les w xs ys n (k + 1) (1 - T / 1000000000) g cap w1 := by
  subst hw
  have hs := h4.stored k (.int .u32 ((T % 1000000000 : Nat) : Int))
  refine ⟨out ++ [T % 1000000000], by simp [h1], ?_, ?_, ?_, ?_⟩
  · intro y hy
    rcases List.mem_append.1 hy with h | h
    · exact h2 y h
    · simp at h; omega
  · rw [Num.val_snoc, h1, Num.val_take_succ, Num.val_take_succ, Nat.pow_succ]
    obtain ⟨c, hc⟩ : ∃ c, c = 1 - T / 1000000000 := ⟨_, rfl⟩
    rw [← hc]
    have e : T % 1000000000 + ys.getD k 0 + borrow = xs.getD k 0 + c * 1000000000 := by omega
    have e2 : Num.B9 ^ k * (T % 1000000000 + ys.getD k 0 + borrow) = Num.B9 ^ k * (xs.getD k 0 + c * 1000000000) := by rw [e]
    simp only [Nat.mul_add] at e2
    have e3 : Num.B9 ^ k * (c * 1000000000) = c * (Num.B9 ^ k * Num.B9) := by rw [show (1000000000 : Nat) = Num.B9 from rfl]; ac_rfl
    rw [Nat.mul_comm borrow] at h3
    omega
  · have e : (u32s (out ++ List.replicate (n - k) 0)).set k (.int .u32 ((T % 1000000000 : Nat) : Int)) = u32s (out ++ [T % 1000000000] ++ List.replicate (n - (k + 1)) 0) := by
      have e1 : List.replicate (n - k) 0 = 0 :: List.replicate (n - (k + 1)) 0 := by rw [← List.replicate_succ]; congr 1; omega
      rw [e1]
      subst h1
      simp [u32s]
    rw [e] at hs
    exact hs.1
  · exact h5.grown hs.2 h5.size (fun j hj => by injection hj with hj; subst hj; exact (h4.lt g rfl).1)

set_option maxRecDepth 100000 in
set_option maxHeartbeats 400000 in
theorem less_some (b off : Nat) (a2 : Option Addr) (n cap cap2 : Nat) (xs ys : List Nat) (w : World) (hn : n ≤ 1000000000) (hx : xs.length = n) (lx : ∀ x ∈ xs, x < 1000000000) (ly : ∀ x ∈ ys, x < 1000000000)
    (h : U32 w (some ⟨b, off, none⟩) xs) (h2 : U32 w a2 ys) (hlen : ys.length ≤ n) (hv : Num.worth ys ≤ Num.worth xs) :
    Calls Tryz.prog 155 #[.slice (some ⟨b, off, none⟩) n cap, .slice a2 ys.length cap2] w (OutU w (Num.limbs (Num.worth xs - Num.worth ys))) := by
  have HX := hid hx
  have LX := hid lx
  have LY := hid ly
  have H := hid h
  have H2 := hid h2
  have HV := hid hv
  clear hx lx ly h h2 hv
  go_enter Tryz.func155, Tryz.ntmps155
  go_wp2_with (at_make; refine wpList_full Tryz.u32Slice rfl _ _ rfl n rfl rfl rfl rfl (by omega) (by unfold maxLen; omega) ?_; intro w1 hown hb1)
  go_loopw [6, 14] (fun c i wr => ∃ (k B : Nat), k ≤ n ∧ i = .int .i64 k ∧ c = .int .u64 B ∧ B ≤ 1 ∧ Les w xs ys n k B w.heap.size n wr) (fun _ i _ => n - (intOf i).toNat)
  case atStart =>
    exact ⟨0, 0, Nat.zero_le _, rfl, rfl, by omega, [], rfl, by simp, rfl, by simpa [u32s] using hown, hb1⟩
  case round =>
    clear hown hb1
    obtain ⟨k, B, hk, rfl, rfl, hB, out, hl, hlt9, hS, hown, hb⟩ := hrel
    have HL := hid hl
    have HS := hid hS
    have H9 := hid hlt9
    have HO := hid hown
    have HB := hid hb
    clear hl hS hlt9 hb hown
    by_cases hlt : k < n
    · obtain ⟨x, hxe⟩ : ∃ x, x = xs.getD k 0 := ⟨_, rfl⟩
      obtain ⟨y, hye⟩ : ∃ y, y = ys.getD k 0 := ⟨_, rfl⟩
      have hx9 : x < 1000000000 := by rw [hxe]; exact LX.out _ (by have := HX.out; simp [this, hlt])
      have hy9 : y < 1000000000 := by
        rw [hye]
        by_cases hky : k < ys.length
        · exact LY.out _ (by simp [hky])
        · simp [List.getElem?_eq_none (show ys.length ≤ k by omega)]
      have g0 := H.out.row.u32 (j := k) (by have := HX.out; omega)
      have g1 : wr.cell? ⟨b, off + k, none⟩ = some (.int .u32 (x : Int)) := by rw [hxe]; exact (HB.out.cell (cell_lt g0)).trans g0
      have C2 : ∀ q, Calls Tryz.prog 170 #[.slice a2 ys.length cap2, .int .i64 k] (wr.drewN q) fun e w' => e = .returned (.int .u64 (y : Int)) ∧ wr.drewN q = w' := fun q => by
        rw [hye]; exact limb_at a2 cap2 k ys _ (H2.out.below HB.out).row (by omega) (H2.out.lt)
      have C2 := hid C2
      have hc2 := HO.out.cellAt k (by omega)
      have hf2 := HO.out.frozenAt k
      have hold : ∃ u, wr.cell? ⟨w.heap.size, k, none⟩ = some (.int .u32 u) := by
        rw [hc2]; exact u32s_get (by have := HL.out; simp; omega)
      obtain ⟨u, hold⟩ := hold
      have HXE := hid hxe
      have HYE := hid hye
      clear g0 hc2 hxe hye
      go_wp2_with fail
      go_quiet (exact quiet_same (C2.out _))
      clear C2
      go_wp2
      go_roundw
      case rel =>
        refine ⟨k + 1, 1 - (x + 1000000000 - y - B) / 1000000000, by omega, by go_num, by go_num, by omega, ?_⟩
        refine Les.step (wr := wr.drewN nq) HL.out H9.out HS.out HO.out (below_drewN HB.out nq) hlt hB (by rw [← HXE.out]; exact hx9) (by rw [← HYE.out]; exact hy9) (x + 1000000000 - y - B) (by rw [← HXE.out, ← HYE.out]; omega) ?_
        congr 2
        omega
      case measure => simp [intOf]; omega
    · obtain rfl : n = k := by omega
      have hout : Num.worth out = Num.worth xs - Num.worth ys := by
        have e := HS.out
        rw [List.take_of_length_le (by omega), List.take_of_length_le (by have := HX.out; omega)] at e
        have hlt := Num.val_lt (b := Num.B9) (by decide) out H9.out
        rw [HL.out] at hlt
        have hv := HV.out
        unfold Num.worth at hv ⊢
        have : B = 0 := by
          rcases Nat.lt_or_ge B 1 with h | h
          · omega
          · obtain rfl : B = 1 := by omega
            rw [Nat.one_mul] at e; omega
        subst this
        omega
      have HOUT := hid hout
      have HO := hid (show wr.ownsRow w.heap.size 70 1 (.slice (some ⟨w.heap.size, 0, none⟩) n n) n (u32s out) by have := HO.out; simpa using this)
      clear hout
      go_wp2_with fail
      refine (limb_trim_out _ n n out w wr HL.out H9.out HO.out HB.out).mono ?_
      rw [HOUT.out]
      rintro e w' ⟨a', cap', rfl, hb, ho⟩
      go_wp2
      go_ret
      exact ⟨_, _, rfl, hb, ho⟩

theorem less_nil (a a2 : Option Addr) (cap cap2 : Nat) (w : World) :
    Calls Tryz.prog 155 #[.slice a 0 cap, .slice a2 0 cap2] w (OutU w []) := by
  go_enter Tryz.func155, Tryz.ntmps155
  go_wp2_with (at_make; refine wpList_full Tryz.u32Slice rfl _ _ rfl 0 rfl rfl rfl rfl (by omega) (by unfold maxLen; omega) ?_; intro w1 hown hb1)
  have HO := hid hown
  have HB := hid hb1
  clear hown hb1
  refine wp_loop_rounds 1 ?_
  rw [rounds_succ]
  go_wp2_with fail
  refine (limb_trim_out _ 0 0 [] w w1 rfl (by simp) HO.out HB.out).mono ?_
  rintro e w' ⟨a', cap', rfl, hb, ho⟩
  go_wp2
  go_ret
  exact ⟨_, _, rfl, hb, ho⟩

theorem limb_less (a a2 : Option Addr) (cap cap2 m n : Nat) (w : World) (h : U32 w a (Num.limbs m)) (h2 : U32 w a2 (Num.limbs n)) (hm : (Num.limbs m).length ≤ 1000000000) (hv : n ≤ m) :
    Calls Tryz.prog 155 #[.slice a (Num.limbs m).length cap, .slice a2 (Num.limbs n).length cap2] w (OutU w (Num.limbs (m - n))) := by
  by_cases h0 : Num.limbs m = []
  · have hm0 : m = 0 := (Num.digs_eq_nil Num.two_le_B9).1 h0
    obtain rfl : n = 0 := by omega
    subst hm0
    exact less_nil a a2 cap cap2 w
  · obtain ⟨b, off, rfl⟩ := h.isSome h0
    have C := less_some b off a2 (Num.limbs m).length cap cap2 (Num.limbs m) (Num.limbs n) w hm rfl (Num.limbs_lt m) (Num.limbs_lt n) h h2 (Num.digs_length_mono Num.two_le_B9 hv) (by rw [Num.worth_limbs, Num.worth_limbs]; exact hv)
    rw [Num.worth_limbs, Num.worth_limbs] at C
    exact C

theorem limb_Sub (a a2 : Option Addr) (cap cap2 : Nat) (xs ys : List Nat) (w : World) (h : U32 w a xs) (h2 : U32 w a2 ys) (hn : xs.length ≤ 100000000) (hn2 : ys.length ≤ 100000000) (hv : Num.worth ys ≤ Num.worth xs) :
    Calls Tryz.prog 111 #[.slice a xs.length cap, .slice a2 ys.length cap2] w (OutUE w (Num.limbs (Num.worth xs - Num.worth ys)) 0) := by
  have l1 := worth_lt h.lt (Nat.le_refl _)
  have l2 := worth_lt h2.lt (Nat.le_refl _)
  have H := hid h
  have H2 := hid h2
  obtain ⟨c, hc⟩ : ∃ c, c = cmpN (Num.worth xs) (Num.worth ys) := ⟨_, rfl⟩
  have hc0 : 0 ≤ c := by rw [hc]; unfold cmpN; rw [if_neg (by omega)]; split <;> omega
  have HC := hid hc
  have HV := hid hv
  clear h h2 hc hv
  go_enter Tryz.func111, Tryz.ntmps111
  go_wp2_with fail
  refine (limb_Norm a cap xs w H.out (by omega)).mono ?_
  rintro e w1 ⟨a1, c1, rfl, hb1, ho1⟩
  have U1 := hid (u32_limbs ho1)
  have HB1 := hid hb1
  clear hb1 ho1
  go_wp2_with fail
  refine (limb_Norm a2 cap2 ys w1 (H2.out.below HB1.out) (by omega)).mono ?_
  rintro e w2 ⟨a2, c2, rfl, hb2, ho2⟩
  have U2 := hid (u32_limbs ho2)
  have HB2 := hid hb2
  clear hb2 ho2
  go_wp2_with fail
  refine (limb_order a1 a2 c1 c2 (Num.worth xs) (Num.worth ys) w2 (U1.out.below HB2.out) U2.out (by omega) (by omega)).mono ?_
  rw [← HC.out]
  rintro e w3 ⟨rfl, q, rfl⟩
  go_wp2_with fail
  refine (limb_less a1 a2 c1 c2 (Num.worth xs) (Num.worth ys) (w2.drewN q) (U1.out.below (below_drewN HB2.out q)) (U2.out.below (below_drewN (Below.refl _ _) q)) (by omega) HV.out).mono ?_
  rintro e w4 ⟨a3, c3, rfl, hb4, ho4⟩
  go_wp2
  go_ret2
  have hb := below_drewN (below_trans HB1.out HB2.out) q
  exact ⟨_, _, rfl, below_trans hb hb4, owns_mono ho4 hb.size⟩

end Go.Proofs.YtmdgciolnpkccaaGreatDoor
