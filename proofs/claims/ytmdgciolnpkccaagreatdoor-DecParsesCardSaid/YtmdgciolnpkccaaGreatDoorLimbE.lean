/- Layer 1, fifth part: Mul, Shift. -/
import Derived.Test.YtmdgciolnpkccaaGreatDoorLimbD
namespace Go.Proofs.YtmdgciolnpkccaaGreatDoor
open Go.RowKit

/-- What holds of the row in which a product is laid down: digits, and what they are worth. -/
def Acc (w : World) (n g V : Nat) (wr : World) : Prop :=
  ∃ L : List Nat, L.length = n ∧ (∀ x ∈ L, x < 1000000000) ∧ Num.worth L = V ∧ wr.ownsRow w.heap.size 70 1 (.slice (some ⟨g, 0, none⟩) n n) n (u32s L) ∧ Below w.heap.size w wr

/-- What holds at the head of an inner round of 'Mul'. -/
def AccC (w : World) (n g V C p : Nat) (wr : World) : Prop :=
  ∃ L : List Nat, L.length = n ∧ (∀ x ∈ L, x < 1000000000) ∧ Num.worth L + C * Num.B9 ^ p = V ∧ wr.ownsRow w.heap.size 70 1 (.slice (some ⟨g, 0, none⟩) n n) n (u32s L) ∧ Below w.heap.size w wr

theorem AccC.step {w wr w1 : World} {n g V C p t T : Nat} {L : List Nat} (h1 : L.length = n) (h2 : ∀ x ∈ L, x < 1000000000) (h3 : Num.worth L + C * Num.B9 ^ p = V)
    (h4 : wr.ownsRow w.heap.size 70 1 (.slice (some ⟨g, 0, none⟩) n n) n (u32s L)) (h5 : Below w.heap.size w wr) (hp : p < n) (hT : T = C + (L.getD p 0 + t)) (hw : w1 = wr.setCell ⟨g, p, none⟩ (.int .u32 ((T % 1000000000 : Nat) : Int))) :
    AccC w n g (V + t * Num.B9 ^ p) (T / 1000000000) (p + 1) w1 := by
  subst hw
  have hs := h4.stored p (.int .u32 ((T % 1000000000 : Nat) : Int))
  refine ⟨L.set p (T % 1000000000), by simp [h1], ?_, ?_, ?_, ?_⟩
  · intro y hy
    rcases List.mem_or_eq_of_mem_set hy with h | h
    · exact h2 y h
    · subst h; omega
  · have e := Num.val_set Num.B9 L p (T % 1000000000) (by omega)
    have e1 := Nat.mod_add_div T 1000000000
    have e2 : Num.B9 ^ p * (T % 1000000000 + 1000000000 * (T / 1000000000)) = Num.B9 ^ p * (C + (L.getD p 0 + t)) := by rw [e1, hT]
    simp only [Nat.mul_add] at e2
    have e3 : Num.B9 ^ p * (1000000000 * (T / 1000000000)) = T / 1000000000 * (Num.B9 ^ p * Num.B9) := by rw [show (1000000000 : Nat) = Num.B9 from rfl]; ac_rfl
    rw [Nat.pow_succ]
    unfold Num.worth at h3 ⊢
    rw [Nat.mul_comm (L.getD p 0), Nat.mul_comm (T % 1000000000)] at e
    rw [Nat.mul_comm C] at h3
    rw [Nat.mul_comm t]
    omega
  · have e : (u32s L).set p (.int .u32 ((T % 1000000000 : Nat) : Int)) = u32s (L.set p (T % 1000000000)) := by simp [u32s, List.map_set]
    rw [e] at hs
    exact hs.1
  · exact h5.grown hs.2 h5.size (fun j hj => by injection hj with hj; subst hj; exact (h4.lt g rfl).1)

set_option maxRecDepth 100000 in
set_option maxHeartbeats 800000 in
theorem limb_Mul (a a2 : Option Addr) (cap cap2 : Nat) (xs ys : List Nat) (w : World) (h : U32 w a xs) (h2 : U32 w a2 ys) (hn : xs.length ≤ 100000000) (hn2 : ys.length ≤ 100000000) :
    Calls Tryz.prog 115 #[.slice a xs.length cap, .slice a2 ys.length cap2] w (OutU w (Num.limbs (Num.worth xs * Num.worth ys))) := by
  have l1 := worth_lt h.lt (Nat.le_refl _)
  have l2 := worth_lt h2.lt (Nat.le_refl _)
  obtain ⟨X, hX⟩ : ∃ X, X = Num.limbs (Num.worth xs) := ⟨_, rfl⟩
  obtain ⟨Y, hY⟩ : ∃ Y, Y = Num.limbs (Num.worth ys) := ⟨_, rfl⟩
  have hwX : Num.worth xs = Num.worth X := by rw [hX, Num.worth_limbs]
  have hwY : Num.worth ys = Num.worth Y := by rw [hY, Num.worth_limbs]
  have LX := hid (show ∀ x ∈ X, x < 1000000000 by rw [hX]; exact Num.limbs_lt _)
  have LY := hid (show ∀ x ∈ Y, x < 1000000000 by rw [hY]; exact Num.limbs_lt _)
  rw [hwX, hwY]
  have C1 := limb_Norm a cap xs w h (by omega)
  have C2 := fun w1 (hb : Below w.heap.size w w1) => limb_Norm a2 cap2 ys w1 (h2.below hb) (by omega)
  rw [← hX] at C1 l1
  rw [← hY] at C2 l2
  have C1 := hid C1
  have C2 := hid C2
  clear hX hY hwX hwY h h2
  go_enter Tryz.func115, Tryz.ntmps115
  go_wp2_with fail
  refine C1.out.mono ?_
  rintro e w1 ⟨a1, c1, rfl, hb1, ho1⟩
  have R1 := hid (owned_row ho1)
  have HB1 := hid hb1
  clear hb1 ho1 C1
  go_wp2_with fail
  refine (C2.out w1 HB1.out).mono ?_
  rintro e w2 ⟨a3, c2, rfl, hb2, ho2⟩
  have R2 := hid (owned_row ho2)
  have HB2 := hid hb2
  have hsz2 := (below_trans HB1.out HB2.out).size
  clear hb2 ho2 C2
  have R1' := hid (R1.out.below HB2.out)
  have HBB := hid (below_trans HB1.out HB2.out)
  clear R1 HB1 HB2
  obtain ⟨N, hN⟩ : ∃ N, N = X.length + Y.length + 1 := ⟨_, rfl⟩
  have hN1 : X.length + Y.length + 1 ≤ N := by omega
  have hN2 : N ≤ 300000000 := by omega
  go_wp2_with (at_make; refine wpList_full Tryz.u32Slice rfl _ _ rfl N rfl rfl (by rw [hN]; go_num) (by rw [hN]; go_num) (by omega) (by unfold maxLen; omega) ?_; intro w3 hown hb3)
  have HO := hid hown
  have HB3 := hid hb3
  have HN := hid hN
  clear hown hb3 hN
  go_loopw [25] (fun i wr => ∃ k : Nat, k ≤ X.length ∧ i = .int .i64 k ∧ AccC w2 N w2.heap.size (Num.worth (X.take k) * Num.worth Y) 0 0 wr) (fun i _ => X.length - (intOf i).toNat)
  case atStart =>
    refine ⟨0, Nat.zero_le _, rfl, ⟨List.replicate N 0, by simp, by simp, ?_, ?_, HB3.out⟩⟩
    · simp [Num.worth, Num.val, Num.val_replicate]
    · simpa [u32s] using HO.out
  case round =>
    clear HO HB3
    obtain ⟨k, hk, rfl, hacc⟩ := hrel
    have HA := hid hacc
    clear hacc
    by_cases hlt : k < X.length
    · obtain ⟨wo, rfl⟩ : ∃ wo : World, wo = wr := ⟨_, rfl⟩
      obtain ⟨x, hxe⟩ : ∃ x, x = X.getD k 0 := ⟨_, rfl⟩
      have hx9 : x < 1000000000 := by rw [hxe]; exact LX.out _ (by simp [hlt])
      have hBo : Below w2.heap.size w2 wo := by obtain ⟨_, _, _, _, _, h⟩ := HA.out; exact h
      obtain ⟨b, off, rfl⟩ := R1'.out.isSome (by intro e; rw [← length_u32s, e] at hlt; simp at hlt)
      have g1 : wo.cell? ⟨b, off + k, none⟩ = some (.int .u32 (x : Int)) := by rw [hxe]; exact (R1'.out.below hBo).u32 hlt
      have HXE := hid hxe
      clear hBo hxe
      go_wp2
      go_loopw [10, 33] (fun c j wr => ∃ (p C : Nat), p ≤ Y.length + 1 ∧ j = .int .i64 p ∧ c = .int .u64 C ∧ C ≤ 1000000000 ∧ AccC w2 N w2.heap.size (Num.worth (X.take k) * Num.worth Y + x * Num.worth (Y.take p) * Num.B9 ^ k) C (k + p) wr) (fun _ j _ => Y.length + 1 - (intOf j).toNat)
      case atStart =>
        refine ⟨0, 0, Nat.zero_le _, rfl, rfl, by omega, ?_⟩
        obtain ⟨L, h1, h2, h3, h4, h5⟩ := HA.out
        exact ⟨L, h1, h2, by simpa [Num.worth, Num.val] using h3, h4, h5⟩
      case round =>
        clear g1 HA
        obtain ⟨p, C, hp, rfl, rfl, hC, L, h1, h2, h3, h4, h5⟩ := hrel
        have HL1 := hid h1
        have HL2 := hid h2
        have HL3 := hid h3
        have HL4 := hid h4
        have HL5 := hid h5
        clear h1 h2 h3 h4 h5
        by_cases hplt : p < Y.length + 1
        · obtain ⟨y, hye⟩ : ∃ y, y = Y.getD p 0 := ⟨_, rfl⟩
          obtain ⟨l, hle⟩ : ∃ l, l = L.getD (k + p) 0 := ⟨_, rfl⟩
          have hy9 : y < 1000000000 := by
            rw [hye]
            by_cases hky : p < Y.length
            · exact LY.out _ (by simp [hky])
            · simp [List.getElem?_eq_none (show Y.length ≤ p by omega)]
          have hl9 : l < 1000000000 := by rw [hle]; exact HL2.out _ (by have := HL1.out; rw [List.getD_eq_getElem?_getD, List.getElem?_eq_getElem (by omega)]; simp)
          have hkp : k + p < N := by omega
          have hm0 : (0 : Int) ≤ (x : Int) * (y : Int) := by rw [← Int.natCast_mul]; omega
          have hm1 : (x : Int) * (y : Int) ≤ 999999998000000001 := by
            have : x * y ≤ 999999999 * 999999999 := Nat.mul_le_mul (by omega) (by omega)
            rw [← Int.natCast_mul]; omega
          have hc2 : wr.cell? ⟨w2.heap.size, k + p, none⟩ = some (.int .u32 (l : Int)) := by
            rw [HL4.out.cellAt (k + p) (by omega), hle]
            have := HL1.out
            simp [u32s, this, hkp]
          have hf2 := HL4.out.frozenAt (k + p)
          have C2 : ∀ q, Calls Tryz.prog 170 #[.slice a3 Y.length c2, .int .i64 p] (wr.drewN q) fun e w' => e = .returned (.int .u64 (y : Int)) ∧ wr.drewN q = w' := fun q => by
            rw [hye]; exact limb_at a3 c2 p Y _ (R2.out.below (below_drewN HL5.out q)) (by omega) (fun x hx => by have := LY.out x hx; omega)
          have C2 := hid C2
          have HYE := hid hye
          have HLE := hid hle
          clear hye hle
          go_wp2_with fail
          go_quiet (exact quiet_same (C2.out _))
          clear C2
          have HT : Hid (∀ wz, wz = (wr.drewN nq).setCell ⟨w2.heap.size, k + p, none⟩ (.int .u32 (((C : Int) + ((l : Int) + (x : Int) * (y : Int))) % 1000000000)) →
              AccC w2 N w2.heap.size (Num.worth (X.take k) * Num.worth Y + x * Num.worth (Y.take (p + 1)) * Num.B9 ^ k) ((C + (l + x * y)) / 1000000000) (k + (p + 1)) wz) := by
            intro wz hz
            have R := AccC.step (w := w2) (wr := wr.drewN nq) (w1 := wz) (t := x * y) (T := C + (l + x * y)) HL1.out HL2.out HL3.out HL4.out (below_drewN HL5.out nq) hkp (by rw [← HLE.out]) (by rw [hz]; simp)
            have e : Num.worth (X.take k) * Num.worth Y + x * Num.worth (Y.take p) * Num.B9 ^ k + x * y * Num.B9 ^ (k + p) = Num.worth (X.take k) * Num.worth Y + x * Num.worth (Y.take (p + 1)) * Num.B9 ^ k := by
              unfold Num.worth
              rw [Num.val_take_succ, ← HYE.out, Nat.add_assoc, Nat.mul_add x, Nat.add_mul, Nat.pow_add]
              congr 2
              ac_rfl
            rw [e] at R
            exact R
          have hT9 : x * y ≤ 999999999 * 999999999 := Nat.mul_le_mul (by omega) (by omega)
          have ht : (x : Int) * (y : Int) = ((x * y : Nat) : Int) := by simp
          obtain ⟨t, hte⟩ : ∃ t, t = x * y := ⟨_, rfl⟩
          rw [ht, ← hte] at HT hm0 hm1 ⊢
          rw [← hte] at hT9
          clear ht hte
          go_wp2
          go_roundw
          case rel => exact ⟨p + 1, (C + (l + t)) / 1000000000, by omega, by go_num, by go_num, by omega, HT.out _ rfl⟩
          case measure => simp [intOf]; omega
        · obtain rfl : p = Y.length + 1 := by omega
          have HK : AccC w2 N w2.heap.size (Num.worth (X.take (k + 1)) * Num.worth Y) 0 0 wr := by
            refine ⟨L, HL1.out, HL2.out, ?_, HL4.out, HL5.out⟩
            have e := HL3.out
            rw [show Y.take (Y.length + 1) = Y from List.take_of_length_le (by omega)] at e
            have e2 : Num.worth (X.take (k + 1)) = Num.worth (X.take k) + Num.B9 ^ k * x := by
              unfold Num.worth; rw [Num.val_take_succ, ← HXE.out]
            have e3 : Num.worth (X.take k) * Num.worth Y + x * Num.worth Y * Num.B9 ^ k = Num.worth (X.take (k + 1)) * Num.worth Y := by
              rw [e2, Nat.add_mul]; congr 1; ac_rfl
            rw [e3] at e
            have b1 : Num.worth (X.take (k + 1)) < Num.B9 ^ (k + 1) := Num.val_take_lt (by decide) X LX.out (k + 1)
            have b2 : Num.worth Y < Num.B9 ^ Y.length := Num.val_lt (by decide) Y LY.out
            have b3 : Num.worth (X.take (k + 1)) * Num.worth Y ≤ Num.B9 ^ (k + 1) * Num.B9 ^ Y.length := Nat.mul_le_mul (by omega) (by omega)
            rw [← Nat.pow_add, show k + 1 + Y.length = k + (Y.length + 1) by omega] at b3
            have hC0 : C = 0 := by
              rcases Nat.eq_zero_or_pos C with h | h
              · exact h
              · exfalso
                have b4 : 1 * Num.B9 ^ (k + (Y.length + 1)) ≤ C * Num.B9 ^ (k + (Y.length + 1)) := Nat.mul_le_mul_right _ h
                have b5 : Num.worth (X.take (k + 1)) * Num.worth Y < Num.B9 ^ (k + 1) * Num.B9 ^ Y.length := by
                  rcases Nat.eq_zero_or_pos (Num.worth Y) with h0 | h0
                  · rw [h0, Nat.mul_zero]; exact Nat.mul_pos (Nat.pow_pos (by decide)) (Nat.pow_pos (by decide))
                  · exact Nat.mul_lt_mul_of_lt_of_le b1 (by omega) (by omega)
                rw [← Nat.pow_add, show k + 1 + Y.length = k + (Y.length + 1) by omega] at b5
                omega
            rw [hC0, Nat.zero_mul] at e
            simpa using e
          have HK := hid HK
          clear HL1 HL2 HL3 HL4 HL5
          go_wp2
          go_roundw
          case rel => exact ⟨k + 1, by omega, by go_num, HK.out⟩
          case measure => simp [intOf]; omega
    · obtain rfl : X.length = k := by omega
      obtain ⟨L, h1, h2, h3, h4, h5⟩ := HA.out
      have HL1 := hid h1
      have HL2 := hid h2
      have HL3 := hid h3
      have HL4 := hid h4
      have HL5 := hid h5
      clear h1 h2 h3 h4 h5 HA
      have HNN := hid (show X.length + Y.length + 1 = N from HN.out.symm)
      go_wp2_with fail
      refine (limb_trim_out _ _ _ L w2 wr (by rw [HL1.out, HN.out]) HL2.out (by rw [HNN.out]; exact HL4.out) HL5.out).mono ?_
      rw [show Num.worth L = Num.worth X * Num.worth Y by have e := HL3.out; rw [List.take_length] at e; simpa using e]
      intro e w' h
      obtain ⟨a', cap', rfl, hb, ho⟩ := OutU.of_below h HBB.out
      go_wp2
      go_ret
      exact ⟨_, _, rfl, hb, ho⟩

end Go.Proofs.YtmdgciolnpkccaaGreatDoor
