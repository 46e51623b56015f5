/- The document's answer, fifth part: From of digits. -/
import Derived.Test.YtmdgciolnpkccaaGreatDoorRefE
namespace Go.Proofs.YtmdgciolnpkccaaGreatDoor
open Go.RowKit

theorem b9_pow (k : Nat) : 10 ^ (9 * k) = Num.B9 ^ k := by rw [Nat.pow_mul]; rfl
theorem worth_take_succ (xs : List Nat) (k : Nat) : Num.worth (xs.take (k + 1)) = Num.worth (xs.take k) + xs.getD k 0 * 10 ^ (9 * k) := by
  unfold Num.worth; rw [Num.val_take_succ, b9_pow, Nat.mul_comm]
theorem worth_take_digs {xs : List Nat} (h : ∀ x ∈ xs, x < 4294967296) (hl : xs.length ≤ 200) (k : Nat) : (Num.digs 10 (Num.worth (xs.take k))).length ≤ 1809 :=
  (digs_bound (xs := xs.take k) (fun x hx => h x (List.mem_of_mem_take hx)) (by simp; omega)).1

set_option maxRecDepth 100000 in
set_option maxHeartbeats 1600000 in
theorem r_From_some (b off n cap : Nat) (xs : List Nat) (w : World) (hx : xs.length = n) (h : U32 w (some ⟨b, off, none⟩) xs) (hl : n ≤ 200) :
    Calls Tryz.prog 165 #[.slice (some ⟨b, off, none⟩) n cap] w (OutR8 w (Num.digs 10 (Num.worth xs))) := by
  have C1 := fun j (hj : j < n) => h.row.u32 (j := j) (by omega)
  have BX := fun k => h.getD_lt k
  have HD := fun k => worth_take_digs h.lt (by omega) k
  have HX := hid hx
  replace C1 := hid C1
  replace BX := hid BX
  replace HD := hid HD
  clear h hx
  go_enter Tryz.func165, Tryz.ntmps165
  go_wp2
  go_loopw [3, 4] (fun v i wr => ∃ (k : Nat) (ao : Option Addr) (co : Nat), k ≤ n ∧ i = .int .i64 k ∧ v = .slice ao (Num.digs 10 (Num.worth (xs.take k))).length co ∧ U8 wr ao (Num.digs 10 (Num.worth (xs.take k))) ∧ (Num.digs 10 (Num.worth (xs.take k))).length ≤ co ∧ co ≤ 9223372036854775807 ∧ (ao = none → co = 0) ∧ Below w.heap.size w wr) (fun _ i _ => n - (intOf i).toNat)
  case atStart => exact ⟨0, none, 0, Nat.zero_le _, rfl, rfl, ⟨Row.nil _ _, fun d hd => by cases hd⟩, Nat.le_refl _, by decide, fun _ => rfl, Below.refl _ _⟩
  case round =>
    obtain ⟨k, ao, co, hk, rfl, rfl, hu, hc1, hc2, hc3, hb⟩ := hrel
    have HU := hid hu
    have HB := hid hb
    have HC := hid (⟨hc1, hc2, hc3⟩ : _ ∧ _ ∧ _)
    clear hu hb hc1 hc2 hc3
    by_cases hgo : k < n
    · have bx := BX.out k
      have hd := HD.out k
      have hd2 := HD.out (k + 1)
      have g0 := C1.out k hgo
      have es := worth_take_succ xs k
      obtain ⟨x, hx⟩ : ∃ x, x = xs.getD k 0 := ⟨_, rfl⟩
      obtain ⟨S, hS⟩ : ∃ S, S = Num.worth (xs.take k) := ⟨_, rfl⟩
      obtain ⟨S', hS'⟩ : ∃ S, S = Num.worth (xs.take (k + 1)) := ⟨_, rfl⟩
      rw [← hS, ← hS', ← hx] at es
      rw [← hS'] at hd2
      rw [← hS] at hd HU HC ⊢
      rw [← hx] at bx
      have g1 : wr.cell? ⟨b, off + k, none⟩ = some (.int .u32 (x : Int)) := by rw [hx]; exact (HB.out.cell (cell_lt g0)).trans g0
      have CS := ref1_Small x wr (by omega)
      have hxd : (Num.digs 10 x).length ≤ 10 := (Num.digs_length_le (by decide)).2 (by omega)
      have CH := fun W am cm (hu : U8 W am (Num.digs 10 x)) (hc : am = none → cm = 0) => ref1_Shift am cm x (9 * k) W hu hc (by omega) (by omega)
      have hyd : (Num.digs 10 (x * 10 ^ (9 * k))).length ≤ 2000 := by
        refine Nat.le_trans ((Num.digs_length_le (k := 10 + 9 * k) (by decide)).2 ?_) (by omega)
        rw [Nat.pow_add]
        exact Nat.mul_lt_mul_of_pos_right (by omega) (Nat.pow_pos (by decide))
      obtain ⟨Y, hY⟩ : ∃ Y, Y = x * 10 ^ (9 * k) := ⟨_, rfl⟩
      rw [← hY] at CH hyd es
      have CA := fun W am cm (hu : U8 W am (Num.digs 10 Y)) (hb : Below wr.heap.size wr W) => ref1_Add ao am co cm (Num.digs 10 S) (Num.digs 10 Y) W (HU.out.below hb) hu (by omega) (by omega)
      simp only [Num.val_digs (b := 10) (by decide), ← es] at CA
      have w9 := hid (show ((9 : Int) * k) = ((9 * k : Nat) : Int) by omega)
      rw [hS'] at hd2 CA
      replace CS := hid CS
      replace CH := hid CH
      replace CA := hid CA
      clear hx hS hS' hY es g0 hxd hyd hd
      go_wp2_with fail
      refine (CS.out).mono ?_
      rintro e1 w1 ⟨a1, c1, rfl, hb1, ho1⟩
      have HB1 := hid hb1
      have HU1 := hid (u8_of ho1 (digs_ten_lt x))
      have HN1 := hid (owns_none ho1)
      clear hb1 ho1 CS
      go_wp2_with fail
      rw [w9.out]
      refine (CH.out _ _ _ HU1.out HN1.out).mono ?_
      rintro e2 w2 ⟨a2, c2, rfl, hb2, hu2, _⟩
      have HB2 := hid (below_trans HB1.out hb2)
      have HU2 := hid hu2
      clear hb2 hu2 CH HB1 HU1 HN1
      go_wp2_with fail
      refine (CA.out _ _ _ HU2.out HB2.out).mono ?_
      rintro e3 w3 ⟨a3, c3, rfl, hb3, hu3⟩
      have HB3 := hid (below_trans HB.out (below_trans HB2.out hb3))
      have HU3 := hid hu3
      clear hb3 hu3 CA HB2 HU2
      go_wp2
      go_roundw
      case rel => exact ⟨k + 1, a3, c3, by omega, by go_num, rfl, HU3.out.1, HU3.out.2.1, HU3.out.2.2.1, HU3.out.2.2.2, HB3.out⟩
      case measure => simp [intOf]; omega
    · obtain rfl : n = k := by omega
      have hT : xs.take n = xs := List.take_of_length_le (by have := HX.out; omega)
      rw [hT] at HU HC ⊢
      clear hT
      go_wp2
      go_ret
      exact ⟨ao, co, rfl, HB.out, HU.out, HC.out.1, HC.out.2.1, HC.out.2.2⟩
theorem ref1_From (a : Option Addr) (cap : Nat) (xs : List Nat) (w : World) (h : U32 w a xs) (hl : xs.length ≤ 200) :
    Calls Tryz.prog 165 #[.slice a xs.length cap] w (OutR8 w (Num.digs 10 (Num.worth xs))) := by
  by_cases h0 : xs = []
  · subst h0
    show Calls Tryz.prog 165 #[.slice a 0 cap] w (OutR8 w [])
    clear h hl
    go_enter Tryz.func165, Tryz.ntmps165
    go_wp2
    refine wp_loop_rounds 1 ?_
    rw [rounds_succ]
    go_wp2
    go_ret
    exact OutR8.nil (Below.refl _ _)
  · obtain ⟨b, off, rfl⟩ := h.isSome h0
    exact r_From_some b off _ cap xs w rfl h hl

end Go.Proofs.YtmdgciolnpkccaaGreatDoor
