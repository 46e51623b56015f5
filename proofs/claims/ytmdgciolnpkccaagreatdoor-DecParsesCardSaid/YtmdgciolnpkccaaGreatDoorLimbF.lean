/- Layer 1, sixth part: Shift, Cut. -/
import Derived.Test.YtmdgciolnpkccaaGreatDoorLimbE
import Derived.Deep.RegionHeld3
namespace Go.Proofs.YtmdgciolnpkccaaGreatDoor
open Go.RowKit

set_option maxRecDepth 100000 in
set_option maxHeartbeats 400000 in
theorem limb_Shift (a : Option Addr) (cap n : Nat) (xs : List Nat) (w : World) (h : U32 w a xs) (hl : xs.length ≤ 100000000) (hn : n ≤ 30000) :
    Calls Tryz.prog 84 #[.slice a xs.length cap, .int .i64 n] w (OutUE w (Num.limbs (Num.worth xs * 10 ^ n)) 0) := by
  have l1 := worth_lt h.lt (Nat.le_refl _)
  obtain ⟨P, hP⟩ : ∃ P, P = 10 ^ (n % 9) := ⟨_, rfl⟩
  have hP9 : P ≤ 1000000000 := by rw [hP]; exact Nat.pow_le_pow_right (n := 10) (by decide) (by omega : n % 9 ≤ 9)
  have CT : Hid (∀ W, Calls Tryz.prog 151 #[.int .i64 ((n : Int) % 9)] W fun e w' => e = .returned (.int .u64 (P : Int)) ∧ W = w') := by
    intro W
    have := limb_ten (n % 9) W (by omega)
    rw [hP]
    simpa using this
  obtain ⟨M, hM⟩ : ∃ M, M = Num.limbs (Num.worth xs) := ⟨_, rfl⟩
  obtain ⟨X, hX⟩ : ∃ X, X = Num.limbs (Num.worth xs * P) := ⟨_, rfl⟩
  obtain ⟨Z, hZ⟩ : ∃ Z, Z = Num.limbs (Num.worth xs * 10 ^ n) := ⟨_, rfl⟩
  have CN := limb_Norm a cap xs w h (by omega)
  have CX : ∀ w1 a1 c1, U32 w1 a1 M → Calls Tryz.prog 150 #[.slice a1 M.length c1, .int .u64 P] w1 (OutU w1 X) := fun w1 a1 c1 hu => by
    rw [hM] at hu ⊢
    have := limb_times a1 c1 P (Num.limbs (Num.worth xs)) w1 hu (Num.limbs_lt _) (by omega) hP9
    rwa [Num.worth_limbs, ← hX] at this
  have UM : ∀ w1 a1 c1, w1.ownsRow w.heap.size 70 1 (.slice a1 M.length c1) M.length (u32s M) → U32 w1 a1 M := fun w1 a1 c1 ho => by rw [hM] at ho ⊢; exact u32_limbs ho
  have hZX : (X = [] ∧ Z = []) ∨ (X ≠ [] ∧ Z = List.replicate (n / 9) 0 ++ X) := by
    by_cases h0 : Num.worth xs = 0
    · left; rw [hX, hZ, h0, Nat.zero_mul, Nat.zero_mul]; exact ⟨rfl, rfl⟩
    · right
      refine ⟨fun e => ?_, by rw [hZ, hX, hP]; exact Num.limbs_shift h0⟩
      rw [hX] at e
      have := (Num.digs_eq_nil Num.two_le_B9).1 e
      rcases Nat.mul_eq_zero.1 this with h1 | h1
      · exact h0 h1
      · rw [hP] at h1; have := Nat.pow_pos (n := n % 9) (show 0 < 10 by decide); omega
  have hXl : X.length ≤ xs.length + 2 := by
    rw [hX, limbs_length_le]
    have e1 := worth_bound h.lt
    have e2 : Num.worth xs * P ≤ 5 * Num.B9 ^ xs.length * Num.B9 := Nat.mul_le_mul (by omega) hP9
    have e3 : 5 * Num.B9 ^ xs.length * Num.B9 < Num.B9 ^ (xs.length + 2) := by
      rw [Nat.pow_add, show Num.B9 ^ 2 = Num.B9 * Num.B9 by rw [Nat.pow_two], ← Nat.mul_assoc]
      refine Nat.mul_lt_mul_of_pos_right ?_ (by decide)
      rw [Nat.mul_comm 5]
      exact Nat.mul_lt_mul_of_pos_left (by decide) (Nat.pow_pos (by decide))
    exact Nat.lt_of_le_of_lt e2 e3
  rw [← hZ]
  rw [← hM] at CN
  have hMl : M.length ≤ 100000001 := by rw [hM]; omega
  have CN := hid CN
  have CX := hid CX
  have UM := hid UM
  have HZ := hid hZX
  clear h hP hM hX hZ hZX l1
  go_enter Tryz.func84, Tryz.ntmps84
  go_wp2_with fail
  refine CN.out.mono ?_
  rintro e w1 ⟨a1, c1, rfl, hb1, ho1⟩
  have HB1 := hid hb1
  have HO1 := hid ho1
  clear hb1 ho1 CN
  go_wp2_with fail
  refine (CT.out w1).mono ?_
  rintro e w2 ⟨rfl, rfl⟩
  go_wp2_with fail
  refine (CX.out w1 a1 c1 (UM.out _ _ _ HO1.out)).mono ?_
  rintro e w2 ⟨a2, c2, rfl, hb2, ho2⟩
  have HB2 := hid (below_trans HB1.out hb2)
  have HO2 := hid (owns_mono ho2 HB1.out.size)
  clear hb2 ho2 HO1 HB1
  rcases HZ.out with ⟨rfl, rfl⟩ | ⟨hX0, rfl⟩
  · go_wp2
    go_ret2
    exact OutUE.nil HB2.out
  · obtain ⟨b, off, rfl⟩ := (owned_row HO2.out).isSome (by intro e; exact hX0 (by simpa [u32s] using e))
    have hX0' : ((X.length : Int) == 0) = false := by
      have : X.length ≠ 0 := fun e => hX0 (List.length_eq_zero_iff.1 e)
      simpa using this
    have HX0 := hid hX0
    clear hX0 HZ
    obtain ⟨i0, hi, hz0, hz1, hz2⟩ := info_parts Tryz.infoU32
    have hsz := HB2.out.size
    have HNWS : Hid (∀ w3, Below w2.heap.size w2 w3 → ∀ j u, (u32s X)[j]? = some u → w3.cell? ((⟨b, off, none⟩ : Addr).add j) = some u) := fun w3 hb3 j u hj => by
      obtain ⟨b', off', e, hc⟩ := (owned_row HO2.out).below hb3 j u hj
      injection e with e; injection e with e1 e2; subst e1 e2
      rw [Addr.add_lit]; exact hc
    have HC : Hid (∀ u ∈ u32s X, u.oneCell' = true) := fun u hu => by simp [u32s] at hu; obtain ⟨x, _, rfl⟩ := hu; rfl
    have hml : n / 9 + X.length ≤ maxLen := by unfold maxLen; omega
    have hml4 : (n / 9 + X.length) * 4 ≤ 140737488355328 := by omega
    go_wp2_with (first | (at_make; refine wpList_full Tryz.u32Slice rfl _ _ rfl (n / 9) rfl rfl (by go_num) (by go_num) (by omega) (by unfold maxLen; omega) ?_; intro w3 hown hb3; have HB3 := hid hb3; have hsz3 := hb3.size; clear hb3) | (at_builtin; refine wpList_append_own _ rfl _ _ 23 rfl w2.heap.size 70 i0 (.int .u32 0) 1 4 Tryz.underlying23 hi hz0 hz1 hz2 rfl (by decide) _ _ _ rfl hown ⟨b, off, none⟩ X.length c2 (u32s X) rfl (by simp) (HNWS.out _ HB3.out) HC.out hml hml4 hsz3 ?_; intro v' w4 hown' hgrow _))
    obtain ⟨a4, c4, rfl, _, _⟩ := owns_row hown'
    have HB4 := hid (HB3.out.grown hgrow hsz3 (fun k hk => (hown.lt k hk).1))
    have HO4 := hid hown'
    clear hown hown' hgrow
    go_ret2
    refine ⟨a4, c4, ?_, below_trans HB2.out HB4.out, ?_⟩
    · simp
    · have := owns_mono HO4.out hsz
      simpa [u32s] using this

theorem u32s_one (xs : List Nat) : ∀ u ∈ u32s xs, u.oneCell' = true := fun u hu => by simp [u32s] at hu; obtain ⟨x, _, rfl⟩ := hu; rfl

/-- slices.Clone of what is not nil. -/
theorem clone_u32 (b off n cap : Nat) (xs : List Nat) (w : World) (h : Row w (some ⟨b, off, none⟩) (u32s xs)) (hl : xs.length = n) (hn : n ≤ 100000001) :
    Calls Tryz.prog 181 #[.slice (some ⟨b, off, none⟩) n cap] w (OutU w xs) := by
  have H := hid h
  have HL := hid hl
  have hm : 0 + n ≤ maxLen := by unfold maxLen; omega
  have hml4 : (0 + n) * 4 ≤ 140737488355328 := by omega
  have h0 := World.ownsRow_made (base := w.heap.size) (e := 70) (size := 1) w #[] 0 (Nat.le_refl _) (by unfold maxLen; omega) rfl
  have hr0 : Row (w.alloc (.cells #[] 70)) (some ⟨b, off, none⟩) (u32s xs) := h.below ((Below.refl _ _).alloc (Nat.le_refl _) _)
  have hq := fun (W : World) => Lib.run_eql_slice_nil (P := Tryz.prog) W 23 70 (some ⟨b, off, none⟩) n cap 0 0 Tryz.underlying23
  have H0 := hid h0
  have HR := hid hr0
  clear h hl h0 hr0
  go_enter Tryz.func181, Tryz.ntmps181
  go_wp2_with (at_builtin; refine wpList_extend Tryz.u32Slice rfl _ _ rfl w.heap.size H0.out rfl rfl HR.out (by rw [length_u32s, HL.out]) (by simp) (u32s_one _) hm hml4 (by simp) ?_; intro v' w' hown hb)
  rw [Nat.zero_add, List.nil_append] at hown
  obtain ⟨a, c, rfl, _, _⟩ := owns_row hown
  go_ret
  refine ⟨a, c, by rw [HL.out]; rfl, ?_, by rw [HL.out]; exact hown⟩
  exact ((Below.refl _ _).alloc (Nat.le_refl _) _).trans hb

end Go.Proofs.YtmdgciolnpkccaaGreatDoor
