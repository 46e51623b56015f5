/- Layer 1, ninth part: Digits, Text. -/
import Derived.Test.YtmdgciolnpkccaaGreatDoorLimbC
import Derived.Test.YtmdgciolnpkccaaGreatDoorDig
import Derived.Test.YtmdgciolnpkccaaGreatDoorStrB
namespace Go.Proofs.YtmdgciolnpkccaaGreatDoor
open Go.RowKit

/-- The limbs of a number that isn't 0, the highest apart. -/
theorem limbs_top (n : Nat) (hn : n ≠ 0) : (Num.limbs n).getD ((Num.limbs n).length - 1) 0 ≠ 0 := by
  obtain ⟨zs, y, e, hy⟩ := Num.digs_last Num.two_le_B9 n hn
  unfold Num.limbs
  rw [e]; simpa using hy
theorem worth_drop_last (X : List Nat) (n : Nat) (hl : X.length = n + 1) : Num.worth (X.drop n) = X.getD n 0 := by
  rw [Num.drop_getD (by omega), List.drop_of_length_le (by omega)]; simp [Num.worth, Num.val]
theorem worth_drop (X : List Nat) (m : Nat) (hm : m < X.length) : Num.worth (X.drop m) = X.getD m 0 + 10 ^ 9 * Num.worth (X.drop (m + 1)) := by
  rw [Num.drop_getD hm]; rfl

theorem digits_math (X : List Nat) (h9 : ∀ x ∈ X, x < 1000000000) (n : Nat) (hl : X.length = n + 1) (h0 : X.getD n 0 ≠ 0) :
    ∀ k, k ≤ n → (Num.digs 10 (Num.worth (X.drop (n - k)))).length = 9 * k + (Num.digs 10 (X.getD n 0)).length ∧ Num.worth (X.drop (n - k)) ≠ 0
  | 0, _ => by rw [Nat.sub_zero, worth_drop_last X n hl]; exact ⟨by omega, h0⟩
  | k + 1, hk => by
    obtain ⟨ih, ih0⟩ := digits_math X h9 n hl h0 k (by omega)
    have e := worth_drop X (n - (k + 1)) (by omega)
    rw [show n - (k + 1) + 1 = n - k by omega] at e
    have hx : X.getD (n - (k + 1)) 0 < 10 ^ 9 := h9 _ (by rw [List.getD_eq_getElem?_getD, List.getElem?_eq_getElem (by omega)]; simp)
    rw [e]
    refine ⟨by rw [Num.digs_length_join _ _ 9 ih0 hx, ih]; omega, ?_⟩
    omega

set_option maxRecDepth 100000 in
set_option maxHeartbeats 400000 in
theorem limb_Digits (a : Option Addr) (cap : Nat) (xs : List Nat) (w : World) (h : U32 w a xs) (hl : xs.length ≤ 100000000) (htab : Pow w) :
    Calls Tryz.prog 83 #[.slice a xs.length cap] w fun e w' => e = .returned (.int .i64 ((Num.digs 10 (Num.worth xs)).length : Nat)) ∧ Below w.heap.size w w' := by
  have l1 := worth_lt h.lt (Nat.le_refl _)
  have CN := limb_Norm a cap xs w h (by omega)
  obtain ⟨X, hX⟩ : ∃ X, X = Num.limbs (Num.worth xs) := ⟨_, rfl⟩
  have h9 : ∀ x ∈ X, x < 1000000000 := by rw [hX]; exact Num.limbs_lt _
  have hXX : Num.worth xs = Num.worth X := by rw [hX, Num.worth_limbs]
  have htop : Num.worth xs ≠ 0 → X.getD (X.length - 1) 0 ≠ 0 := fun h0 => by rw [hX]; exact limbs_top _ h0
  have hz : X ≠ [] → Num.worth xs ≠ 0 := fun h1 h2 => h1 (by rw [hX, h2]; rfl)
  rw [← hX] at CN l1
  rw [hXX] at htop hz ⊢
  have CN := hid CN
  have H9 := hid h9
  have HTOP := hid htop
  have HTAB := hid htab
  have HZ := hid hz
  clear h hX h9 hXX htop htab hz
  go_enter Tryz.func83, Tryz.ntmps83
  go_wp2_with fail
  refine CN.out.mono ?_
  rintro e w1 ⟨a1, c1, rfl, hb1, ho1⟩
  have HB1 := hid hb1
  have HO1 := hid ho1
  clear hb1 ho1 CN
  by_cases h0 : X = []
  · subst h0
    go_wp2
    go_ret
    exact ⟨ret_int (by simp [Num.worth, Num.val, Num.digs_zero]), HB1.out⟩
  · obtain ⟨b, off, rfl⟩ := (owned_row HO1.out).isSome (by intro e; exact h0 (by simpa [u32s] using e))
    have hX1 : 1 ≤ X.length := by have : X.length ≠ 0 := fun e => h0 (List.length_eq_zero_iff.1 e); omega
    have hX2 : ((X.length : Int) == 0) = false := by rw [beq_eq_false_iff_ne]; omega
    have hc := (owned_row HO1.out).u32 (j := X.length - 1) (by omega)
    obtain ⟨x, hxe⟩ : ∃ x, x = X.getD (X.length - 1) 0 := ⟨_, rfl⟩
    have hx0 : x ≠ 0 := by rw [hxe]; exact HTOP.out (HZ.out h0)
    have hx9 : x < 1000000000 := by rw [hxe]; exact H9.out _ (by rw [List.getD_eq_getElem?_getD, List.getElem?_eq_getElem (by omega)]; simp)
    have hmath := (digits_math X H9.out (X.length - 1) (by omega) (by rw [← hxe]; exact hx0) (X.length - 1) (Nat.le_refl _)).1
    rw [← hxe] at hc hmath
    rw [Nat.sub_self, List.drop_zero] at hmath
    have CF := hid (strconv_FormatUint x (by omega) w1 (HTAB.out.next HB1.out))
    rw [← Num.decDigits_len x hx0] at hmath
    obtain ⟨D, hD⟩ : ∃ D, D = Lib.decDigits x := ⟨_, rfl⟩
    rw [← hD] at CF hmath
    have hD9 : D.length ≤ 9 := by rw [hD]; exact Num.decDigits_le x 9 (by decide) hx9
    have HM := hid hmath
    clear hmath hD hxe hx0 h0
    go_wp2_with (go_at_call 149; refine CF.out.mono ?_; rintro e w2 ⟨rfl, hb2⟩)
    go_ret
    exact ⟨ret_int (by rw [HM.out]; omega), below_trans HB1.out hb2⟩

theorem decDigits_drop (X : List Nat) (h9 : ∀ x ∈ X, x < 1000000000) (m : Nat) (hm : m + 1 < X.length) (h0 : X.getD (X.length - 1) 0 ≠ 0) :
    Lib.decDigits (Num.worth (X.drop (m + 1))) ++ Num.padT 9 (X.getD m 0) = Lib.decDigits (Num.worth (X.drop m)) := by
  have hx : X.getD m 0 < 10 ^ 9 := h9 _ (by rw [List.getD_eq_getElem?_getD, List.getElem?_eq_getElem (by omega)]; simp)
  have hne := (digits_math X h9 (X.length - 1) (by omega) h0 (X.length - 1 - (m + 1)) (by omega)).2
  rw [show X.length - 1 - (X.length - 1 - (m + 1)) = m + 1 by omega] at hne
  rw [worth_drop X m (by omega), Num.decDigits_join _ _ 9 hne hx (by decide)]

set_option maxRecDepth 100000 in
set_option maxHeartbeats 800000 in
theorem limb_Text (a : Option Addr) (cap : Nat) (xs : List Nat) (w : World) (h : U32 w a xs) (hl : xs.length ≤ 100000000) (htab : Pow w) :
    Calls Tryz.prog 117 #[.slice a xs.length cap] w fun e w' => e = .returned (.string ⟨(Lib.decDigits (Num.worth xs)).toArray⟩) ∧ Below w.heap.size w w' := by
  have l1 := worth_lt h.lt (Nat.le_refl _)
  have CN := limb_Norm a cap xs w h (by omega)
  obtain ⟨X, hX⟩ : ∃ X, X = Num.limbs (Num.worth xs) := ⟨_, rfl⟩
  have h9 : ∀ x ∈ X, x < 1000000000 := by rw [hX]; exact Num.limbs_lt _
  have hXX : Num.worth xs = Num.worth X := by rw [hX, Num.worth_limbs]
  have htop : Num.worth xs ≠ 0 → X.getD (X.length - 1) 0 ≠ 0 := fun h0 => by rw [hX]; exact limbs_top _ h0
  have hz : X ≠ [] → Num.worth xs ≠ 0 := fun h1 h2 => h1 (by rw [hX, h2]; rfl)
  rw [← hX] at CN l1
  rw [hXX] at htop hz ⊢
  have CN := hid CN
  have H9 := hid h9
  have HTOP := hid htop
  have HTAB := hid htab
  have HZ := hid hz
  clear h hX h9 hXX htop htab hz
  go_enter Tryz.func117, Tryz.ntmps117
  go_wp2_with fail
  refine CN.out.mono ?_
  rintro e w1 ⟨a1, c1, rfl, hb1, ho1⟩
  have HB1 := hid hb1
  have HO1 := hid ho1
  clear hb1 ho1 CN
  by_cases h0 : X = []
  · subst h0
    go_wp2
    go_ret
    exact ⟨by simp [Num.worth, Num.val, Num.decDigits_zero], HB1.out⟩
  · obtain ⟨b, off, rfl⟩ := (owned_row HO1.out).isSome (by intro e; exact h0 (by simpa [u32s] using e))
    have hX1 : 1 ≤ X.length := by have : X.length ≠ 0 := fun e => h0 (List.length_eq_zero_iff.1 e); omega
    have hX2 : ((X.length : Int) == 0) = false := by rw [beq_eq_false_iff_ne]; omega
    have hc := (owned_row HO1.out).u32 (j := X.length - 1) (by omega)
    obtain ⟨x, hxe⟩ : ∃ x, x = X.getD (X.length - 1) 0 := ⟨_, rfl⟩
    have hT := HTOP.out (HZ.out h0)
    have hx9 : x < 1000000000 := by rw [hxe]; exact H9.out _ (by rw [List.getD_eq_getElem?_getD, List.getElem?_eq_getElem (by omega)]; simp)
    rw [← hxe] at hc
    have hwl : Num.worth (X.drop (X.length - 1)) = x := by rw [hxe]; exact worth_drop_last X _ (by omega)
    have CF := fun W (hb : Below w1.heap.size w1 W) => strconv_FormatUint x (by omega) W ((HTAB.out.next HB1.out).next hb)
    obtain ⟨D, hD⟩ : ∃ D, D = Lib.decDigits x := ⟨_, rfl⟩
    rw [← hD] at CF
    have hD9 : D.length ≤ 9 := by rw [hD]; exact Num.decDigits_le x 9 (by decide) hx9
    rw [← hwl] at hD
    have hbl := cell_lt hc
    have CF := hid CF
    have HD := hid hD
    have HT := hid hT
    clear hD hxe h0 hwl hT
    go_wp2_with fail
    refine (CF.out _ ((Below.refl _ _).alloc (Nat.le_refl _) _)).mono ?_
    rintro e w2 ⟨rfl, hb2⟩
    have hbu := isBuilder_below (Lib.fresh_isBuilder 180 5 w1) hb2
    have HB2 := hid (below_alloc hb2)
    have hsz2 := HB2.out.size
    clear hb2 CF
    go_wp2_with fail
    refine (WriteString w1.heap.size w1.heap.size [] ⟨D.toArray⟩ w2 hbu (by simp [ByteArray.size]; omega) hsz2).mono ?_
    rintro e w3 ⟨rfl, hbu3, hb3⟩
    have HBU := hid (show Lib.BuilderAt 180 5 w1.heap.size w1.heap.size (.pointer (some ⟨w1.heap.size, 0, none⟩)) (Lib.byteCells D) w3 by simpa [Lib.strCells_eq] using hbu3)
    have HB3 := hid (HB2.out.trans hb3)
    clear hbu hbu3 hb3 hsz2
    go_wp2_with fail
    go_loopw [5] (fun i wr => ∃ (k : Nat) (S : List UInt8), 1 ≤ k + 1 ∧ k + 1 ≤ X.length ∧ i = .int .i64 ((k : Int) - 1) ∧ S = Lib.decDigits (Num.worth (X.drop k)) ∧ S.length ≤ 9 * (X.length - k) ∧
        Lib.BuilderAt 180 5 w1.heap.size w1.heap.size (.pointer (some ⟨w1.heap.size, 0, none⟩)) (Lib.byteCells S) wr ∧ Below w1.heap.size w1 wr) (fun i _ => (intOf i + 1).toNat)
    case atStart => exact ⟨X.length - 1, D, by omega, by omega, by go_num, HD.out, by omega, HBU.out, HB3.out⟩
    case round =>
      clear HBU HB3 HB2 HD hc hbl hx9 hD9
      obtain ⟨k, S, _, hk, rfl, hS, hSl, hbu, hb⟩ := hrel
      have HS := hid hS
      have HBU := hid hbu
      have HB := hid hb
      clear hS hbu hb
      by_cases hk0 : k = 0
      · subst hk0
        go_wp2_with fail
        refine (Tryz.Builder_String_any w1.heap.size w1.heap.size S wr (Or.inr HBU.out) HB.out.size).mono ?_
        rintro e w4 ⟨rfl, hb4⟩
        have HB4 := hid (below_trans HB1.out (HB.out.trans hb4))
        have HS' := hid (show S = Lib.decDigits (Num.worth X) by simpa using HS.out)
        clear hb4
        go_wp2
        go_ret
        exact ⟨by rw [HS'.out]; rfl, HB4.out⟩
      · obtain ⟨m, rfl⟩ : ∃ m, k = m + 1 := ⟨k - 1, by omega⟩
        have e1 : ((m + 1 : Nat) : Int) - 1 = (m : Int) := by omega
        rw [e1]
        have hm : m < X.length := by omega
        obtain ⟨x, hxe⟩ : ∃ x, x = X.getD m 0 := ⟨_, rfl⟩
        have hx9 : x < 1000000000 := by rw [hxe]; exact H9.out _ (by rw [List.getD_eq_getElem?_getD, List.getElem?_eq_getElem hm]; simp)
        have g0 := (owned_row HO1.out).u32 hm
        have hc : wr.cell? ⟨b, off + m, none⟩ = some (.int .u32 (x : Int)) := by rw [hxe]; exact (HB.out.cell (cell_lt g0)).trans g0
        obtain ⟨E, hE⟩ : ∃ E, E = Lib.decDigits x := ⟨_, rfl⟩
        have hE9 : E.length ≤ 9 := by rw [hE]; exact Num.decDigits_le x 9 (by decide) hx9
        have CF := strconv_FormatUint x (by omega) wr ((HTAB.out.next HB1.out).next HB.out)
        rw [← hE] at CF
        have HST : Hid (S ++ (List.replicate (9 - E.length) 48 ++ E) = Lib.decDigits (Num.worth (X.drop m))) := by
          have := decDigits_drop X H9.out m (by omega) HT.out
          rw [← hxe, ← HS.out] at this
          rw [← this, hE]; rfl
        have CF := hid CF
        clear hE hxe g0 e1 HS
        go_wp2_with fail
        refine CF.out.mono ?_
        rintro e w4 ⟨rfl, hb4⟩
        have HBU4 := hid (builder_below HBU.out hb4)
        have HB4 := hid (below_trans HB.out hb4)
        clear hb4 HBU HB CF
        have hrep : (9 : Int) - (E.length : Int) = ((9 - E.length : Nat) : Int) := by omega
        have CR := Tryz.strings_Repeat ⟨#[48]⟩ (9 - E.length) w4 (by omega) (by simp [ByteArray.size]; omega)
        rw [← hrep] at CR
        have CR := hid CR
        clear hrep
        go_wp2_with fail
        refine CR.out.mono ?_
        rintro e w5 ⟨rfl, hb5⟩
        have HBU5 := hid (builder_below HBU4.out hb5)
        have HB5 := hid (below_trans HB4.out hb5)
        clear hb5 HBU4 HB4 CR
        go_wp2_with fail
        refine (WriteString w1.heap.size w1.heap.size (Lib.byteCells S) _ w5 (Or.inr HBU5.out) (by simp [ByteArray.size, Lib.byteCells_length, Lib.repeatL_length]; omega) HB5.out.size).mono ?_
        rintro e w6 ⟨rfl, hbu6, hb6⟩
        have HBU6 := hid hbu6
        have HB6 := hid (HB5.out.trans hb6)
        clear hbu6 hb6 HBU5 HB5
        go_wp2_with fail
        refine (WriteString w1.heap.size w1.heap.size _ _ w6 (Or.inr HBU6.out) (by simp [ByteArray.size, Lib.byteCells_length, Lib.strCells_length, Lib.repeatL_length]; omega) HB6.out.size).mono ?_
        rintro e w7 ⟨rfl, hbu7, hb7⟩
        have HBU7 := hid hbu7
        have HB7 := hid (HB6.out.trans hb7)
        clear hbu7 hb7 HBU6 HB6
        go_wp2
        go_roundw
        case rel =>
          refine ⟨m, S ++ (List.replicate (9 - E.length) 48 ++ E), by omega, by omega, by go_num, HST.out, by simp; omega, ?_, HB7.out⟩
          have := HBU7.out
          simpa [Lib.strCells_eq, Lib.byteCells, Num.repeatL_one] using this
        case measure => simp [intOf]

end Go.Proofs.YtmdgciolnpkccaaGreatDoor
