/- Layer 2, first part: near, noughts, plain. -/
import Derived.Test.YtmdgciolnpkccaaGreatDoorLimbH
import Derived.Test.YtmdgciolnpkccaaGreatDoorLimbI
namespace Go.Proofs.YtmdgciolnpkccaaGreatDoor
open Go.RowKit

/-- Is it a number that is looked at? -/
def nearB (n : Nat) (e : Int) : Bool := decide (n ≤ 200) && decide (-30000 ≤ e) && decide (e ≤ 30000)

set_option maxRecDepth 100000 in
theorem dec_near (g : Bool) (a : Option Addr) (n cap : Nat) (e : Int) (w : World) :
    Calls Tryz.prog 167 #[.agg #[.bool g, .slice a n cap, .int .i64 e]] w fun en w' => en = .returned (.bool (nearB n e)) ∧ Below w.heap.size w w' := by
  by_cases h1 : n ≤ 200
  · by_cases h2 : -30000 ≤ e
    · have hr : nearB n e = decide (e ≤ 30000) := by simp [nearB, h1, h2]
      rw [hr]
      clear hr
      go_enter Tryz.func167, Tryz.ntmps167
      go_wp2
      go_ret
      exact ⟨rfl, (Below.refl _ _).alloc (Nat.le_refl _) _⟩
    · have hr : nearB n e = false := by simp [nearB, h2]
      rw [hr]
      clear hr
      go_enter Tryz.func167, Tryz.ntmps167
      go_wp2
      go_ret
      exact ⟨rfl, (Below.refl _ _).alloc (Nat.le_refl _) _⟩
  · have hr : nearB n e = false := by simp [nearB, h1]
    rw [hr]
    clear hr
    go_enter Tryz.func167, Tryz.ntmps167
    go_wp2
    go_ret
    exact ⟨rfl, (Below.refl _ _).alloc (Nat.le_refl _) _⟩

/-- How many noughts stand at the end of a number's digits. -/
def tz (m : Nat) : Nat := ((Num.digs 10 m).takeWhile (· == 0)).length

theorem chr_zero {d : Nat} (h : d < 10) : (Num.chr d == 48) = (d == 0) := by
  have : d = 0 ∨ d = 1 ∨ d = 2 ∨ d = 3 ∨ d = 4 ∨ d = 5 ∨ d = 6 ∨ d = 7 ∨ d = 8 ∨ d = 9 := by omega
  rcases this with rfl | rfl | rfl | rfl | rfl | rfl | rfl | rfl | rfl | rfl <;> rfl
theorem trim_chr (xs : List Nat) (h : ∀ x ∈ xs, x < 10) : ((xs.map Num.chr).dropWhile (· == 48)).length + (xs.takeWhile (· == 0)).length = xs.length := by
  induction xs with
  | nil => rfl
  | cons x xs ih =>
    have h1 := chr_zero (h x (by simp))
    have h2 := ih (fun y hy => h y (by simp [hy]))
    simp only [List.map_cons, List.dropWhile_cons, List.takeWhile_cons, h1]
    by_cases hx : (x == 0) = true
    · simp only [hx, if_true, List.length_cons]; omega
    · simp [hx]
theorem noughts_math (m : Nat) (hm : m ≠ 0) : (Lib.trimRightB (Lib.decDigits m) 48).length + tz m = (Lib.decDigits m).length := by
  rw [Num.decDigits_digs m hm]
  unfold Lib.trimRightB tz
  have := trim_chr (Num.digs 10 m) (Num.digs_lt (by decide) m)
  simpa using this
theorem tz_le (m : Nat) : tz m ≤ (Num.digs 10 m).length := by
  unfold tz
  exact (List.takeWhile_prefix _).length_le

set_option maxRecDepth 100000 in
theorem dec_noughts (m : Nat) (hm : m ≠ 0) (hl : (Num.digs 10 m).length ≤ 1000000000) (w : World) :
    Calls Tryz.prog 125 #[.string ⟨(Lib.decDigits m).toArray⟩] w fun en w' => en = .returned (.int .i64 (tz m)) ∧ w = w' := by
  obtain ⟨D, hD⟩ : ∃ D, D = Lib.decDigits m := ⟨_, rfl⟩
  have hDl : D.length ≤ 1000000000 := by rw [hD, Num.decDigits_len m hm]; exact hl
  have C := Tryz.strings_TrimRight_one ⟨D.toArray⟩ 48 (by decide) w (by simp [ByteArray.size]; omega)
  obtain ⟨T, hT⟩ : ∃ T, T = Lib.trimRightB D 48 := ⟨_, rfl⟩
  have hmath : T.length + tz m = D.length := by rw [hT, hD]; exact noughts_math m hm
  rw [← hD]
  have e0 : (⟨D.toArray⟩ : ByteArray).data.toList = D := rfl
  rw [e0, ← hT] at C
  have C := hid C
  clear hD hT e0
  have hmi : (D.length : Int) - (T.length : Int) = (tz m : Int) := by omega
  have HM := hid hmi
  have hTl : T.length ≤ D.length := by omega
  clear hmath hmi
  go_enter Tryz.func125, Tryz.ntmps125
  go_wp2_with (go_at_call 180; refine C.out.mono ?_; rintro e w' ⟨rfl, rfl⟩)
  go_ret
  exact ⟨ret_int HM.out, rfl⟩

/-- A plain number. -/
structure D where
  neg : Bool
  m : Nat
  e : Int
/-- The plain number of a worth. -/
def plainD (neg : Bool) (m : Nat) (e : Int) : D := if m = 0 then ⟨false, 0, 0⟩ else ⟨neg, m / 10 ^ tz m, e + tz m⟩

/-- A number as it is handed back: its limbs in memory of the call's own. -/
def decV (d : D) (a : Option Addr) (cap : Nat) : Value := .agg #[.bool d.neg, .slice a (Num.limbs d.m).length cap, .int .i64 d.e]
def OwnD (w w' : World) (d : D) (a : Option Addr) (cap : Nat) : Prop :=
  Below w.heap.size w w' ∧ w'.ownsRow w.heap.size 70 1 (.slice a (Num.limbs d.m).length cap) (Num.limbs d.m).length (u32s (Num.limbs d.m))
def OutD (w : World) (d : D) (e : Ending) (w' : World) : Prop := ∃ a cap, e = .returned (decV d a cap) ∧ OwnD w w' d a cap

set_option maxRecDepth 100000 in
set_option maxHeartbeats 400000 in
theorem dec_plain (g : Bool) (a : Option Addr) (cap : Nat) (e : Int) (xs : List Nat) (w : World) (h : U32 w a xs) (hl : xs.length ≤ 10000000) (hd : (Num.digs 10 (Num.worth xs)).length ≤ 30000) (he : -3000000 ≤ e ∧ e ≤ 3000000) (htab : Pow w) :
    Calls Tryz.prog 61 #[.bool g, .slice a xs.length cap, .int .i64 e] w (OutD w (plainD g (Num.worth xs) e)) := by
  have l1 := worth_lt h.lt (Nat.le_refl _)
  have CN := fun W (hb : Below w.heap.size w W) => limb_Norm a cap xs W (h.below hb) (by omega)
  obtain ⟨m, hm⟩ : ∃ m, m = Num.worth xs := ⟨_, rfl⟩
  rw [← hm] at CN l1 hd ⊢
  have HTAB := hid htab
  have CN := hid CN
  by_cases h0 : m = 0
  · subst h0
    clear hm h htab
    go_enter Tryz.func61, Tryz.ntmps61
    go_wp2_with fail
    refine (CN.out _ ((Below.refl _ _).alloc (Nat.le_refl _) _)).mono ?_
    rintro e w1 ⟨a1, c1, rfl, hb1, ho1⟩
    obtain ⟨hc, hf⟩ := bcell hb1
    go_wp2
    refine bodyPost_ret (v := .agg #[.bool false, .slice none 0 0, .int .i64 0]) (by simp [results, Tryz.results61, go_sem, hc]) rfl ⟨none, 0, rfl, ?_, World.ownsRow_nil _ _ _ _⟩
    exact (((below_alloc hb1).setCell (Nat.le_refl _) _).setCell (Nat.le_refl _) _).setCell (Nat.le_refl _) _
  · have hpl : plainD g m e = ⟨g, m / 10 ^ tz m, e + tz m⟩ := by unfold plainD; rw [if_neg h0]
    have htz := tz_le m
    have CC : ∀ W a1 c1 n, n = tz m → U32 W a1 (Num.limbs m) → Calls Tryz.prog 126 #[.slice a1 (Num.limbs m).length c1, .int .i64 n] W (OutUUE W (Num.limbs (m / 10 ^ n)) (Num.limbs (m % 10 ^ n)) 0) := fun W a1 c1 n hn hu => by
      have := limb_Cut a1 c1 n (Num.limbs m) W hu (by omega) (by omega) (by rw [Num.worth_limbs]; exact h0)
      rwa [Num.worth_limbs] at this
    have CT : ∀ W a1 c1, U32 W a1 (Num.limbs m) → Pow W → Calls Tryz.prog 117 #[.slice a1 (Num.limbs m).length c1] W fun e w' => e = .returned (.string ⟨(Lib.decDigits m).toArray⟩) ∧ Below W.heap.size W w' := fun W a1 c1 hu hp => by
      have := limb_Text a1 c1 (Num.limbs m) W hu (by omega) hp
      rwa [Num.worth_limbs] at this
    have CNG := fun W => dec_noughts m h0 (by omega) W
    obtain ⟨n, hn⟩ : ∃ n, n = tz m := ⟨_, rfl⟩
    have hL0 : ((Num.limbs m).length : Int) ≠ 0 := by
      intro e
      exact h0 ((Num.digs_eq_nil Num.two_le_B9).1 (List.length_eq_zero_iff.1 (Int.ofNat_eq_zero.1 e)))
    have hL0' : (((Num.limbs m).length : Int) == 0) = false := by rw [beq_eq_false_iff_ne]; exact hL0
    obtain ⟨M, hM⟩ : ∃ M, M = Num.limbs (m / 10 ^ n) := ⟨_, rfl⟩
    have hCC := fun W a1 c1 => CC W a1 c1 n hn
    rw [← hn] at CNG hpl htz
    rw [hpl]
    rw [← hM] at hCC
    obtain ⟨T, hT⟩ : ∃ T, T = Lib.decDigits m := ⟨_, rfl⟩
    rw [← hT] at CNG CT
    obtain ⟨X, hX⟩ : ∃ X, X = Num.limbs m := ⟨_, rfl⟩
    have UX : ∀ W b a1 c1, W.ownsRow b 70 1 (.slice a1 X.length c1) X.length (u32s X) → U32 W a1 X := fun W b a1 c1 ho => by rw [hX] at ho ⊢; exact u32_limbs ho
    rw [← hX] at CN CT hCC hL0'
    have CN := hid CN
    have CT := hid CT
    have CNG := hid CNG
    have CC := hid hCC
    have UX := hid UX
    have HM := hid hM
    clear hm h htab h0 hT hX hn hpl hM hL0 hCC
    go_enter Tryz.func61, Tryz.ntmps61
    go_wp2_with fail
    refine (CN.out _ ((Below.refl _ _).alloc (Nat.le_refl _) _)).mono ?_
    rintro e1 w1 ⟨a1, c1, rfl, hb1, ho1⟩
    have HO1 := hid (owns_mono ho1 (show w.heap.size ≤ _ by simp))
    have HB1 := hid (below_alloc hb1)
    have HK1 := hid (blk_below (blk_new w _) hb1)
    have hz1 : w.heap.size + 1 ≤ w1.heap.size := by simpa using hb1.size
    clear hb1 ho1
    go_wp2_with fail
    refine (CT.out w1 a1 c1 (UX.out _ _ _ _ HO1.out) (HTAB.out.next HB1.out)).mono ?_
    rintro e2 w2 ⟨rfl, hb2⟩
    have HO2 := hid (owns_below HO1.out hb2)
    have HB2 := hid (below_trans HB1.out hb2)
    have HK2 := hid (blk_below HK1.out hb2)
    have hz2 : w.heap.size + 1 ≤ w2.heap.size := Nat.le_trans hz1 hb2.size
    clear hb2 HO1 HB1 HK1
    go_wp2_with fail
    refine (CNG.out w2).mono ?_
    rintro e3 w3 ⟨rfl, rfl⟩
    go_wp2_with fail
    refine (CC.out w2 a1 c1 (UX.out _ _ _ _ HO2.out)).mono ?_
    rintro e4 w4 ⟨a4, c4, a5, c5, rfl, hb4, ho4, ho5⟩
    have HO4 := hid (owns_mono ho4 hz2)
    have HB4 := hid (below_trans HB2.out hb4)
    have hk4 := blk_three (blk_below HK2.out hb4)
    obtain ⟨⟨k0, k1, k2⟩, f0, f1, f2⟩ := hk4
    clear hb4 ho4 ho5 HO2 HB2 HK2
    go_wp2
    refine bodyPost_ret (v := .agg #[.bool g, .slice a4 M.length c4, .int .i64 (e + n)]) (by simp [results, Tryz.results61, go_sem, k0, k1, k2]) rfl ?_
    rw [HM.out] at HO4 ⊢
    refine ⟨a4, c4, rfl, ?_, ?_⟩
    · exact ((HB4.out.setCell (Nat.le_refl _) _).setCell (Nat.le_refl _) _).setCell (Nat.le_refl _) _
    · refine owns_mono (base := w.heap.size + 1) ?_ (by omega)
      exact ownsRow_setCell_below (ownsRow_setCell_below (ownsRow_setCell_below HO4.out (Nat.lt_succ_self _) _) (Nat.lt_succ_self _) _) (Nat.lt_succ_self _) _

end Go.Proofs.YtmdgciolnpkccaaGreatDoor
