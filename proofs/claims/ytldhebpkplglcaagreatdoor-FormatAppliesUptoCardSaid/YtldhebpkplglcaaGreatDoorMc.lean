/- Layer 2, first part: near, noughts, plain. Layer 2, second part: head, fits, taken. Layer 2, third part: taken, Norm. Layer 2, fourth part: figures, Text. Layer 2, fifth part: Text. Layer 2, sixth part: Of, same, May, sign, Neg. -/
import Derived.Test.YtldhebpkplglcaaGreatDoorMa
import Derived.Test.YtldhebpkplglcaaGreatDoorMb
namespace Go.Proofs.YtldhebpkplglcaaGreatDoor
open Go.RowKit

/-- Is it a number that is looked at? -/
def nearB (n : Nat) (e : Int) : Bool := decide (n ≤ 200) && decide (-30000 ≤ e) && decide (e ≤ 30000)

set_option maxRecDepth 100000 in
theorem dec_near (g : Bool) (a : Option Addr) (n cap : Nat) (e : Int) (w : World) :
    Calls Tryz.prog 132 #[.agg #[.bool g, .slice a n cap, .int .i64 e]] w fun en w' => en = .returned (.bool (nearB n e)) ∧ Below w.heap.size w w' := by
  by_cases h1 : n ≤ 200
  · by_cases h2 : -30000 ≤ e
    · have hr : nearB n e = decide (e ≤ 30000) := by simp [nearB, h1, h2]
      rw [hr]
      clear hr
      go_enter Tryz.func132, Tryz.ntmps132
      go_wp2
      go_ret
      exact ⟨rfl, (Below.refl _ _).alloc (Nat.le_refl _) _⟩
    · have hr : nearB n e = false := by simp [nearB, h2]
      rw [hr]
      clear hr
      go_enter Tryz.func132, Tryz.ntmps132
      go_wp2
      go_ret
      exact ⟨rfl, (Below.refl _ _).alloc (Nat.le_refl _) _⟩
  · have hr : nearB n e = false := by simp [nearB, h1]
    rw [hr]
    clear hr
    go_enter Tryz.func132, Tryz.ntmps132
    go_wp2
    go_ret
    exact ⟨rfl, (Below.refl _ _).alloc (Nat.le_refl _) _⟩

/-- How many noughts stand at the end of a number's digits. -/
def tz (m : Nat) : Nat := ((Num.digs 10 m).takeWhile (· == 0)).length

theorem chr_zero {d : Nat} (h : d < 10) : (Num.chr d == 48) = (d == 0) := by
  have : d = 0 ∨ d = 1 ∨ d = 2 ∨ d = 3 ∨ d = 4 ∨ d = 5 ∨ d = 6 ∨ d = 7 ∨ d = 8 ∨ d = 9 := by omega
  rcases this with rfl | rfl | rfl | rfl | rfl | rfl | rfl | rfl | rfl | rfl <;> rfl
theorem trim_chr (xs : List Nat) (h : ∀ x ∈ xs, x < 10) : ((xs.map Num.chr).dropWhile (· == 48)).length + (xs.takeWhile (· == 0)).length = xs.length := by
  induction xs with
  | nil => rfl
  | cons x xs ih =>
    have h1 := chr_zero (h x (by simp))
    have h2 := ih (fun y hy => h y (by simp [hy]))
    simp only [List.map_cons, List.dropWhile_cons, List.takeWhile_cons, h1]
    by_cases hx : (x == 0) = true
    · simp only [hx, if_true, List.length_cons]; omega
    · simp [hx]
theorem noughts_math (m : Nat) (hm : m ≠ 0) : (Lib.trimRightB (Lib.decDigits m) 48).length + tz m = (Lib.decDigits m).length := by
  rw [Num.decDigits_digs m hm]
  unfold Lib.trimRightB tz
  have := trim_chr (Num.digs 10 m) (Num.digs_lt (by decide) m)
  simpa using this
theorem tz_le (m : Nat) : tz m ≤ (Num.digs 10 m).length := by
  unfold tz
  exact (List.takeWhile_prefix _).length_le

set_option maxRecDepth 100000 in
theorem dec_noughts (m : Nat) (hm : m ≠ 0) (hl : (Num.digs 10 m).length ≤ 1000000000) (w : World) :
    Calls Tryz.prog 170 #[.string ⟨(Lib.decDigits m).toArray⟩] w fun en w' => en = .returned (.int .i64 (tz m)) ∧ w = w' := by
  obtain ⟨D, hD⟩ : ∃ D, D = Lib.decDigits m := ⟨_, rfl⟩
  have hDl : D.length ≤ 1000000000 := by rw [hD, Num.decDigits_len m hm]; exact hl
  have C := Tryz.strings_TrimRight_one ⟨D.toArray⟩ 48 (by decide) w (by simp [ByteArray.size]; omega)
  obtain ⟨T, hT⟩ : ∃ T, T = Lib.trimRightB D 48 := ⟨_, rfl⟩
  have hmath : T.length + tz m = D.length := by rw [hT, hD]; exact noughts_math m hm
  rw [← hD]
  have e0 : (⟨D.toArray⟩ : ByteArray).data.toList = D := rfl
  rw [e0, ← hT] at C
  have C := hid C
  clear hD hT e0
  have hmi : (D.length : Int) - (T.length : Int) = (tz m : Int) := by omega
  have HM := hid hmi
  have hTl : T.length ≤ D.length := by omega
  clear hmath hmi
  go_enter Tryz.func170, Tryz.ntmps170
  go_wp2_with (go_at_call 42; refine C.out.mono ?_; rintro e w' ⟨rfl, rfl⟩)
  go_ret
  exact ⟨ret_int HM.out, rfl⟩

/-- A plain number. -/
structure D where
  neg : Bool
  m : Nat
  e : Int
/-- The plain number of a worth. -/
def plainD (neg : Bool) (m : Nat) (e : Int) : D := if m = 0 then ⟨false, 0, 0⟩ else ⟨neg, m / 10 ^ tz m, e + tz m⟩

/-- A number as it is handed back: its limbs in memory of the call's own. -/
def decV (d : D) (a : Option Addr) (cap : Nat) : Value := .agg #[.bool d.neg, .slice a (Num.limbs d.m).length cap, .int .i64 d.e]
def OwnD (w w' : World) (d : D) (a : Option Addr) (cap : Nat) : Prop :=
  Below w.heap.size w w' ∧ w'.ownsRow w.heap.size 62 1 (.slice a (Num.limbs d.m).length cap) (Num.limbs d.m).length (u32s (Num.limbs d.m))
def OutD (w : World) (d : D) (e : Ending) (w' : World) : Prop := ∃ a cap, e = .returned (decV d a cap) ∧ OwnD w w' d a cap

set_option maxRecDepth 100000 in
set_option maxHeartbeats 400000 in
theorem dec_plain (g : Bool) (a : Option Addr) (cap : Nat) (e : Int) (xs : List Nat) (w : World) (h : U32 w a xs) (hl : xs.length ≤ 10000000) (hd : (Num.digs 10 (Num.worth xs)).length ≤ 30000) (he : -3000000 ≤ e ∧ e ≤ 3000000) (htab : Pow w) :
    Calls Tryz.prog 133 #[.bool g, .slice a xs.length cap, .int .i64 e] w (OutD w (plainD g (Num.worth xs) e)) := by
  have l1 := worth_lt h.lt (Nat.le_refl _)
  have CN := fun W (hb : Below w.heap.size w W) => limb_Norm a cap xs W (h.below hb) (by omega)
  obtain ⟨m, hm⟩ : ∃ m, m = Num.worth xs := ⟨_, rfl⟩
  rw [← hm] at CN l1 hd ⊢
  have HTAB := hid htab
  have CN := hid CN
  by_cases h0 : m = 0
  · subst h0
    clear hm h htab
    go_enter Tryz.func133, Tryz.ntmps133
    go_wp2_with fail
    refine (CN.out _ ((Below.refl _ _).alloc (Nat.le_refl _) _)).mono ?_
    rintro e w1 ⟨a1, c1, rfl, hb1, ho1⟩
    obtain ⟨hc, hf⟩ := bcell hb1
    go_wp2
    refine bodyPost_ret (v := .agg #[.bool false, .slice none 0 0, .int .i64 0]) (by simp [results, Tryz.results133, go_sem, hc]) rfl ⟨none, 0, rfl, ?_, World.ownsRow_nil _ _ _ _⟩
    exact (((below_alloc hb1).setCell (Nat.le_refl _) _).setCell (Nat.le_refl _) _).setCell (Nat.le_refl _) _
  · have hpl : plainD g m e = ⟨g, m / 10 ^ tz m, e + tz m⟩ := by unfold plainD; rw [if_neg h0]
    have htz := tz_le m
    have CC : ∀ W a1 c1 n, n = tz m → U32 W a1 (Num.limbs m) → Calls Tryz.prog 171 #[.slice a1 (Num.limbs m).length c1, .int .i64 n] W (OutUUE W (Num.limbs (m / 10 ^ n)) (Num.limbs (m % 10 ^ n)) 0) := fun W a1 c1 n hn hu => by
      have := limb_Cut a1 c1 n (Num.limbs m) W hu (by omega) (by omega) (by rw [Num.worth_limbs]; exact h0)
      rwa [Num.worth_limbs] at this
    have CT : ∀ W a1 c1, U32 W a1 (Num.limbs m) → Pow W → Calls Tryz.prog 144 #[.slice a1 (Num.limbs m).length c1] W fun e w' => e = .returned (.string ⟨(Lib.decDigits m).toArray⟩) ∧ Below W.heap.size W w' := fun W a1 c1 hu hp => by
      have := limb_Text a1 c1 (Num.limbs m) W hu (by omega) hp
      rwa [Num.worth_limbs] at this
    have CNG := fun W => dec_noughts m h0 (by omega) W
    obtain ⟨n, hn⟩ : ∃ n, n = tz m := ⟨_, rfl⟩
    have hL0 : ((Num.limbs m).length : Int) ≠ 0 := by
      intro e
      exact h0 ((Num.digs_eq_nil Num.two_le_B9).1 (List.length_eq_zero_iff.1 (Int.ofNat_eq_zero.1 e)))
    have hL0' : (((Num.limbs m).length : Int) == 0) = false := by rw [beq_eq_false_iff_ne]; exact hL0
    obtain ⟨M, hM⟩ : ∃ M, M = Num.limbs (m / 10 ^ n) := ⟨_, rfl⟩
    have hCC := fun W a1 c1 => CC W a1 c1 n hn
    rw [← hn] at CNG hpl htz
    rw [hpl]
    rw [← hM] at hCC
    obtain ⟨T, hT⟩ : ∃ T, T = Lib.decDigits m := ⟨_, rfl⟩
    rw [← hT] at CNG CT
    obtain ⟨X, hX⟩ : ∃ X, X = Num.limbs m := ⟨_, rfl⟩
    have UX : ∀ W b a1 c1, W.ownsRow b 62 1 (.slice a1 X.length c1) X.length (u32s X) → U32 W a1 X := fun W b a1 c1 ho => by rw [hX] at ho ⊢; exact u32_limbs ho
    rw [← hX] at CN CT hCC hL0'
    have CN := hid CN
    have CT := hid CT
    have CNG := hid CNG
    have CC := hid hCC
    have UX := hid UX
    have HM := hid hM
    clear hm h htab h0 hT hX hn hpl hM hL0 hCC
    go_enter Tryz.func133, Tryz.ntmps133
    go_wp2_with fail
    refine (CN.out _ ((Below.refl _ _).alloc (Nat.le_refl _) _)).mono ?_
    rintro e1 w1 ⟨a1, c1, rfl, hb1, ho1⟩
    have HO1 := hid (owns_mono ho1 (show w.heap.size ≤ _ by simp))
    have HB1 := hid (below_alloc hb1)
    have HK1 := hid (blk_below (blk_new w _) hb1)
    have hz1 : w.heap.size + 1 ≤ w1.heap.size := by simpa using hb1.size
    clear hb1 ho1
    go_wp2_with fail
    refine (CT.out w1 a1 c1 (UX.out _ _ _ _ HO1.out) (HTAB.out.next HB1.out)).mono ?_
    rintro e2 w2 ⟨rfl, hb2⟩
    have HO2 := hid (owns_below HO1.out hb2)
    have HB2 := hid (below_trans HB1.out hb2)
    have HK2 := hid (blk_below HK1.out hb2)
    have hz2 : w.heap.size + 1 ≤ w2.heap.size := Nat.le_trans hz1 hb2.size
    clear hb2 HO1 HB1 HK1
    go_wp2_with fail
    refine (CNG.out w2).mono ?_
    rintro e3 w3 ⟨rfl, rfl⟩
    go_wp2_with fail
    refine (CC.out w2 a1 c1 (UX.out _ _ _ _ HO2.out)).mono ?_
    rintro e4 w4 ⟨a4, c4, a5, c5, rfl, hb4, ho4, ho5⟩
    have HO4 := hid (owns_mono ho4 hz2)
    have HB4 := hid (below_trans HB2.out hb4)
    have hk4 := blk_three (blk_below HK2.out hb4)
    obtain ⟨⟨k0, k1, k2⟩, f0, f1, f2⟩ := hk4
    clear hb4 ho4 ho5 HO2 HB2 HK2
    go_wp2
    refine bodyPost_ret (v := .agg #[.bool g, .slice a4 M.length c4, .int .i64 (e + n)]) (by simp [results, Tryz.results133, go_sem, k0, k1, k2]) rfl ?_
    rw [HM.out] at HO4 ⊢
    refine ⟨a4, c4, rfl, ?_, ?_⟩
    · exact ((HB4.out.setCell (Nat.le_refl _) _).setCell (Nat.le_refl _) _).setCell (Nat.le_refl _) _
    · refine owns_mono (base := w.heap.size + 1) ?_ (by omega)
      exact ownsRow_setCell_below (ownsRow_setCell_below (ownsRow_setCell_below HO4.out (Nat.lt_succ_self _) _) (Nat.lt_succ_self _) _) (Nat.lt_succ_self _) _

end Go.Proofs.YtldhebpkplglcaaGreatDoor

namespace Go.Proofs.YtldhebpkplglcaaGreatDoor
open Go.RowKit

/-- A number as an argument: its limbs may be read. -/
structure InD (w : World) (d : D) (a : Option Addr) (cap : Nat) : Prop where
  u : U32 w a (Num.limbs d.m)
theorem InD.below {w w' : World} {d : D} {a : Option Addr} {cap : Nat} (h : InD w d a cap) (hb : Below w.heap.size w w') : InD w' d a cap := ⟨h.u.below hb⟩
theorem OwnD.inD {w w' : World} {d : D} {a : Option Addr} {cap : Nat} (h : OwnD w w' d a cap) : InD w' d a cap := ⟨u32_limbs h.2⟩

theorem below_drew_alloc {w w' : World} {o : Obj} (h : Below (w.alloc o).drew.heap.size (w.alloc o).drew w') : Below w.heap.size w w' :=
  (((Below.refl _ _).alloc (Nat.le_refl _) o).drew).trans (h.mono (by simp))

theorem keep2 {w W' w1 : World} {N : Nat} {x y : Value} (h : W'.cell? ⟨N, 1, none⟩ = some x ∧ W'.cell? ⟨N, 2, none⟩ = some y ∧ Below w.heap.size w W') (hb : Below W'.heap.size W' w1) :
    w1.cell? ⟨N, 1, none⟩ = some x ∧ w1.cell? ⟨N, 2, none⟩ = some y ∧ Below w.heap.size w w1 :=
  ⟨(hb.cell (cell_lt h.1)).trans h.1, (hb.cell (cell_lt h.2.1)).trans h.2.1, below_trans h.2.2 hb⟩

set_option maxRecDepth 100000 in
set_option maxHeartbeats 400000 in
theorem dec_head (g : Bool) (a : Option Addr) (cap : Nat) (e : Int) (xs : List Nat) (w : World) (h : U32 w a xs) (hl : xs.length ≤ 10000000) (he : -3000000 ≤ e ∧ e ≤ 3000000) (hd : (Num.digs 10 (Num.worth xs)).length ≤ 1000000000) (htab : Pow w) :
    Calls Tryz.prog 145 #[.agg #[.bool g, .slice a xs.length cap, .int .i64 e]] w fun en w' => en = .returned (.int .i64 (e + (Num.digs 10 (Num.worth xs)).length - 1)) ∧ Below w.heap.size w w' := by
  have CD := fun W (hb : Below w.heap.size w W) => limb_Digits a cap xs W (h.below hb) (by omega) (htab.next hb)
  obtain ⟨n, hn⟩ : ∃ n, n = (Num.digs 10 (Num.worth xs)).length := ⟨_, rfl⟩
  rw [← hn] at CD hd ⊢
  have CD := hid CD
  clear hn h htab
  have hw1 : IntKind.i64.wrap (e + (n : Int)) = e + (n : Int) := IntWalk.i64_in _ (by omega)
  have hw2 : IntKind.i64.wrap (e + (n : Int) - 1) = e + (n : Int) - 1 := IntWalk.i64_in _ (by omega)
  go_enter Tryz.func145, Tryz.ntmps145
  go_wp2_with fail
  go_region_held3 (fun w' => w'.cell? ⟨w.heap.size, 1, none⟩ = some (.slice a xs.length cap) ∧ w'.cell? ⟨w.heap.size, 2, none⟩ = some (.int .i64 e) ∧ Below w.heap.size w w') (first | (exact ⟨by simp, by simp, ((Below.refl _ _).alloc (Nat.le_refl _) _).drew⟩) | (exact keep2 (by assumption) (by assumption))) ((go_at_call 172; refine (CD.out _ ?_).mono ?_; (simp only [*]); rintro e w' ⟨rfl, hb⟩))
  clear hw1 hw2
  go_wp2
  go_ret
  exact ⟨rfl, below_drew_alloc hb⟩

theorem digs_le_limbs (m : Nat) : (Num.digs 10 m).length ≤ 9 * (Num.limbs m).length := by
  rw [Num.digs_length_le (by decide)]
  have h1 := limbs_length_le.1 (Nat.le_refl (Num.limbs m).length)
  have h2 : Num.B9 ^ (Num.limbs m).length = 10 ^ (9 * (Num.limbs m).length) := by rw [Nat.pow_mul]; rfl
  rwa [h2] at h1

/-- Is a plain number within the limits? -/
def fitsB (d : D) : Bool := decide (d.m = 0) || (decide ((Num.digs 10 d.m).length ≤ 400) && decide (-10000 ≤ d.e + (Num.digs 10 d.m).length - 1) && decide (d.e + (Num.digs 10 d.m).length - 1 ≤ 10000))

set_option maxRecDepth 100000 in
set_option maxHeartbeats 1000000 in
theorem dec_fits (d : D) (a : Option Addr) (cap : Nat) (w : World) (h : InD w d a cap) (hl : (Num.limbs d.m).length ≤ 10000000) (he : -3000000 ≤ d.e ∧ d.e ≤ 3000000) (htab : Pow w) :
    Calls Tryz.prog 134 #[decV d a cap] w fun en w' => en = .returned (.bool (fitsB d)) ∧ Below w.heap.size w w' := by
  obtain ⟨g, m, e⟩ := d
  simp only at he hl
  unfold decV
  dsimp only
  by_cases h0 : m = 0
  · subst h0
    have hf : fitsB ⟨g, 0, e⟩ = true := by simp [fitsB]
    rw [hf]
    have hL : Num.limbs 0 = [] := rfl
    rw [hL]
    clear hf h hL
    go_enter Tryz.func134, Tryz.ntmps134
    go_wp2
    go_ret
    exact ⟨rfl, (Below.refl _ _).alloc (Nat.le_refl _) _⟩
  · have hu : U32 w a (Num.limbs m) := h.u
    have hdl9 := digs_le_limbs m
    have hdl : (Num.digs 10 m).length ≤ 1000000000 := by omega
    have CD := fun W (hb : Below w.heap.size w W) => limb_Digits a cap (Num.limbs m) W (hu.below hb) (by omega) (htab.next hb)
    have CH := fun W (hb : Below w.heap.size w W) => dec_head g a cap e (Num.limbs m) W (hu.below hb) hl he (by rw [Num.worth_limbs]; exact hdl) (htab.next hb)
    rw [Num.worth_limbs] at CD CH
    have hf : fitsB ⟨g, m, e⟩ = (decide ((Num.digs 10 m).length ≤ 400) && decide (-10000 ≤ e + (Num.digs 10 m).length - 1) && decide (e + (Num.digs 10 m).length - 1 ≤ 10000)) := by simp [fitsB, h0]
    rw [hf]
    obtain ⟨n, hn⟩ : ∃ n, n = (Num.digs 10 m).length := ⟨_, rfl⟩
    rw [← hn] at CD CH hdl ⊢
    have hL0 : (((Num.limbs m).length : Int) == 0) = false := by
      rw [beq_eq_false_iff_ne]; intro e
      exact h0 ((Num.digs_eq_nil Num.two_le_B9).1 (List.length_eq_zero_iff.1 (Int.ofNat_eq_zero.1 e)))
    obtain ⟨L, hL⟩ : ∃ L, L = (Num.limbs m).length := ⟨_, rfl⟩
    rw [← hL] at CD CH hL0 hl ⊢
    have CD := hid CD
    have CH := hid CH
    clear hf hn hL hu h htab h0
    obtain ⟨H, hH⟩ : ∃ H, H = e + (n : Int) - 1 := ⟨_, rfl⟩
    rw [← hH] at CH ⊢
    clear hH
    obtain ⟨b, hb⟩ : ∃ b : Bool, (decide (n ≤ 400) && decide (-10000 ≤ H) && decide (H ≤ 10000)) = b := ⟨_, rfl⟩
    rw [hb]
    have HBB := hid hb
    clear hb
    have d : (n ≤ 400 ∧ -10000 ≤ H) ∨ (n ≤ 400 ∧ H ≤ -10001) ∨ 401 ≤ n := by omega
    rcases d with ⟨h1, h2⟩ | ⟨h1, h2⟩ | h1
    all_goals
      go_enter Tryz.func134, Tryz.ntmps134
      go_wp2_with fail
      refine (CH.out _ ((Below.refl _ _).alloc (Nat.le_refl _) _)).mono ?_
      rintro e1 w1 ⟨rfl, hb1⟩
      have HB1 := hid (below_alloc hb1)
      have hk := blk_cell (blk_below (blk_new w _) hb1) 1
      clear hb1
      go_wp2_with fail
      refine (CD.out w1 HB1.out).mono ?_
      rintro e2 w2 ⟨rfl, hb2⟩
      have HB2 := hid (below_trans HB1.out hb2)
      clear hb2 hk HB1
      go_wp2
      go_ret
      exact ⟨ret_bool (by rw [← HBB.out]; first | (simp; omega) | (simp; done)), HB2.out⟩

end Go.Proofs.YtldhebpkplglcaaGreatDoor

namespace Go.Proofs.YtldhebpkplglcaaGreatDoor
open Go.RowKit

def zeroD : D := ⟨false, 0, 0⟩
/-- What a call takes of a number, and an error's number. -/
def takenE (g : Bool) (n m : Nat) (e : Int) : Nat := if nearB n e = true then (if fitsB (plainD g m e) = true then 0 else 3) else 1
def takenD (g : Bool) (n m : Nat) (e : Int) : D := if nearB n e = true then (if fitsB (plainD g m e) = true then plainD g m e else zeroD) else zeroD

/-- A call that yields a number and an error's number. -/
def OutDE (w : World) (d : D) (err : Nat) (e : Ending) (w' : World) : Prop := ∃ a cap, e = .returned (.tuple #[decV d a cap, .int .i64 err]) ∧ OwnD w w' d a cap

theorem digs_bound {xs : List Nat} (h : ∀ x ∈ xs, x < 4294967296) (hl : xs.length ≤ 200) : (Num.digs 10 (Num.worth xs)).length ≤ 1809 ∧ (Num.limbs (Num.worth xs)).length ≤ 201 := by
  have h1 := worth_lt h (Nat.le_refl _)
  have h2 := digs_le_limbs (Num.worth xs)
  omega
theorem nearB_iff {n : Nat} {e : Int} : nearB n e = true ↔ n ≤ 200 ∧ -30000 ≤ e ∧ e ≤ 30000 := by simp [nearB, and_assoc]
theorem plain_e (g : Bool) (m : Nat) (e : Int) (hd : (Num.digs 10 m).length ≤ 30000) (he : -30000 ≤ e ∧ e ≤ 30000) : -30000 ≤ (plainD g m e).e ∧ (plainD g m e).e ≤ 60000 := by
  unfold plainD
  split
  · simp
  · have := tz_le m; dsimp only; omega
theorem plain_m_le (g : Bool) (m : Nat) (e : Int) : (plainD g m e).m ≤ m := by
  unfold plainD
  split
  · simp
  · exact Nat.div_le_self _ _

set_option maxRecDepth 100000 in
set_option maxHeartbeats 1000000 in
theorem dec_taken (g : Bool) (a : Option Addr) (cap : Nat) (e : Int) (xs : List Nat) (w : World) (h : U32 w a xs) (htab : Pow w) :
    Calls Tryz.prog 87 #[.agg #[.bool g, .slice a xs.length cap, .int .i64 e]] w (OutDE w (takenD g xs.length (Num.worth xs) e) (takenE g xs.length (Num.worth xs) e)) := by
  have CN := fun W => dec_near g a xs.length cap e W
  by_cases hn : nearB xs.length e = true
  · obtain ⟨h1, h2, h3⟩ := nearB_iff.1 hn
    obtain ⟨hb1, hb2⟩ := digs_bound h.lt h1
    have CP := fun W (hb : Below w.heap.size w W) => dec_plain g a cap e xs W (h.below hb) (by omega) (by omega) (by omega) (htab.next hb)
    have pe := plain_e g (Num.worth xs) e (by omega) ⟨h2, h3⟩
    have pm := plain_m_le g (Num.worth xs) e
    have hD : takenD g xs.length (Num.worth xs) e = if fitsB (plainD g (Num.worth xs) e) = true then plainD g (Num.worth xs) e else zeroD := by unfold takenD; rw [if_pos hn]
    have hE : takenE g xs.length (Num.worth xs) e = if fitsB (plainD g (Num.worth xs) e) = true then 0 else 3 := by unfold takenE; rw [if_pos hn]
    have hlm : (Num.limbs (plainD g (Num.worth xs) e).m).length ≤ 201 := Nat.le_trans (Num.digs_length_mono Num.two_le_B9 pm) hb2
    rw [hD, hE]
    rw [hn] at CN
    obtain ⟨d, hd⟩ : ∃ d, d = plainD g (Num.worth xs) e := ⟨_, rfl⟩
    rw [← hd] at CP pe hlm ⊢
    have CF := fun W a1 c1 (hi : InD W d a1 c1) (hp : Pow W) => dec_fits d a1 c1 W hi (by omega) (by omega) hp
    have CP := hid CP
    have CN := hid CN
    have HTAB := hid htab
    clear hD hE hn hd pm h htab h1 hb1 hb2 h2 h3
    by_cases hf : fitsB d = true
    · rw [if_pos hf, if_pos hf]
      rw [hf] at CF
      have CF := hid CF
      clear hf
      go_enter Tryz.func87, Tryz.ntmps87
      go_wp2_with fail
      refine (CN.out _).mono ?_
      rintro e1 w1 ⟨rfl, hb1⟩
      have HB1 := hid (below_alloc (below_alloc hb1))
      have hk := blk_three (blk_below (blk_alloc (blk_new w _) _) hb1)
      have HK := hid (blk_below (blk_new2 w _ _) hb1)
      have hz1 : w.heap.size + 2 ≤ w1.heap.size := by simpa using hb1.size
      obtain ⟨⟨k0, k1, k2⟩, _⟩ := hk
      clear hb1 CN
      go_wp2_with fail
      refine (CP.out w1 HB1.out).mono ?_
      rintro e2 w2 ⟨a1, c1, he, ho⟩
      unfold decV at he
      subst he
      have HK2 := hid (blk_below HK.out ho.1)
      have HO := hid (owns_mono ho.2 hz1)
      have HB2 := hid (below_trans HB1.out ho.1)
      have HI := hid ho.inD
      have hz2 : w.heap.size + 2 ≤ w2.heap.size := Nat.le_trans hz1 ho.1.size
      clear ho k0 k1 k2 HK CP HB1 hz1
      go_wp2_with fail
      refine (CF.out _ a1 c1 (HI.out.below ((Below.refl _ _).alloc (Nat.le_refl _) _)) ((HTAB.out.next HB2.out).alloc _)).mono ?_
      rintro e3 w3 ⟨rfl, hb3⟩
      have hp := blk_three (blk_below (blk_new w2 _) hb3)
      have hk := blk_three (blk_below (blk_alloc HK2.out _) hb3)
      have HO3 := hid (owns_below HO.out (below_alloc hb3))
      have HB3 := hid (below_trans HB2.out (below_alloc hb3))
      obtain ⟨⟨p0, p1, p2⟩, _⟩ := hp
      obtain ⟨⟨k0, k1, k2⟩, f0, f1, f2⟩ := hk
      clear hb3 HI HK2 HO HB2 CF
      go_wp2
      refine bodyPost_ret (v := .tuple #[decV d a1 c1, .int .i64 0]) (by simp [results, Tryz.results87, go_sem, k0, k1, k2, decV]) rfl ?_
      refine ⟨a1, c1, rfl, ?_, ?_⟩
      · exact ((HB3.out.setCell (Nat.le_succ _) _).setCell (Nat.le_succ _) _).setCell (Nat.le_succ _) _
      · refine owns_mono (base := w.heap.size + 2) ?_ (by omega)
        exact ownsRow_setCell_below (ownsRow_setCell_below (ownsRow_setCell_below HO3.out (Nat.lt_succ_self _) _) (Nat.lt_succ_self _) _) (Nat.lt_succ_self _) _
    · rw [if_neg hf, if_neg hf]
      have hf' : fitsB d = false := by simpa using hf
      rw [hf'] at CF
      have CF := hid CF
      clear hf hf'
      go_enter Tryz.func87, Tryz.ntmps87
      go_wp2_with fail
      refine (CN.out _).mono ?_
      rintro e1 w1 ⟨rfl, hb1⟩
      have HB1 := hid (below_alloc (below_alloc hb1))
      have hk := blk_three (blk_below (blk_alloc (blk_new w _) _) hb1)
      have HK := hid (blk_below (blk_new2 w _ _) hb1)
      have hz1 : w.heap.size + 2 ≤ w1.heap.size := by simpa using hb1.size
      obtain ⟨⟨k0, k1, k2⟩, _⟩ := hk
      clear hb1 CN
      go_wp2_with fail
      refine (CP.out w1 HB1.out).mono ?_
      rintro e2 w2 ⟨a1, c1, he, ho⟩
      unfold decV at he
      subst he
      have HK2 := hid (blk_below HK.out ho.1)
      have HO := hid (owns_mono ho.2 hz1)
      have HB2 := hid (below_trans HB1.out ho.1)
      have HI := hid ho.inD
      have hz2 : w.heap.size + 2 ≤ w2.heap.size := Nat.le_trans hz1 ho.1.size
      clear ho k0 k1 k2 HK CP HB1 hz1
      go_wp2_with fail
      refine (CF.out _ a1 c1 (HI.out.below ((Below.refl _ _).alloc (Nat.le_refl _) _)) ((HTAB.out.next HB2.out).alloc _)).mono ?_
      rintro e3 w3 ⟨rfl, hb3⟩
      have hp := blk_three (blk_below (blk_new w2 _) hb3)
      have hk := blk_three (blk_below (blk_alloc HK2.out _) hb3)
      have HO3 := hid (owns_below HO.out (below_alloc hb3))
      have HB3 := hid (below_trans HB2.out (below_alloc hb3))
      obtain ⟨⟨p0, p1, p2⟩, _⟩ := hp
      obtain ⟨⟨k0, k1, k2⟩, f0, f1, f2⟩ := hk
      clear hb3 HI HK2 HO HB2 CF
      go_wp2
      refine bodyPost_ret (v := .tuple #[decV zeroD none 0, .int .i64 3]) (by simp [results, Tryz.results87, go_sem, k0, k1, k2, decV, zeroD]; rfl) rfl ?_
      refine ⟨none, 0, rfl, ?_, World.ownsRow_nil _ _ _ _⟩
      · exact ((HB3.out.setCell (Nat.le_succ _) _).setCell (Nat.le_succ _) _).setCell (Nat.le_succ _) _
  · have hn' : nearB xs.length e = false := by simpa using hn
    have hD : takenD g xs.length (Num.worth xs) e = zeroD := by unfold takenD; rw [if_neg hn]
    have hE : takenE g xs.length (Num.worth xs) e = 1 := by unfold takenE; rw [if_neg hn]
    rw [hD, hE]
    rw [hn'] at CN
    have CN := hid CN
    clear hn hn' hD hE h htab
    go_enter Tryz.func87, Tryz.ntmps87
    go_wp2_with fail
    refine (CN.out _).mono ?_
    rintro e1 w1 ⟨rfl, hb1⟩
    have HB1 := hid (below_alloc (below_alloc hb1))
    have hk := blk_three (blk_below (blk_new2 w _ _) hb1)
    obtain ⟨⟨k0, k1, k2⟩, f0, f1, f2⟩ := hk
    clear hb1 CN
    go_wp2
    refine bodyPost_ret (v := .tuple #[decV zeroD none 0, .int .i64 1]) (by simp [results, Tryz.results87, go_sem, k0, k1, k2, decV, zeroD]; rfl) rfl ?_
    refine ⟨none, 0, rfl, ?_, World.ownsRow_nil _ _ _ _⟩
    exact ((HB1.out.setCell (Nat.le_succ _) _).setCell (Nat.le_succ _) _).setCell (Nat.le_succ _) _

theorem OutDE.of_below {w w1 w' : World} {d : D} {err : Nat} {e : Ending} (h : OutDE w1 d err e w') (hb : Below w.heap.size w w1) : OutDE w d err e w' := by
  obtain ⟨a, cap, he, ho⟩ := h
  exact ⟨a, cap, he, below_trans hb ho.1, owns_mono ho.2 hb.size⟩

end Go.Proofs.YtldhebpkplglcaaGreatDoor

namespace Go.Proofs.YtldhebpkplglcaaGreatDoor
open Go.RowKit

theorem bytes_ext {s : ByteArray} {l : List UInt8} (h : s.data.toList = l) : s = ⟨l.toArray⟩ := by
  subst h; obtain ⟨⟨l⟩⟩ := s; rfl
theorem bytes_ext2 {s t : ByteArray} (h : s.data.toList = t.data.toList) : s = t := by rw [bytes_ext h, ← bytes_ext (s := t) rfl]
theorem append_data (s t : ByteArray) : (s ++ t).data.toList = s.data.toList ++ t.data.toList := by simp [ByteArray.data_append]
theorem ret_str {s : ByteArray} {l : List UInt8} (h : s.data.toList = l) : Ending.returned (.string s) = .returned (.string ⟨l.toArray⟩) := by rw [bytes_ext h]

theorem itoa_len (h : Int) (hh : -1000000 ≤ h ∧ h ≤ 1000000) : (Lib.itoa h).length ≤ 8 := by
  unfold Lib.itoa
  split
  · have := Num.decDigits_le h.natAbs 7 (by decide) (by omega)
    simp; omega
  · have := Num.decDigits_le h.toNat 7 (by decide) (by omega)
    omega
theorem point_join (Z : List UInt8) (p n : Nat) (h : Z.length = n) : ((Z.drop 0).take (p - 0) ++ [46]) ++ (Z.drop p).take (n - p) = Z.take p ++ 46 :: Z.drop p := by
  rw [List.take_of_length_le (l := Z.drop p) (by rw [List.length_drop]; omega)]; simp

/-- How digits are laid out. -/
def figL (m : List UInt8) (exp h : Int) : List UInt8 :=
  if 0 ≤ exp ∧ h ≤ 20 then m ++ List.replicate exp.toNat 48
  else if exp < 0 ∧ -7 ≤ h then
    let z := List.replicate (1 - exp - m.length).toNat 48 ++ m
    z.take (z.length + exp).toNat ++ 46 :: z.drop (z.length + exp).toNat
  else (if 1 < m.length then m.take 1 ++ 46 :: m.drop 1 else m) ++ 101 :: Lib.itoa h

set_option maxRecDepth 100000 in
set_option maxHeartbeats 1000000 in
theorem dec_figures (s : ByteArray) (exp h : Int) (w : World) (hs : 1 ≤ s.size ∧ s.size ≤ 1000000) (he : -1000000 ≤ exp ∧ exp ≤ 1000000) (hh : -1000000 ≤ h ∧ h ≤ 1000000) (htab : Pow w) :
    Calls Tryz.prog 143 #[.string s, .int .i64 exp, .int .i64 h] w fun en w' => en = .returned (.string ⟨(figL s.data.toList exp h).toArray⟩) ∧ Below w.heap.size w w' := by
  have hls : s.data.toList.length = s.size := rfl
  obtain ⟨F, hF⟩ : ∃ F, F = figL s.data.toList exp h := ⟨_, rfl⟩
  rw [← hF]
  have HF := hid hF
  have HLS := hid hls
  have HTAB := hid htab
  clear hF hls htab
  by_cases c1 : 0 ≤ exp ∧ h ≤ 20
  · obtain ⟨c1a, c1b⟩ := c1
    obtain ⟨x, rfl⟩ : ∃ x : Nat, exp = x := ⟨exp.toNat, by omega⟩
    have CR := Tryz.strings_Repeat ⟨#[48]⟩ x w (by omega) (by simp [ByteArray.size]; omega)
    obtain ⟨R, hR⟩ : ∃ R : ByteArray, R = ⟨(Lib.repeatL (ByteArray.data ⟨#[48]⟩).toList x).toArray⟩ := ⟨_, rfl⟩
    rw [← hR] at CR
    have CR := hid CR
    have HR := hid (show R.data.toList = List.replicate x 48 by rw [hR]; simp [Num.repeatL_one])
    have hRl : R.size ≤ 1000000 := by rw [hR]; simp [ByteArray.size, Num.repeatL_one]; omega
    clear hR
    go_enter Tryz.func143, Tryz.ntmps143
    go_wp2_with fail
    refine CR.out.mono ?_
    rintro e1 w1 ⟨rfl, hb1⟩
    have HB1 := hid hb1
    clear hb1 CR
    go_wp2
    go_ret
    refine ⟨ret_str ?_, HB1.out⟩
    rw [append_data, HR.out, HF.out]
    simp [figL, c1b]
  · by_cases c2 : exp < 0 ∧ -7 ≤ h
    · obtain ⟨c2a, c2b⟩ := c2
      have hF2 : F = ((List.replicate (1 - exp - s.data.toList.length).toNat 48 ++ s.data.toList).take ((List.replicate (1 - exp - s.data.toList.length).toNat 48 ++ s.data.toList).length + exp).toNat ++ 46 :: (List.replicate (1 - exp - s.data.toList.length).toNat 48 ++ s.data.toList).drop ((List.replicate (1 - exp - s.data.toList.length).toNat 48 ++ s.data.toList).length + exp).toNat) := by
        rw [HF.out]; unfold figL
        rw [if_neg (by omega), if_pos ⟨c2a, c2b⟩]
      rw [HLS.out] at hF2
      by_cases c3 : 0 < 1 - exp - (s.size : Int)
      · obtain ⟨x, hx⟩ : ∃ x : Nat, 1 - exp - (s.size : Int) = x := ⟨(1 - exp - (s.size : Int)).toNat, by omega⟩
        have CR := Tryz.strings_Repeat ⟨#[48]⟩ x w (by omega) (by simp [ByteArray.size]; omega)
        rw [← hx] at CR
        obtain ⟨R, hR⟩ : ∃ R : ByteArray, R = ⟨(Lib.repeatL (ByteArray.data ⟨#[48]⟩).toList x).toArray⟩ := ⟨_, rfl⟩
        rw [← hR] at CR
        have CR := hid CR
        have HR := hid (show R.data.toList = List.replicate x 48 by rw [hR]; simp [Num.repeatL_one])
        have hRl : R.size = x := by rw [hR]; simp [ByteArray.size, Num.repeatL_one]
        have hxb : x ≤ 2000000 := by omega
        have ha0 : 0 ≤ (x : Int) + (s.size : Int) + exp := by omega
        have ha1 : (x : Int) + (s.size : Int) + exp ≤ (x : Int) + (s.size : Int) := by omega
        have ha2 : (x : Int) + (s.size : Int) + exp ≤ 2000000 := by omega
        rw [hx] at hF2
        have HX := hid hx
        have HF2 := hid hF2
        clear hx hR hF2 HF
        go_enter Tryz.func143, Tryz.ntmps143
        go_wp2_with fail
        refine CR.out.mono ?_
        rintro e1 w1 ⟨rfl, hb1⟩
        have HB1 := hid hb1
        clear hb1 CR
        go_wp2_with fail
        go_quiet (fail)
        go_wp2
        go_ret
        refine ⟨ret_str ?_, below_drewN HB1.out nq⟩
        have hd46 : (ByteArray.mk #[46]).data.toList = [46] := rfl
        rw [append_data, append_data, Lib.extract_data, Lib.extract_data, append_data, HR.out, hd46, point_join _ _ _ (by rw [List.length_append, List.length_replicate, HLS.out]), HF2.out, Int.toNat_natCast, List.length_append, List.length_replicate, HLS.out, Int.natCast_add]
      · have hz : (1 - exp - (s.size : Int)).toNat = 0 := by omega
        rw [hz, List.replicate_zero, List.nil_append, HLS.out] at hF2
        have ha0 : 0 ≤ (s.size : Int) + exp := by omega
        have ha1 : (s.size : Int) + exp ≤ (s.size : Int) := by omega
        have c3' : 1 - exp - (s.size : Int) ≤ 0 := by omega
        have HF2 := hid hF2
        clear hF2 HF hz c3
        go_enter Tryz.func143, Tryz.ntmps143
        go_wp2_with fail
        go_quiet (fail)
        go_wp2
        go_ret
        refine ⟨ret_str ?_, below_drewN (Below.refl _ _) nq⟩
        have hd46 : (ByteArray.mk #[46]).data.toList = [46] := rfl
        rw [append_data, append_data, Lib.extract_data, Lib.extract_data, hd46, point_join _ _ _ HLS.out, HF2.out]
    · have hF2 : F = (if 1 < s.data.toList.length then s.data.toList.take 1 ++ 46 :: s.data.toList.drop 1 else s.data.toList) ++ 101 :: Lib.itoa h := by
        rw [HF.out]; unfold figL
        rw [if_neg c1, if_neg c2]
      rw [HLS.out] at hF2
      have CI := fun W (hb : Below w.heap.size w W) => Tryz.strconv_Itoa h (by omega) (by omega) W (HTAB.out.next hb)
      obtain ⟨I, hI⟩ : ∃ I : ByteArray, I = ⟨(Lib.itoa h).toArray⟩ := ⟨_, rfl⟩
      rw [← hI] at CI
      have hIl : I.size ≤ 8 := by rw [hI]; exact itoa_len h hh
      have HI := hid (show I.data.toList = Lib.itoa h by rw [hI])
      have CI := hid CI
      have HC1 := hid c1
      have HC2 := hid c2
      clear hI c1 c2 HF
      by_cases h1 : 1 < s.size
      · rw [if_pos h1] at hF2
        have HF2 := hid hF2
        clear hF2
        have d1 : (exp < 0 ∧ h ≤ -8) ∨ (0 ≤ exp ∧ 21 ≤ h) := by have := HC1.out; have := HC2.out; omega
        rcases d1 with ⟨e1, e2⟩ | ⟨e1, e2⟩
        all_goals
          go_enter Tryz.func143, Tryz.ntmps143
          go_wp2_with fail
          go_quiet (fail)
          go_wp2_with fail
          refine (CI.out _ (below_drewN (Below.refl _ _) nq)).mono ?_
          rintro e3 w3 ⟨rfl, k2, os, rfl⟩
          go_wp2
          go_ret
          refine ⟨ret_str ?_, below_grow _ _ _⟩
          have hd46 : (ByteArray.mk #[46]).data.toList = [46] := rfl
          have hd101 : (ByteArray.mk #[101]).data.toList = [101] := rfl
          rw [append_data, append_data, append_data, append_data, Lib.extract_data, Lib.extract_data, hd46, hd101, HI.out, point_join _ _ _ HLS.out, HF2.out, List.append_assoc]
          rfl
      · rw [if_neg h1] at hF2
        have HF2 := hid hF2
        clear hF2
        have h1' : s.size ≤ 1 := by omega
        clear h1
        have d1 : (exp < 0 ∧ h ≤ -8) ∨ (0 ≤ exp ∧ 21 ≤ h) := by have := HC1.out; have := HC2.out; omega
        rcases d1 with ⟨e1, e2⟩ | ⟨e1, e2⟩
        all_goals
          go_enter Tryz.func143, Tryz.ntmps143
          go_wp2_with fail
          refine (CI.out _ (Below.refl _ _)).mono ?_
          rintro e3 w3 ⟨rfl, k2, os, rfl⟩
          go_wp2
          go_ret
          refine ⟨ret_str ?_, below_grow _ _ _⟩
          have hd101 : (ByteArray.mk #[101]).data.toList = [101] := rfl
          rw [append_data, append_data, hd101, HI.out, HF2.out, List.append_assoc]
          rfl

end Go.Proofs.YtldhebpkplglcaaGreatDoor

namespace Go.Proofs.YtldhebpkplglcaaGreatDoor
open Go.RowKit

theorem keep3 {w W' w1 : World} {N : Nat} {z x y : Value} (h : W'.cell? ⟨N, 0, none⟩ = some z ∧ W'.cell? ⟨N, 1, none⟩ = some x ∧ W'.cell? ⟨N, 2, none⟩ = some y ∧ Below w.heap.size w W') (hb : Below W'.heap.size W' w1) :
    w1.cell? ⟨N, 0, none⟩ = some z ∧ w1.cell? ⟨N, 1, none⟩ = some x ∧ w1.cell? ⟨N, 2, none⟩ = some y ∧ Below w.heap.size w w1 :=
  ⟨(hb.cell (cell_lt h.1)).trans h.1, (hb.cell (cell_lt h.2.1)).trans h.2.1, (hb.cell (cell_lt h.2.2.1)).trans h.2.2.1, below_trans h.2.2.2 hb⟩

/-- A number's text. -/
def textL (d : D) : List UInt8 := if d.m = 0 then [48] else (if d.neg = true then [45] else []) ++ figL (Lib.decDigits d.m) d.e (d.e + (Num.digs 10 d.m).length - 1)

/-- A call that yields a text and an error's number. -/
def OutSE (w : World) (l : List UInt8) (err : Nat) (e : Ending) (w' : World) : Prop := e = .returned (.tuple #[.string ⟨l.toArray⟩, .int .i64 err]) ∧ Below w.heap.size w w'

theorem taken_zero {g : Bool} {n m : Nat} {e : Int} (h : takenE g n m e = 0) : nearB n e = true ∧ takenD g n m e = plainD g m e ∧ fitsB (plainD g m e) = true := by
  unfold takenE at h
  split at h
  · rename_i h1
    split at h
    · rename_i h2
      exact ⟨h1, by unfold takenD; rw [if_pos h1, if_pos h2], h2⟩
    · cases h
  · cases h
theorem takenE_cases (g : Bool) (n m : Nat) (e : Int) : takenE g n m e = 0 ∨ (takenE g n m e ≠ 0 ∧ takenD g n m e = zeroD) := by
  unfold takenE takenD
  split
  · split
    · exact .inl rfl
    · exact .inr ⟨by decide, rfl⟩
  · exact .inr ⟨by decide, rfl⟩
theorem fits_iff {d : D} (h : fitsB d = true) (h0 : d.m ≠ 0) : (Num.digs 10 d.m).length ≤ 400 ∧ -10000 ≤ d.e + (Num.digs 10 d.m).length - 1 ∧ d.e + (Num.digs 10 d.m).length - 1 ≤ 10000 := by
  simpa [fitsB, h0, and_assoc] using h

theorem figL_len (m : List UInt8) (exp h : Int) (k : Nat) (hm : m.length ≤ k) (he : -20000 ≤ exp ∧ exp ≤ 20000) (hh : -1000000 ≤ h ∧ h ≤ 1000000) : (figL m exp h).length ≤ k + 30000 := by
  unfold figL
  have := itoa_len h hh
  split
  · simp; omega
  · split
    · simp; omega
    · split <;> simp <;> omega

set_option maxRecDepth 100000 in
set_option maxHeartbeats 2000000 in
theorem dec_Text (g : Bool) (a : Option Addr) (cap : Nat) (e : Int) (xs : List Nat) (w : World) (h : U32 w a xs) (htab : Pow w) :
    Calls Tryz.prog 92 #[.agg #[.bool g, .slice a xs.length cap, .int .i64 e]] w
      (OutSE w (if takenE g xs.length (Num.worth xs) e = 0 then textL (takenD g xs.length (Num.worth xs) e) else []) (takenE g xs.length (Num.worth xs) e)) := by
  have C := fun W (hb : Below w.heap.size w W) => dec_taken g a cap e xs W (h.below hb) (htab.next hb)
  rcases takenE_cases g xs.length (Num.worth xs) e with h0 | ⟨h0, hz⟩
  · obtain ⟨hn, hd, hf⟩ := taken_zero h0
    rw [if_pos h0, h0]
    rw [h0] at C
    obtain ⟨h1, h2, h3⟩ := nearB_iff.1 hn
    obtain ⟨hb1, hb2⟩ := digs_bound h.lt h1
    have pm := plain_m_le g (Num.worth xs) e
    have hlm : (Num.limbs (plainD g (Num.worth xs) e).m).length ≤ 201 := Nat.le_trans (Num.digs_length_mono Num.two_le_B9 pm) hb2
    have pe := plain_e g (Num.worth xs) e (by omega) ⟨h2, h3⟩
    rw [← hd] at hlm hf pe
    obtain ⟨d, hdd⟩ : ∃ d, d = takenD g xs.length (Num.worth xs) e := ⟨_, rfl⟩
    rw [← hdd] at C hlm hf pe ⊢
    have HTAB := hid htab
    have C := hid C
    clear h htab h0 hn hd h1 h2 h3 hb1 hb2 pm hdd
    by_cases hm : d.m = 0
    · have ht : textL d = [48] := by unfold textL; rw [if_pos hm]
      rw [ht]
      have hL : Num.limbs d.m = [] := by rw [hm]; rfl
      have HL := hid hL
      clear ht hm hL
      go_enter Tryz.func92, Tryz.ntmps92
      go_wp2_with fail
      refine (C.out _ ((Below.refl _ _).alloc (Nat.le_refl _) _)).mono ?_
      rintro e1 w1 ⟨a1, c1, he, ho⟩
      unfold decV at he
      rw [HL.out] at he
      subst he
      have HB := hid (below_alloc ho.1)
      clear ho C
      go_wp2
      go_ret2
      exact ⟨rfl, HB.out.alloc (HB.out.size) _⟩
    · have ff := fits_iff hf hm
      have hn1 : 1 ≤ (Num.digs 10 d.m).length := Num.length_pos (by decide) hm
      obtain ⟨F, hF⟩ : ∃ F, F = figL (Lib.decDigits d.m) d.e (d.e + (Num.digs 10 d.m).length - 1) := ⟨_, rfl⟩
      obtain ⟨Z, hZ⟩ : ∃ Z, Z = textL d := ⟨_, rfl⟩
      have ht : Z = (if d.neg = true then [45] else []) ++ F := by rw [hZ]; unfold textL; rw [if_neg hm, hF]
      rw [← hZ]
      have HZ := hid ht
      have CT := fun W a1 c1 (hi : InD W d a1 c1) (hp : Pow W) => limb_Text a1 c1 (Num.limbs d.m) W hi.u (by omega) hp
      have CH := fun W a1 c1 (hi : InD W d a1 c1) (hp : Pow W) => dec_head d.neg a1 c1 d.e (Num.limbs d.m) W hi.u (by omega) (by omega) (by rw [Num.worth_limbs]; omega) hp
      have CG := fun W (hp : Pow W) => dec_figures ⟨(Lib.decDigits d.m).toArray⟩ d.e (d.e + (Num.digs 10 d.m).length - 1) W (by
        have := Num.decDigits_len d.m hm
        simp [ByteArray.size]; omega) (by omega) (by omega) hp
      simp only [Num.worth_limbs] at CT CH
      have hdl := Num.decDigits_len d.m hm
      have hFl : F.length ≤ 400 + 30000 := by rw [hF]; exact figL_len _ _ _ 400 (by omega) (by omega) (by omega)
      obtain ⟨H, hH⟩ : ∃ H, H = d.e + (Num.digs 10 d.m).length - 1 := ⟨_, rfl⟩
      obtain ⟨T, hT⟩ : ∃ T : ByteArray, T = ⟨(Lib.decDigits d.m).toArray⟩ := ⟨_, rfl⟩
      have hTd : T.data.toList = Lib.decDigits d.m := by rw [hT]
      simp only [← hT, ← hH] at CT CH CG hF
      simp only [← hF] at CG
      have hL0 : (((Num.limbs d.m).length : Int) == 0) = false := by
        rw [beq_eq_false_iff_ne]; intro e
        exact hm ((Num.digs_eq_nil Num.two_le_B9).1 (List.length_eq_zero_iff.1 (Int.ofNat_eq_zero.1 e)))
      obtain ⟨L, hL⟩ : ∃ L, L = Num.limbs d.m := ⟨_, rfl⟩
      have HIN := hid (fun W a1 c1 (hi : InD W d a1 c1) => hi.below (w' := W))
      obtain ⟨gn, hgn⟩ : ∃ gn, gn = d.neg := ⟨_, rfl⟩
      rw [← hL] at CT CH hL0
      simp only [← hgn] at CH
      have HZ := hid (show Z = (if gn = true then [45] else []) ++ F by rw [hgn]; exact ht)
      have HG := hid hgn
      have CT := hid CT
      have CH := hid CH
      have CG := hid CG
      have HLL := hid hL
      clear ff hn1 hF ht hZ hdl hH hT hTd hL hm hf hgn
      cases gn
      all_goals
        go_enter Tryz.func92, Tryz.ntmps92
        go_wp2_with fail
        refine (C.out _ ((Below.refl _ _).alloc (Nat.le_refl _) _)).mono ?_
        rintro e1 w1 ⟨a1, c1, he, ho⟩
        have HI := hid ho.inD
        unfold decV at he
        rw [← HLL.out, ← HG.out] at he
        subst he
        have HB := hid (below_alloc ho.1)
        have hp1 := HTAB.out.next HB.out
        have HP := hid hp1
        clear ho hp1
        go_wp2_with fail
      · go_region_held3 (fun w' => w'.cell? ⟨w1.heap.size, 0, none⟩ = some (.bool false) ∧ w'.cell? ⟨w1.heap.size, 1, none⟩ = some (.slice a1 L.length c1) ∧ w'.cell? ⟨w1.heap.size, 2, none⟩ = some (.int .i64 d.e) ∧ Below w1.heap.size w1 w') (first | (exact ⟨by simp, by simp, by simp, ((Below.refl _ _).alloc (Nat.le_refl _) _).drew⟩) | (exact keep3 (by assumption) (by assumption))) ((first | (go_at_call 144; refine (CT.out _ a1 c1 (HI.out.below ?_) (HP.out.next ?_)).mono ?_; (simp only [*]); (simp only [*]); rintro e w' ⟨rfl, hb⟩) | (go_at_call 145; refine (CH.out _ a1 c1 (HI.out.below ?_) (HP.out.next ?_)).mono ?_; (simp only [*]); (simp only [*]); rintro e w' ⟨rfl, hb⟩) | (go_at_call 143; refine (CG.out _ (HP.out.next ?_)).mono ?_; (simp only [*]); rintro e w' ⟨rfl, hb⟩)))
        have hH : w'.cell? ⟨w1.heap.size, 0, none⟩ = some (.bool false) ∧ w'.cell? ⟨w1.heap.size, 1, none⟩ = some (.slice a1 L.length c1) ∧ w'.cell? ⟨w1.heap.size, 2, none⟩ = some (.int .i64 d.e) ∧ Below w1.heap.size w1 w' := by assumption
        have k0 := hH.1
        have HBB := hid (below_trans HB.out hH.2.2.2)
        have HZ' := hid (show Z = F by simpa using HZ.out)
        clear hH
        go_wp2
        go_ret2
        exact ⟨by rw [HZ'.out]; rfl, HBB.out⟩
      · go_region_held3 (fun w' => w'.cell? ⟨w1.heap.size, 0, none⟩ = some (.bool true) ∧ w'.cell? ⟨w1.heap.size, 1, none⟩ = some (.slice a1 L.length c1) ∧ w'.cell? ⟨w1.heap.size, 2, none⟩ = some (.int .i64 d.e) ∧ Below w1.heap.size w1 w') (first | (exact ⟨by simp, by simp, by simp, ((Below.refl _ _).alloc (Nat.le_refl _) _).drew⟩) | (exact keep3 (by assumption) (by assumption))) ((first | (go_at_call 144; refine (CT.out _ a1 c1 (HI.out.below ?_) (HP.out.next ?_)).mono ?_; (simp only [*]); (simp only [*]); rintro e w' ⟨rfl, hb⟩) | (go_at_call 145; refine (CH.out _ a1 c1 (HI.out.below ?_) (HP.out.next ?_)).mono ?_; (simp only [*]); (simp only [*]); rintro e w' ⟨rfl, hb⟩) | (go_at_call 143; refine (CG.out _ (HP.out.next ?_)).mono ?_; (simp only [*]); rintro e w' ⟨rfl, hb⟩)))
        have hH : w'.cell? ⟨w1.heap.size, 0, none⟩ = some (.bool true) ∧ w'.cell? ⟨w1.heap.size, 1, none⟩ = some (.slice a1 L.length c1) ∧ w'.cell? ⟨w1.heap.size, 2, none⟩ = some (.int .i64 d.e) ∧ Below w1.heap.size w1 w' := by assumption
        have k0 := hH.1
        have HBB := hid (below_trans HB.out hH.2.2.2)
        have HZ' := hid (show Z = 45 :: F by simpa using HZ.out)
        clear hH
        obtain ⟨S, hS⟩ : ∃ S : ByteArray, S = ⟨F.toArray⟩ := ⟨_, rfl⟩
        have hSl : S.size ≤ 400 + 30000 := by rw [hS]; simpa [ByteArray.size] using hFl
        have HS := hid (show S.data.toList = F by rw [hS])
        rw [← hS]
        clear hS
        go_wp2
        go_ret2
        refine ⟨?_, HBB.out⟩
        have e1 : (ByteArray.mk #[45] ++ S) = ⟨Z.toArray⟩ := bytes_ext (by rw [append_data, HS.out, HZ'.out]; rfl)
        rw [← e1]
        rfl
  · rw [if_neg h0]
    rw [hz] at C
    obtain ⟨er, her⟩ : ∃ er, er = takenE g xs.length (Num.worth xs) e := ⟨_, rfl⟩
    rw [← her] at C h0 ⊢
    have h0' : ((er : Int) != 0) = true := by simpa using h0
    have C := hid C
    clear h htab h0 hz her
    go_enter Tryz.func92, Tryz.ntmps92
    go_wp2_with fail
    refine (C.out _ ((Below.refl _ _).alloc (Nat.le_refl _) _)).mono ?_
    rintro e1 w1 ⟨a1, c1, he, ho⟩
    unfold decV at he
    subst he
    have HB := hid (below_alloc ho.1)
    clear ho C
    go_wp2
    go_ret2
    exact ⟨rfl, HB.out.alloc (HB.out.size) _⟩

end Go.Proofs.YtldhebpkplglcaaGreatDoor

namespace Go.Proofs.YtldhebpkplglcaaGreatDoor
open Go.RowKit

theorem OutD.of_below {w w1 w' : World} {d : D} {e : Ending} (h : OutD w1 d e w') (hb : Below w.heap.size w w1) : OutD w d e w' := by
  obtain ⟨a, cap, he, ho⟩ := h
  exact ⟨a, cap, he, below_trans hb ho.1, owns_mono ho.2 hb.size⟩

theorem of_digs (k : Nat) (hk : k ≤ 9223372036854775808) : (Num.digs 10 k).length ≤ 19 := (Num.digs_length_le (by decide)).2 (by omega)
theorem of_limbs (k : Nat) (hk : k ≤ 9223372036854775808) : (Num.limbs k).length ≤ 3 := limbs_length_le.2 (by rw [Num.B9_eq]; omega)

/-- May a number be? -/
def mayB (g : Bool) (xs : List Nat) (e : Int) : Bool := decide (takenE g xs.length (Num.worth xs) e = 0 ∧ (takenD g xs.length (Num.worth xs) e).neg = g ∧ (takenD g xs.length (Num.worth xs) e).e = e ∧ Num.limbs (takenD g xs.length (Num.worth xs) e).m = xs)

end Go.Proofs.YtldhebpkplglcaaGreatDoor
