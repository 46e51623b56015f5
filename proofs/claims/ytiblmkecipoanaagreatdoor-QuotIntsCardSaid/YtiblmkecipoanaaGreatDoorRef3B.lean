/- The document's answer of chapter 03, second part: 34 digits of a quotient. -/
import Derived.Test.YtiblmkecipoanaaGreatDoorRef3A
import Derived.Test.YtiblmkecipoanaaGreatDoorRefKb
import Derived.Test.YtiblmkecipoanaaGreatDoorMh
import Derived.Deep.CutBlock
namespace Go.Proofs.YtiblmkecipoanaaGreatDoor
open Go.RowKit

/-- What holds at the head of a round in which a digit is found: q and rest. -/
def QuoS (X B i q r : Nat) : Prop := q * 10 * B + r = X * 10 ^ i ∧ r < 10 * B
theorem QuoS.start {X B : Nat} (h : X < 10 * B) : QuoS X B 0 0 X := ⟨by simp, h⟩
theorem QuoS.digit {X B i q r : Nat} (h : QuoS X B i q r) : (q * 10 + r / B) * B + r % B = X * 10 ^ i := by
  have h1 := Nat.div_add_mod r B
  rw [Nat.add_mul, Nat.mul_comm (r / B) B]
  have := h.1
  omega
theorem QuoS.step {X B i q r : Nat} (h : QuoS X B i q r) (hB : 0 < B) : QuoS X B (i + 1) (q * 10 + r / B) (r % B * 10) := by
  have h1 := h.digit
  refine ⟨?_, by have := Nat.mod_lt r hB; omega⟩
  have e : X * 10 ^ i * 10 = ((q * 10 + r / B) * B + r % B) * 10 := by rw [h1]
  rw [Nat.pow_succ, ← Nat.mul_assoc, e, Nat.mul_right_comm]
  exact (Nat.add_mul _ _ _).symm
theorem QuoS.low {X B i q r : Nat} (h : QuoS X B i q r) (hB : 0 < B) : q * 10 + r / B = X * 10 ^ i / B ∧ r % B = X * 10 ^ i % B := by
  have h1 := h.digit
  have h2 := Nat.mod_lt r hB
  have e : X * 10 ^ i = B * (q * 10 + r / B) + r % B := by rw [Nat.mul_comm B]; exact h1.symm
  refine ⟨?_, ?_⟩
  · rw [e, Nat.mul_add_div hB, Nat.div_eq_of_lt h2, Nat.add_zero]
  · rw [e, Nat.mul_add_mod, Nat.mod_eq_of_lt h2]
theorem shifted {X k : Nat} (_hX : X ≠ 0) : X * 10 ^ (k + 1) = X * 10 ^ k * 10 := by rw [Nat.pow_succ, Nat.mul_assoc]
theorem shift1 (X k : Nat) : X * 10 ^ k * 10 ^ 1 = X * 10 ^ (k + 1) := by rw [Nat.mul_assoc, ← Nat.pow_add]
theorem grows {X k : Nat} (hX : X ≠ 0) : X * 10 ^ k < X * 10 ^ (k + 1) := by
  have := Nat.mul_pos (Nat.pos_of_ne_zero hX) (pow_pos10 k)
  rw [shifted hX]
  omega
theorem len_shift {X k : Nat} (hX : X ≠ 0) : (Num.digs 10 (X * 10 ^ k)).length = (Num.digs 10 X).length + k := Num.digs_length_mul_pow (by decide) hX k
/-- The document's way is another way to the same 34 digits. -/
theorem quo_in34 {X Y k j : Nat} (h1 : Y * 10 ^ j ≤ X * 10 ^ k) (h2 : X * 10 ^ k < 10 * (Y * 10 ^ j)) : In34 X Y (k + 33) j := by
  unfold In34
  have e : X * 10 ^ (k + 33) = X * 10 ^ k * 10 ^ 33 := by rw [Nat.pow_add, Nat.mul_assoc]
  rw [e]
  have hC := pow_pos10 33
  generalize 10 ^ 33 = C at *
  generalize Y * 10 ^ j = B at *
  generalize X * 10 ^ k = A at *
  refine ⟨?_, ?_⟩
  · rw [Nat.mul_comm]; exact Nat.mul_le_mul_right _ h1
  · calc A * C < 10 * B * C := Nat.mul_lt_mul_of_pos_right h2 hC
      _ = 10 * C * B := by ac_rfl

/-- What holds at the head of a round of the last loop. -/
def Quo34 (A B : Nat) (F : Int) (i q r : Nat) (el : Int) : Prop := (i ≤ 33 ∧ QuoS A B i q r ∧ el = F - i) ∨ (i = 34 ∧ q = A * 10 ^ 33 / B ∧ r = A * 10 ^ 33 % B ∧ el = F - 33)
theorem Quo34.start {A B : Nat} {F : Int} (h : A < 10 * B) : Quo34 A B F 0 0 A F := Or.inl ⟨by omega, QuoS.start h, by omega⟩
theorem Quo34.el {A B i q r : Nat} {F el : Int} (h : Quo34 A B F i q r el) : F - 33 ≤ el ∧ el ≤ F := by
  rcases h with ⟨h1, _, h2⟩ | ⟨_, _, _, h2⟩ <;> omega
theorem Quo34.lt {A B i q r : Nat} {F el : Int} (h : Quo34 A B F i q r el) (hB : 0 < B) : r < 10 * B := by
  rcases h with ⟨_, h1, _⟩ | ⟨_, _, h1, _⟩
  · exact h1.2
  · have := Nat.mod_lt (A * 10 ^ 33) hB
    omega
theorem Quo34.q_le {A B i q r : Nat} {F el : Int} (h : Quo34 A B F i q r el) (hB : 0 < B) : q ≤ A * 10 ^ 34 := by
  have k33 : A * 10 ^ 33 ≤ A * 10 ^ 34 := Nat.mul_le_mul_left _ (Nat.pow_le_pow_right (by decide) (by decide))
  rcases h with ⟨h0, h1, _⟩ | ⟨_, h1, _, _⟩
  · have h2 : q ≤ q * 10 * B := by
      rw [Nat.mul_assoc]
      exact Nat.le_mul_of_pos_right _ (by omega)
    have h3 := h1.1
    have h4 : A * 10 ^ i ≤ A * 10 ^ 33 := Nat.mul_le_mul_left _ (Nat.pow_le_pow_right (by decide) h0)
    omega
  · rw [h1]
    exact Nat.le_trans (Nat.div_le_self _ _) k33
theorem Quo34.step {A B i q r : Nat} {F el : Int} (h : Quo34 A B F i q r el) (hB : 0 < B) (hi : i < 34) :
    (i < 33 → Quo34 A B F (i + 1) (q * 10 + r / B) (r % B * 10) (el - 1)) ∧ (i = 33 → Quo34 A B F (i + 1) (q * 10 + r / B) (r % B) el) := by
  rcases h with ⟨h0, h1, h2⟩ | ⟨h0, _⟩
  · refine ⟨fun h3 => Or.inl ⟨by omega, h1.step hB, by omega⟩, fun h3 => Or.inr ⟨by omega, ?_, ?_, by omega⟩⟩
    · subst h3; exact (h1.low hB).1
    · subst h3; exact (h1.low hB).2
  · omega
theorem Quo34.fin {A B i q r : Nat} {F el : Int} (h : Quo34 A B F i q r el) (hi : ¬ i < 34) : i = 34 ∧ q = A * 10 ^ 33 / B ∧ r = A * 10 ^ 33 % B ∧ el = F - 33 := by
  rcases h with ⟨h0, _⟩ | h
  · omega
  · exact h

/-- What stays of the blocks of 'Quotient'. -/
structure Quo3 (w w' : World) (x y : D) : Prop where
  c0 : w'.cell? ⟨w.heap.size, 0, none⟩ = some (.bool x.neg)
  c1 : w'.cell? ⟨w.heap.size + 1, 0, none⟩ = some (.bool y.neg)
  rc : Rec w' (w.heap.size + 1 + 1)
  bel : Below w.heap.size w w'
theorem Quo3.below {w w' w'' : World} {x y : D} (h : Quo3 w w' x y) (hb : Below w'.heap.size w' w'') : Quo3 w w'' x y :=
  ⟨((bcell hb).1 _ _ (cell_lt h.c0)).trans h.c0, ((bcell hb).1 _ _ (cell_lt h.c1)).trans h.c1, h.rc.below hb, below_trans h.bel hb⟩
theorem Quo3.new {w : World} {x y : D} {a1 a2 : Option Addr} {c1 c2 : Nat} {T1 T2 T3 : TypeId} {g : Bool} {s : Option Addr} {n c : Nat} {e : Int} :
    Quo3 w (((w.alloc (.cells #[.bool x.neg, .slice a1 (Num.digs 10 x.m).length c1, .int .i64 x.e] T1)).alloc (.cells #[.bool y.neg, .slice a2 (Num.digs 10 y.m).length c2, .int .i64 y.e] T2)).alloc (.cells #[.bool g, .slice s n c, .int .i64 e] T3)) x y := by
  refine ⟨?_, ?_, ?_, (((Below.refl _ _).alloc (Nat.le_refl _) _).alloc (by simp) _).alloc (by simp; omega) _⟩
  · exact blk_cell (blk_alloc (blk_alloc (blk_new w _) _) _) 0
  · exact blk_cell (blk_alloc (blk_new2 w _ _) _) 0
  · refine ⟨g, s, n, c, e, T3, ?_⟩
    · have := blk_new2 (w.alloc (.cells #[.bool x.neg, .slice a1 (Num.digs 10 x.m).length c1, .int .i64 x.e] T1)) (.cells #[.bool y.neg, .slice a2 (Num.digs 10 y.m).length c2, .int .i64 y.e] T2) (.cells #[.bool g, .slice s n c, .int .i64 e] T3)
      simpa using this
theorem digs_one : Num.digs 10 1 = [1] := rfl
theorem ref3_one (w : World) : Calls Tryz.prog 89 #[] w (OutR8 w (Num.digs 10 1)) := by
  go_enter Tryz.func89, Tryz.ntmps89
  go_wp2
  go_ret
  refine ⟨some ⟨w.heap.size, 0, none⟩, 1, rfl, (Below.refl _ _).alloc (Nat.le_refl _) _, ⟨?_, digs_ten_lt 1⟩, Nat.le_refl _, by decide, fun h => by cases h⟩
  intro j v hv
  cases j with
  | zero =>
    simp [u8s, digs_one] at hv
    subst hv
    exact ⟨w.heap.size, 0, rfl, blk_cell (blk_new w _) 0⟩
  | succ j => simp [u8s, digs_one] at hv

set_option maxRecDepth 100000 in
set_option maxHeartbeats 6400000 in
theorem ref3_Quotient (x y : D) (a1 : Option Addr) (d1 : Nat) (a2 : Option Addr) (d2 : Nat) (w : World) (h1 : RdD w x a1 d1) (h2 : RdD w y a2 d2) (hx : x.m ≠ 0) (hy : y.m ≠ 0)
    (bx : (Num.digs 10 x.m).length ≤ 400 ∧ -10400 ≤ x.e ∧ x.e ≤ 10001) (bY : (Num.digs 10 y.m).length ≤ 400 ∧ -10400 ≤ y.e ∧ y.e ≤ 10001) :
    Calls Tryz.prog 44 #[refV x a1 d1, refV y a2 d2] w (OutRD w (quotR x y)) := by
  obtain ⟨d, hd⟩ : ∃ d, d = quotR x y := ⟨_, rfl⟩
  have HBY := hid (fun (k j : Nat) (hi : In34 x.m y.m k j) => quot_by hx hy hi)
  rw [← hd] at HBY ⊢
  obtain ⟨X, hX⟩ : ∃ X, X = x.m := ⟨_, rfl⟩
  obtain ⟨Y, hY⟩ : ∃ Y, Y = y.m := ⟨_, rfl⟩
  have R1 : RdN w X a1 d1 := by rw [hX]; exact h1
  have R2 : RdN w Y a2 d2 := by rw [hY]; exact h2
  obtain ⟨E, hE⟩ : ∃ E, E = x.e - y.e := ⟨_, rfl⟩
  have hE1 : -20500 ≤ E ∧ E ≤ 20500 := by omega
  have Q0 := fun (T1 T2 T3 : TypeId) => (Quo3.new (w := w) (x := x) (y := y) (a1 := a1) (a2 := a2) (c1 := d1) (c2 := d2) (T1 := T1) (T2 := T2) (T3 := T3) (g := false) (s := none) (n := 0) (c := 0) (e := 0))
  have wE : IntKind.i64.wrap (x.e - y.e) = E := by rw [hE, IntKind.wrap_i64]; omega
  rw [← hX] at hx bx HBY Q0
  rw [← hY] at hy bY HBY Q0
  unfold refV
  rw [← hX, ← hY]
  have lenX : ∀ k, (Num.digs 10 (X * 10 ^ k)).length = (Num.digs 10 X).length + k := fun k => len_shift hx
  have lenY : ∀ k, (Num.digs 10 (Y * 10 ^ k)).length = (Num.digs 10 Y).length + k := fun k => len_shift hy
  have hlx := bx.1
  have hly := bY.1
  have hxe := bx.2
  have hye := bY.2
  obtain ⟨Lx, hLx⟩ : ∃ L, L = (Num.digs 10 X).length := ⟨_, rfl⟩
  obtain ⟨Ly, hLy⟩ : ∃ L, L = (Num.digs 10 Y).length := ⟨_, rfl⟩
  have hlx0 := hlx
  have hly0 := hly
  rw [← hLx] at hlx
  rw [← hLy] at hly
  have lenX' := fun k => (lenX k).trans (congrArg (· + k) hLx.symm)
  have lenY' := fun k => (lenY k).trans (congrArg (· + k) hLy.symm)
  replace lenX' := hid lenX'
  replace lenY' := hid lenY'
  have HX := hid hx
  have HYY := hid hy
  replace Q0 := hid Q0
  replace R1 := hid R1
  replace R2 := hid R2
  have WE := hid wE
  have HEE := hid hE
  replace hLy := hid hLy
  clear lenX lenY bx bY h1 h2 hd hX hY wE hE hLx
  go_enter Tryz.func44, Tryz.ntmps44
  go_wp2
  go_loopw [5, 6] (fun ev v wr => ∃ (k : Nat) (ar : Option Addr) (cr : Nat), ev = .int .i64 (E - k) ∧ v = .slice ar (Num.digs 10 (X * 10 ^ k)).length cr ∧ (X * 10 ^ k < 10 * Y ∨ k = 0) ∧ k ≤ 401 ∧ RdN wr (X * 10 ^ k) ar cr ∧ Quo3 w wr x y) (fun ev _ _ => (intOf ev + 100000).toNat)
  case atStart =>
    have HQ := Q0.out 57 57 57
    refine ⟨0, a1, d1, by rw [HEE.out]; go_num, by rw [Nat.pow_zero, Nat.mul_one], Or.inr rfl, by omega, ?_, HQ⟩
    rw [Nat.pow_zero, Nat.mul_one]
    exact R1.out.below HQ.bel
  case round =>
    clear Q0 R1
    obtain ⟨k, ar, cr, rfl, rfl, hbd, hk4, hr, hq⟩ := hrel
    obtain ⟨z, hz⟩ : ∃ z, z = cmpN (X * 10 ^ k) Y := ⟨_, rfl⟩
    have hlk := lenX'.out k
    have CC1 := ref1_Cmp ar a2 cr d2 (X * 10 ^ k) Y wr hr.1 (R2.out.below hq.bel).1 (by omega) (by omega)
    rw [← hz] at CC1
    have CC1 := hid CC1
    have HR := hid hr
    have HQ := hid hq
    have HBD := hid hbd
    replace hlk := hid hlk
    replace hz := hid hz
    clear hr hq hbd
    go_wp2_with fail
    refine CC1.out.mono ?_
    rintro e1 w1 ⟨rfl, q, rfl⟩
    have HR1 := hid (HR.out.below (below_drewN (Below.refl _ _) q))
    have HQ1 := hid (HQ.out.below (below_drewN (Below.refl _ _) q))
    clear CC1 HR HQ
    by_cases hlt : X * 10 ^ k < Y
    · have hz0 : z < 0 := by rw [hz.out]; unfold cmpN; rw [if_pos hlt]; omega
      replace hlk := hlk.out
      have hk1 : k ≤ 400 := by
        have := Num.digs_length_mono (b := 10) (by decide) (Nat.le_of_lt hlt)
        omega
      have CS := ref1_Shift ar cr (X * 10 ^ k) 1 (wr.drewN q) HR1.out.1 HR1.out.2.2.2 (by omega) (by omega)
      rw [shift1] at CS
      have CS := hid CS
      have HLT := hid hlt
      clear hlt hz hlk
      go_wp2_with fail
      refine CS.out.mono ?_
      rintro e2 w2 ho
      obtain ⟨a5, c5, rfl, hb5, hr5⟩ := ho.rd
      have H5 := hid hr5
      have Q5 := hid (HQ1.out.below hb5)
      clear ho hb5 hr5 CS HR1 HQ1
      go_wp2
      go_roundw
      case rel => exact ⟨k + 1, a5, c5, by go_num, rfl, Or.inl (by rw [shifted HX.out]; have := HLT.out; omega), by omega, H5.out, Q5.out⟩
      case measure => simp [intOf]; omega
    · have hz0 : ¬ z < 0 := by rw [hz.out]; unfold cmpN; rw [if_neg hlt]; split <;> omega
      have HGE := hid (show Y ≤ X * 10 ^ k by omega)
      have HLK := hlk
      clear hlt hz hlk
      go_wp2
      go_loopw [5, 7] (fun ev v wr => ∃ (j : Nat) (ab : Option Addr) (cb : Nat), ev = .int .i64 (E - k + j) ∧ v = .slice ab (Num.digs 10 (Y * 10 ^ j)).length cb ∧ Y * 10 ^ j ≤ X * 10 ^ k ∧ j ≤ 801 ∧ RdN wr (Y * 10 ^ j) ab cb ∧ RdN wr (X * 10 ^ k) ar cr ∧ Quo3 w wr x y) (fun ev _ _ => (100000 - intOf ev).toNat)
      case atStart =>
        refine ⟨0, a2, d2, by go_num, by rw [Nat.pow_zero, Nat.mul_one], by rw [Nat.pow_zero, Nat.mul_one]; exact HGE.out, by omega, ?_, HR1.out, HQ1.out⟩
        rw [Nat.pow_zero, Nat.mul_one]
        exact R2.out.below HQ1.out.bel
      case round =>
        clear HR1 HQ1
        obtain ⟨j, ab, cb, rfl, rfl, hjle, hj8, hrb, hra, hq⟩ := hrel
        have hlj := lenY'.out j
        have hlj1 := lenY'.out (j + 1)
        have CS := fun W (hb : Below wr.heap.size wr W) => ref1_Shift ab cb (Y * 10 ^ j) 1 W (hrb.below hb).1 hrb.2.2.2 (by omega) (by omega)
        rw [shift1] at CS
        obtain ⟨z, hz⟩ : ∃ z, z = cmpN (X * 10 ^ k) (Y * 10 ^ (j + 1)) := ⟨_, rfl⟩
        have hlk := HLK.out
        have CC := fun W (b5 : Option Addr) (c5 : Nat) (hb : Below wr.heap.size wr W) (h5 : RdN W (Y * 10 ^ (j + 1)) b5 c5) => ref1_Cmp ar b5 cr c5 (X * 10 ^ k) (Y * 10 ^ (j + 1)) W (hra.below hb).1 h5.1 (by omega) (by omega)
        rw [← hz] at CC
        have CS := hid CS
        have CC := hid CC
        have HRB := hid hrb
        have HRA := hid hra
        have HQ := hid hq
        have HJ := hid hjle
        replace hz := hid hz
        clear hrb hra hq hjle hlk hlj hlj1
        go_wp2_with fail
        refine (CS.out _ (Below.refl _ _)).mono ?_
        rintro e5 w5 ho
        obtain ⟨a5, c5, rfl, hb5, hr5⟩ := ho.rd
        have H5 := hid hr5
        have B5 := hid hb5
        clear ho hb5 hr5
        go_wp2_with fail
        refine (CC.out _ _ _ B5.out H5.out).mono ?_
        rintro e6 w6 ⟨rfl, q2, rfl⟩
        have B6 := hid (below_drewN B5.out q2)
        have H6 := hid (H5.out.below (below_drewN (Below.refl _ _) q2))
        clear B5 H5 CC
        by_cases hge : Y * 10 ^ (j + 1) ≤ X * 10 ^ k
        · have hz1 : (0 : Int) ≤ z := by rw [hz.out]; unfold cmpN; rw [if_neg (by omega)]; split <;> omega
          have hj1 : j ≤ 800 := by
            have h1 := Num.digs_length_mono (b := 10) (by decide) hge
            have h2 := lenY'.out (j + 1)
            have h3 := HLK.out
            omega
          have HGE2 := hid hge
          clear hge hz
          go_wp2_with fail
          refine (CS.out _ B6.out).mono ?_
          rintro e7 w7 ho
          obtain ⟨a7, c7, rfl, hb7, hr7⟩ := ho.rd
          have H7 := hid hr7
          have B7 := hid (below_trans B6.out hb7)
          clear ho hb7 hr7 H6 B6 CS
          go_wp2
          go_roundw
          case rel => exact ⟨j + 1, a7, c7, by go_num, rfl, HGE2.out, by omega, H7.out, HRA.out.below B7.out, HQ.out.below B7.out⟩
          case measure => simp [intOf]; omega
        · have hz1 : ¬ (0 : Int) ≤ z := by rw [hz.out]; unfold cmpN; rw [if_pos (by omega)]; omega
          have h34 : In34 X Y (k + 33) j := quo_in34 HJ.out (by have := shifted (X := Y) (k := j) HYY.out; omega)
          have hdd := HBY.out _ _ h34
          have hF : x.e - y.e - ((k + 33 : Nat) : Int) + (j : Nat) = (E - k + j) - 33 := by rw [HEE.out]; omega
          rw [hF, Nat.pow_add, ← Nat.mul_assoc] at hdd
          have hlj := lenY'.out j
          have hlk := HLK.out
          have hA10 : X * 10 ^ k < 10 * (Y * 10 ^ j) := by have := shifted (X := Y) (k := j) HYY.out; omega
          have hB0 : 0 < Y * 10 ^ j := Nat.mul_pos (Nat.pos_of_ne_zero HYY.out) (pow_pos10 j)
          have hAle := HJ.out
          have SB := hid (HRB.out.below B6.out)
          have SA := hid (HRA.out.below B6.out)
          have SQ := hid (HQ.out.below B6.out)
          clear hge hz hF h34 CS H6 B6 HRB HRA HQ HJ HGE HLK HBY HBD R2
          obtain ⟨A, hAe⟩ : ∃ A, A = X * 10 ^ k := ⟨_, rfl⟩
          obtain ⟨B, hBe⟩ : ∃ B, B = Y * 10 ^ j := ⟨_, rfl⟩
          obtain ⟨F, hFe⟩ : ∃ F, F = E - k + j := ⟨_, rfl⟩
          have hF1 : -30000 ≤ F ∧ F ≤ 30000 := by omega
          have hLA : (Num.digs 10 A).length ≤ 801 := by rw [hAe]; omega
          have hLB : (Num.digs 10 B).length ≤ 1201 := by rw [hBe]; omega
          rw [← hAe] at hdd hA10 hAle SA ⊢
          rw [← hBe] at hdd hA10 hB0 hAle SB ⊢
          rw [← hFe] at hdd ⊢
          have HD := hid hdd
          clear hdd hAe hBe hFe hlj hlk lenX' lenY' HX HYY HEE WE hx hy hLy
          go_wp2
          go_loopw [5, 6, 8, 9] (fun ev rv qv iv wr => ∃ (i q r : Nat) (aq : Option Addr) (cq : Nat) (ar : Option Addr) (cr : Nat) (el : Int), iv = .int .i64 i ∧ ev = .int .i64 el ∧ qv = .slice aq (Num.digs 10 q).length cq ∧ rv = .slice ar (Num.digs 10 r).length cr ∧
            Quo34 A B F i q r el ∧ RdN wr q aq cq ∧ RdN wr r ar cr ∧ RdN wr B ab cb ∧ Quo3 w wr x y) (fun _ _ _ iv _ => 34 - (intOf iv).toNat)
          case atStart => exact ⟨0, 0, A, none, 0, ar, cr, F, rfl, rfl, rfl, rfl, Quo34.start hA10, rdn_zero _, SA.out, SB.out, SQ.out⟩
          case round =>
            clear SA SB SQ
            obtain ⟨i, q, r, aq, cq, ar, cr, el, rfl, rfl, rfl, rfl, hS, hrq, hrr, hrb, hq⟩ := hrel
            have hel := hS.el
            have HS := hid hS
            have HRQ := hid hrq
            have HRR := hid hrr
            have HRB := hid hrb
            have HQ := hid hq
            clear hrq hrr hrb hq
            by_cases hi : i < 34
            · have hr10 := hS.lt hB0
              have hlr : (Num.digs 10 r).length ≤ 1202 := by
                have h1 := Num.digs_length_mul_pow (b := 10) (by decide) (show B ≠ 0 by omega) 1
                have h2 := Num.digs_length_mono (b := 10) (by decide) (show r ≤ B * 10 ^ 1 by omega)
                omega
              have hlq : (Num.digs 10 q).length ≤ 835 := by
                have h1 := Num.digs_length_mul_pow (b := 10) (by decide) (show A ≠ 0 by omega) 34
                have h2 := Num.digs_length_mono (b := 10) (by decide) (hS.q_le hB0)
                omega
              have hld : (Num.digs 10 (r / B)).length ≤ 1202 := Nat.le_trans (Num.digs_length_mono (by decide) (Nat.div_le_self _ _)) hlr
              have hlm : (Num.digs 10 (r % B)).length ≤ 1202 := Nat.le_trans (Num.digs_length_mono (by decide) (Nat.mod_le _ _)) hlr
              have hlq1 : (Num.digs 10 (q * 10)).length ≤ 836 := by
                by_cases h0 : q = 0
                · rw [h0, Nat.zero_mul, Num.digs_zero]; simp
                · have h1 := Num.digs_length_mul_pow (b := 10) (by decide) h0 1
                  rw [Nat.pow_one] at h1
                  omega
              have CD := ref1_Div ar ab cr cb r B wr HRR.out.1 HRB.out.1 (by omega) (by omega) (by omega)
              have CS := fun W (hb : Below wr.heap.size wr W) => ref1_Shift aq cq q 1 W (HRQ.out.below hb).1 HRQ.out.2.2.2 (by omega) (by omega)
              rw [Nat.pow_one] at CS
              have CA := fun W b5 c5 b6 c6 (h5 : RdN W (q * 10) b5 c5) (h6 : RdN W (r / B) b6 c6) => ref1_Add b5 b6 c5 c6 (Num.digs 10 (q * 10)) (Num.digs 10 (r / B)) W h5.1 h6.1 (by omega) (by omega)
              rw [Num.val_digs (by decide), Num.val_digs (by decide)] at CA
              have CT := fun W b7 c7 (h7 : RdN W (r % B) b7 c7) => ref1_Shift b7 c7 (r % B) 1 W h7.1 h7.2.2.2 (by omega) (by omega)
              rw [Nat.pow_one] at CT
              have HNX := hid (hS.step hB0 hi)
              obtain ⟨g, hg⟩ : ∃ g, g = r / B := ⟨_, rfl⟩
              obtain ⟨m, hm⟩ : ∃ m, m = r % B := ⟨_, rfl⟩
              obtain ⟨q1, hq1⟩ : ∃ q1, q1 = q * 10 := ⟨_, rfl⟩
              rw [← hg, ← hm] at CD
              rw [← hq1] at CS CA HNX
              rw [← hg] at CA HNX
              rw [← hm] at CT HNX
              replace CD := hid CD
              replace CS := hid CS
              replace CA := hid CA
              replace CT := hid CT
              clear hr10 hlr hlq hld hlm hlq1 hg hm hq1 hS HRR
              go_wp2_with fail
              refine CD.out.mono ?_
              rintro e5 w5 ⟨a5, c5, a6, c6, rfl, hb5, hr5, hr6⟩
              have B5 := hid hb5
              have H5 := hid hr5
              have H6 := hid hr6
              clear hb5 hr5 hr6 CD
              go_wp2_with fail
              refine (CS.out _ B5.out).mono ?_
              rintro e7 w7 ho
              obtain ⟨a7, c7, rfl, hb7, hr7⟩ := ho.rd
              have B7 := hid (below_trans B5.out hb7)
              have H7 := hid hr7
              replace H5 := hid (H5.out.below hb7)
              replace H6 := hid (H6.out.below hb7)
              clear ho hb7 hr7 CS B5
              go_wp2_with fail
              refine (CA.out _ _ _ _ _ H7.out H5.out).mono ?_
              rintro e8 w8 ho
              obtain ⟨a8, c8, rfl, hb8, hr8⟩ := ho.rd
              have B8 := hid (below_trans B7.out hb8)
              have H8 := hid hr8
              replace H6 := hid (H6.out.below hb8)
              clear ho hb8 hr8 CA B7 H5 H7
              by_cases h33 : i < 33
              · have HN3 := hid (HNX.out.1 h33)
                clear HNX HS HRQ
                go_wp2_with fail
                refine (CT.out _ _ _ H6.out).mono ?_
                rintro e9 w9 ho
                obtain ⟨a9, c9, rfl, hb9, hr9⟩ := ho.rd
                have B9 := hid (below_trans B8.out hb9)
                have H9 := hid hr9
                replace H8 := hid (H8.out.below hb9)
                clear ho hb9 hr9 CT B8 H6
                go_wp2
                go_roundw
                case rel => exact ⟨i + 1, q1 + g, m * 10, a8, c8, a9, c9, el - 1, by go_num, rfl, rfl, rfl, HN3.out, H8.out, H9.out, HRB.out.below B9.out, HQ.out.below B9.out⟩
                case measure => simp [intOf]; omega
              · have HN3 := hid (HNX.out.2 (by omega))
                clear HNX HS HRQ CT
                go_wp2
                go_roundw
                case rel => exact ⟨i + 1, q1 + g, m, a8, c8, a6, c6, el, by go_num, rfl, rfl, rfl, HN3.out, H8.out, H6.out, HRB.out.below B8.out, HQ.out.below B8.out⟩
                case measure => simp [intOf]; omega
            · obtain ⟨hi34, hqv, hrv, hev⟩ := hS.fin hi
              have hq0 : q ≠ 0 := by
                rw [hqv]
                exact Nat.pos_iff_ne_zero.1 (Nat.div_pos (Nat.le_trans hAle (Nat.le_mul_of_pos_right _ (pow_pos10 33))) hB0)
              have hN : nearN (A * 10 ^ 33) B = if B < 2 * r ∨ (2 * r = B ∧ q % 2 = 1) then q + 1 else q := by
                unfold nearN
                rw [← hqv, ← hrv]
              rw [hN] at HD
              have hr10 : r < B := by rw [hrv]; exact Nat.mod_lt _ hB0
              have hlr : (Num.digs 10 r).length ≤ 1201 := Nat.le_trans (Num.digs_length_mono (by decide) (Nat.le_of_lt hr10)) hLB
              have hlq : (Num.digs 10 q).length ≤ 835 := by
                have h1 := Num.digs_length_mul_pow (b := 10) (by decide) (show A ≠ 0 by omega) 34
                have h2 := Num.digs_length_mono (b := 10) (by decide) (hS.q_le hB0)
                omega
              have hlq0 : (0 : Int) < ((Num.digs 10 q).length : Int) := by
                have := Num.length_pos (b := 10) (by decide) hq0
                omega
              have hlrr : (Num.digs 10 (r + r)).length ≤ 1202 := by
                have h1 := Num.digs_length_mul_pow (b := 10) (by decide) (show B ≠ 0 by omega) 1
                have h2 := Num.digs_length_mono (b := 10) (by decide) (show r + r ≤ B * 10 ^ 1 by omega)
                omega
              have hlq1 : (Num.digs 10 (q + 1)).length ≤ 836 := by
                have h1 := Num.digs_length_mul_pow (b := 10) (by decide) hq0 1
                have h2 := Num.digs_length_mono (b := 10) (by decide) (show q + 1 ≤ q * 10 ^ 1 by omega)
                omega
              obtain ⟨z, hz⟩ : ∃ z, z = cmpN (r + r) B := ⟨_, rfl⟩
              have CA := ref1_Add ar ar cr cr (Num.digs 10 r) (Num.digs 10 r) wr HRR.out.1 HRR.out.1 (by omega) (by omega)
              rw [Num.val_digs (by decide)] at CA
              have CC := fun W b5 c5 (hb : Below wr.heap.size wr W) (h5 : RdN W (r + r) b5 c5) => ref1_Cmp b5 ab c5 cb (r + r) B W h5.1 (HRB.out.below hb).1 (by omega) (by omega)
              rw [← hz] at CC
              obtain ⟨b, off, rfl, hq1⟩ := HRQ.out.1.spot (j := 0) (by omega)
              rw [Num.digs_pos (by decide) hq0] at hq1
              simp only [List.getD_cons_zero, Nat.add_zero] at hq1
              obtain ⟨u, hu⟩ : ∃ u, u = q % 10 := ⟨_, rfl⟩
              rw [← hu] at hq1
              have hu9 : u < 10 := by omega
              have hpar : u % 2 = q % 2 := by omega
              obtain ⟨up, hup⟩ : ∃ up, up = decide (B < 2 * r ∨ (2 * r = B ∧ q % 2 = 1)) := ⟨_, rfl⟩
              have HD2 := hid (show d = plainD (x.neg != y.neg) (if up = true then q + 1 else q) (F - 33) by rw [HD.out, hup]; simp only [decide_eq_true_eq])
              have CO := fun W => ref3_one W
              have CP := fun W b5 c5 b6 c6 (h5 : RdN W q b5 c5) (h6 : RdN W 1 b6 c6) => ref1_Add b5 b6 c5 c6 (Num.digs 10 q) (Num.digs 10 1) W h5.1 h6.1 (by omega) (by rw [digs_one]; simp)
              rw [Num.val_digs (by decide), Num.val_digs (by decide)] at CP
              have CM := fun W b5 c5 (n : Nat) (h5 : RdN W n b5 c5) (hn : n = q ∨ n = q + 1) => ref2_Make (x.neg != y.neg) b5 c5 n el W h5.1 h5.2.1 h5.2.2.1 (by rcases hn with rfl | rfl <;> omega) (by omega)
              simp only [bne] at CM
              replace CA := hid CA
              replace CC := hid CC
              replace CO := hid CO
              replace CP := hid CP
              replace CM := hid CM
              replace hup := hid hup
              replace hz := hid hz
              replace hev := hid hev
              replace hpar := hid hpar
              clear hN hqv hrv hS HS HD hlr hlq hlrr hlq1 hr10 hu HRR HRB hq0 hi34
              go_upto_region 20 with fail
              go_cut [12] from 13 (fun v w' => v = .int .i64 z ∧ Below wr.heap.size wr w')
              case first =>
                go_wp2_with fail
                refine CA.out.mono ?_
                rintro e5 w5 ho
                obtain ⟨a5, c5, rfl, hb5, hr5⟩ := ho.rd
                have B5 := hid hb5
                have H5 := hid hr5
                clear ho hb5 hr5 CA
                go_wp2_with fail
                refine (CC.out _ _ _ B5.out H5.out).mono ?_
                rintro e6 w6 ⟨rfl, q6, rfl⟩
                have B6 := hid (below_drewN B5.out q6)
                clear B5 H5 CC
                go_wp2_with fail
                go_meet
                case rel => exact ⟨rfl, B6.out⟩
              case rest =>
                obtain ⟨rfl, hb⟩ := hcut
                replace HRQ := hid (HRQ.out.below hb)
                replace HQ := hid (HQ.out.below hb)
                replace hq1 := ((bcell hb).1 _ _ (cell_lt hq1)).trans hq1
                clear hb CA CC
                go_upto_region 21 with fail
                go_cut [77] from 13 (fun v w' => v = .bool up ∧ Below wc.heap.size wc w')
                case first =>
                  rcases Nat.lt_trichotomy (r + r) B with hc | hc | hc
                  · have z1 : z = -1 := by rw [hz.out]; unfold cmpN; rw [if_pos hc]
                    have z2 : up = false := by rw [hup.out, decide_eq_false_iff_not]; omega
                    subst z1 z2
                    clear hc hq1 HRQ
                    go_wp2_with fail
                    go_meet
                    case rel => exact ⟨rfl, Below.refl _ _⟩
                  · have z1 : z = 0 := by rw [hz.out]; unfold cmpN; rw [if_neg (by omega), if_neg (by omega)]
                    by_cases hp : u % 2 = 1
                    · have z2 : up = true := by rw [hup.out, decide_eq_true_eq]; have := hpar.out; omega
                      have hpi : ((u : Int) % 2 == 1) = true := by rw [beq_iff_eq]; omega
                      subst z1 z2
                      clear hc hp HRQ
                      go_wp2_with fail
                      go_meet
                      case rel => exact ⟨by simp, Below.refl _ _⟩
                    · have z2 : up = false := by rw [hup.out, decide_eq_false_iff_not]; have := hpar.out; omega
                      have hpi : ((u : Int) % 2 == 1) = false := by rw [beq_eq_false_iff_ne]; omega
                      subst z1 z2
                      clear hc hp HRQ
                      go_wp2_with fail
                      go_meet
                      case rel => exact ⟨by simp, Below.refl _ _⟩
                  · have z1 : z = 1 := by rw [hz.out]; unfold cmpN; rw [if_neg (by omega), if_pos (by omega)]
                    have z2 : up = true := by rw [hup.out, decide_eq_true_eq]; omega
                    subst z1 z2
                    clear hc hq1 HRQ
                    go_wp2_with fail
                    go_meet
                    case rel => exact ⟨rfl, Below.refl _ _⟩
                case rest =>
                  obtain ⟨rfl, hb⟩ := hcut
                  replace HRQ := hid (HRQ.out.below hb)
                  replace HQ := hid (HQ.out.below hb)
                  clear hb hz hup hq1
                  cases up with
                  | true =>
                    have HD3 := hid (show d = plainD (x.neg != y.neg) (q + 1) el by rw [HD2.out, hev.out]; rfl)
                    clear HD2
                    go_wp2_with fail
                    refine (CO.out _).mono ?_
                    rintro e5 w5 ho
                    obtain ⟨a5, c5, rfl, hb5, hr5⟩ := ho.rd
                    have B5 := hid hb5
                    have H5 := hid hr5
                    replace HRQ := hid (HRQ.out.below hb5)
                    replace HQ := hid (HQ.out.below hb5)
                    clear ho hb5 hr5 CO
                    go_wp2_with fail
                    refine (CP.out _ _ _ _ _ HRQ.out H5.out).mono ?_
                    rintro e6 w6 ho
                    obtain ⟨a6, c6, rfl, hb6, hr6⟩ := ho.rd
                    have H6 := hid hr6
                    replace HQ := hid (HQ.out.below hb6)
                    clear ho hb6 hr6 CP HRQ H5 B5
                    have k0 := HQ.out.c0
                    have k1 := HQ.out.c1
                    go_wp2_with fail
                    refine (CM.out _ _ _ (q + 1) H6.out (Or.inr rfl)).mono ?_
                    rintro e7 w7 ⟨b7, c7, rfl, hb7, hr7⟩
                    replace HQ := hid (HQ.out.below hb7)
                    rw [show plainD (!(x.neg == y.neg)) (q + 1) el = d from HD3.out.symm] at hr7 ⊢
                    have H7 := hid hr7
                    clear hb7 hr7 CM H6 k0 k1
                    obtain ⟨_, _, _, p0, p1, p2⟩ := HQ.out.rc.cells.get
                    have f0 := HQ.out.rc.cells.frozen 0
                    have f1 := HQ.out.rc.cells.frozen 1
                    have f2 := HQ.out.rc.cells.frozen 2
                    unfold refV
                    go_wp2
                    refine bodyPost_ret (v := refV d b7 c7) (by simp [results, Tryz.results44, go_sem, p0, p1, p2, refV]) rfl ?_
                    exact ⟨b7, c7, rfl, below_put HQ.out.bel (by omega) _ _ _ _ _, H7.out.put HQ.out.rc _ _ _ _ _⟩
                  | false =>
                    have HD3 := hid (show d = plainD (x.neg != y.neg) q el by rw [HD2.out, hev.out]; rfl)
                    clear HD2 CO CP
                    have k0 := HQ.out.c0
                    have k1 := HQ.out.c1
                    go_wp2_with fail
                    refine (CM.out _ _ _ q HRQ.out (Or.inl rfl)).mono ?_
                    rintro e7 w7 ⟨b7, c7, rfl, hb7, hr7⟩
                    replace HQ := hid (HQ.out.below hb7)
                    rw [show plainD (!(x.neg == y.neg)) q el = d from HD3.out.symm] at hr7 ⊢
                    have H7 := hid hr7
                    clear hb7 hr7 CM k0 k1
                    obtain ⟨_, _, _, p0, p1, p2⟩ := HQ.out.rc.cells.get
                    have f0 := HQ.out.rc.cells.frozen 0
                    have f1 := HQ.out.rc.cells.frozen 1
                    have f2 := HQ.out.rc.cells.frozen 2
                    unfold refV
                    go_wp2
                    refine bodyPost_ret (v := refV d b7 c7) (by simp [results, Tryz.results44, go_sem, p0, p1, p2, refV]) rfl ?_
                    exact ⟨b7, c7, rfl, below_put HQ.out.bel (by omega) _ _ _ _ _, H7.out.put HQ.out.rc _ _ _ _ _⟩
end Go.Proofs.YtiblmkecipoanaaGreatDoor
