/- The document's answer, eleventh, fourteenth, fifteenth part: Mul of digits; Sum, Add and Mul of numbers. -/
import Derived.Test.YtphdncifcljmpaaGreatDoorRefE
import Derived.StillTailTactics
import Derived.Test.YtphdncifcljmpaaGreatDoorRefLb
import Derived.Deep.CutBlock
import Derived.Test.YtphdncifcljmpaaGreatDoorLawLib
import Derived.Test.YtphdncifcljmpaaGreatDoorDecO
namespace Go.Proofs.YtphdncifcljmpaaGreatDoor
open Go.RowKit

def ints (xs : List Nat) : List Value := xs.map fun (x : Nat) => Value.int .i64 (x : Int)
@[simp] theorem length_ints (xs : List Nat) : (ints xs).length = xs.length := by simp [ints]
theorem intSlice : SliceOf Tryz.prog 127 3 (.int .i64 0) 8 := ⟨Tryz.underlying127, by kernel_rfl, rfl⟩

/-- What holds of the row of sums: what they are worth, and how great they may be. -/
def SumR (w : World) (N g V B : Nat) (wr : World) : Prop :=
  ∃ L : List Nat, L.length = N ∧ (∀ p, L.getD p 0 ≤ B) ∧ Num.val 10 L = V ∧ wr.ownsRow w.heap.size 3 1 (.slice (some ⟨g, 0, none⟩) N N) N (ints L) ∧ Below w.heap.size w wr
theorem SumR.step {w wr w1 : World} {N g V B p t : Nat} {L : List Nat} (h1 : L.length = N) (h2 : ∀ p, L.getD p 0 ≤ B) (h3 : Num.val 10 L = V)
    (h4 : wr.ownsRow w.heap.size 3 1 (.slice (some ⟨g, 0, none⟩) N N) N (ints L)) (h5 : Below w.heap.size w wr) (hp : p < N) (ht : t ≤ 81) (hw : w1 = wr.setCell ⟨g, p, none⟩ (.int .i64 ((L.getD p 0 + t : Nat) : Int))) :
    SumR w N g (V + t * 10 ^ p) (B + 81) w1 := by
  subst hw
  have hs := h4.stored p (.int .i64 ((L.getD p 0 + t : Nat) : Int))
  refine ⟨L.set p (L.getD p 0 + t), by simp [h1], ?_, ?_, ?_, ?_⟩
  · intro q
    by_cases hq : p = q
    · subst hq
      rw [List.getD_eq_getElem?_getD, List.getElem?_set_self (by omega)]
      have := h2 p
      simp only [Option.getD_some]; omega
    · rw [List.getD_eq_getElem?_getD, List.getElem?_set_ne hq, ← List.getD_eq_getElem?_getD]
      have := h2 q; omega
  · have e := Num.val_set 10 L p (L.getD p 0 + t) (by omega)
    rw [Nat.add_mul] at e
    omega
  · have e : (ints L).set p (.int .i64 ((L.getD p 0 + t : Nat) : Int)) = ints (L.set p (L.getD p 0 + t)) := by simp [ints, List.map_set]
    rw [e] at hs
    exact hs.1
  · exact h5.grown hs.2 h5.size (fun j hj => by injection hj with hj; subst hj; exact (h4.lt g rfl).1)

/-- What holds at the head of a round in which the carry goes on. -/
def CarR (w : World) (n g : Nat) (L : List Nat) (C k : Nat) (wr : World) : Prop :=
  ∃ out : List Nat, out.length = k ∧ (∀ x ∈ out, x < 10) ∧ Num.val 10 out + C * 10 ^ k = Num.val 10 (L.take k) ∧ wr.ownsRow w.heap.size 5 1 (.slice (some ⟨g, 0, none⟩) n n) n (u8s (out ++ List.replicate (n - k) 0)) ∧ Below w.heap.size w wr
theorem CarR.step {w wr w1 : World} {n g C k T : Nat} {L out : List Nat} (h1 : out.length = k) (h2 : ∀ x ∈ out, x < 10) (h3 : Num.val 10 out + C * 10 ^ k = Num.val 10 (L.take k))
    (h4 : wr.ownsRow w.heap.size 5 1 (.slice (some ⟨g, 0, none⟩) n n) n (u8s (out ++ List.replicate (n - k) 0))) (h5 : Below w.heap.size w wr) (hk : k < n) (hT : T = C + L.getD k 0) (hw : w1 = wr.setCell ⟨g, k, none⟩ (.int .u8 ((T % 10 : Nat) : Int))) :
    CarR w n g L (T / 10) (k + 1) w1 := by
  subst hw
  have hs := h4.stored k (.int .u8 ((T % 10 : Nat) : Int))
  refine ⟨out ++ [T % 10], by simp [h1], ?_, ?_, ?_, ?_⟩
  · intro y hy
    rcases List.mem_append.1 hy with h | h
    · exact h2 y h
    · simp at h; omega
  · rw [Num.val_snoc, h1, Num.val_take_succ, Nat.pow_succ]
    obtain ⟨P, hP⟩ : ∃ P, P = 10 ^ k := ⟨_, rfl⟩
    rw [← hP] at h3 ⊢
    have e1 : P * (T % 10) + T / 10 * (P * 10) = P * T := by
      have := Nat.mod_add_div T 10
      rw [Nat.mul_comm P 10, ← Nat.mul_assoc, Nat.mul_comm (T / 10 * 10) P, ← Nat.mul_add]
      congr 1; omega
    have e2 : P * T = C * P + P * L.getD k 0 := by rw [hT, Nat.mul_add, Nat.mul_comm P C]
    omega
  · have e : (u8s (out ++ List.replicate (n - k) 0)).set k (.int .u8 ((T % 10 : Nat) : Int)) = u8s (out ++ [T % 10] ++ List.replicate (n - (k + 1)) 0) := by
      have e1 : List.replicate (n - k) 0 = 0 :: List.replicate (n - (k + 1)) 0 := by rw [← List.replicate_succ]; congr 1; omega
      rw [e1]
      subst h1
      simp [u8s]
    rw [e] at hs
    exact hs.1
  · exact h5.grown hs.2 h5.size (fun j hj => by injection hj with hj; subst hj; exact (h4.lt g rfl).1)

theorem U8.at {W : World} {a : Option Addr} {xs : List Nat} (h : U8 W a xs) {j : Nat} (hj : j < xs.length) : ∃ b off, a = some ⟨b, off, none⟩ ∧ W.cell? ⟨b, off + j, none⟩ = some (.int .u8 ((xs.getD j 0 : Nat) : Int)) := by
  obtain ⟨b, off, rfl, _⟩ := h.row j (.int .u8 ((xs[j] : Nat) : Int)) (by simp [u8s, hj])
  exact ⟨b, off, rfl, h.row.u8 hj⟩

set_option maxRecDepth 100000 in
set_option maxHeartbeats 3200000 in
theorem ref1_Mul (a : Option Addr) (n cap : Nat) (a2 : Option Addr) (n2 cap2 : Nat) (xs ys : List Nat) (w : World) (hx : xs.length = n) (hy : ys.length = n2) (h : U8 w a xs) (h2 : U8 w a2 ys) (hn : n ≤ 10000) (hn2 : n2 ≤ 10000) :
    Calls Tryz.prog 66 #[.slice a n cap, .slice a2 n2 cap2] w (OutR8 w (Num.digs 10 (Num.val 10 xs * Num.val 10 ys))) := by
  have CX := fun j (hj : j < n) => h.at (j := j) (by omega)
  have CY := fun j (hj : j < n2) => h2.at (j := j) (by omega)
  have BX := fun k => h.getD_lt k
  have BY := fun k => h2.getD_lt k
  have LX := Num.val_lt (b := 10) (by decide) xs h.lt
  have LY := Num.val_lt (b := 10) (by decide) ys h2.lt
  replace CX := hid CX
  replace CY := hid CY
  replace BX := hid BX
  replace BY := hid BY
  replace LX := hid LX
  replace LY := hid LY
  have HX := hid hx
  have HY := hid hy
  obtain ⟨N, hN⟩ : ∃ N, N = n + n2 + 1 := ⟨_, rfl⟩
  have hN1 : n + n2 + 1 ≤ N := by omega
  have hN2 : N ≤ 20001 := by omega
  have HNN := hid hN
  clear h h2 hx hy hN
  go_enter Tryz.func66, Tryz.ntmps66
  go_wp2_with (at_make; refine wpList_full intSlice rfl _ _ rfl N rfl rfl (by rw [HNN.out]; go_num) (by rw [HNN.out]; go_num) (by omega) (by unfold maxLen; omega) ?_; intro w1 hown hb1)
  have HO := hid hown
  have HB1 := hid hb1
  clear hown hb1
  go_loopw [6, 7] (fun i _ wr => ∃ k : Nat, k ≤ n ∧ i = .int .i64 k ∧ SumR w N w.heap.size (Num.val 10 (xs.take k) * Num.val 10 ys) (81 * (k * n2)) wr) (fun i _ _ => n - (intOf i).toNat)
  case atStart =>
    refine ⟨0, Nat.zero_le _, rfl, List.replicate N 0, by simp, fun p => by simp [List.getElem?_replicate]; split <;> simp, by simp [Num.val_replicate, Num.val_nil], by simpa [ints] using HO.out, HB1.out⟩
  case round =>
    clear HO HB1
    obtain ⟨k, hk, rfl, hacc⟩ := hrel
    have HA := hid hacc
    clear hacc
    by_cases hlt : k < n
    · obtain ⟨wo, rfl⟩ : ∃ wo : World, wo = wr := ⟨_, rfl⟩
      obtain ⟨x, hxe⟩ : ∃ x, x = xs.getD k 0 := ⟨_, rfl⟩
      have hx9 : x < 10 := by rw [hxe]; exact BX.out k
      have HXE := hid hxe
      have hkn : k * n2 ≤ 10000 * 10000 := Nat.mul_le_mul (by omega) hn2
      have HKN := hid hkn
      clear hxe hkn
      go_wp2
      go_loopw [7] (fun j wr => ∃ p : Nat, p ≤ n2 ∧ j = .int .i64 p ∧ SumR w N w.heap.size (Num.val 10 (xs.take k) * Num.val 10 ys + x * Num.val 10 (ys.take p) * 10 ^ k) (81 * (k * n2 + p)) wr) (fun j _ => n2 - (intOf j).toNat)
      case atStart => exact ⟨0, Nat.zero_le _, rfl, by simpa [Num.val_nil] using HA.out⟩
      case round =>
        clear HA
        obtain ⟨p, hp, rfl, L, g1, g2, g3, g4, g5⟩ := hrel
        have HL1 := hid g1
        have HL2 := hid g2
        have HL3 := hid g3
        have HL4 := hid g4
        have HL5 := hid g5
        clear g1 g2 g3 g4 g5
        by_cases hplt : p < n2
        · obtain ⟨y, hye⟩ : ∃ y, y = ys.getD p 0 := ⟨_, rfl⟩
          obtain ⟨l, hle⟩ : ∃ l, l = L.getD (k + p) 0 := ⟨_, rfl⟩
          have hy9 : y < 10 := by rw [hye]; exact BY.out p
          have hl9 : l ≤ 20000000000 := by
            have := HL2.out (k + p)
            have := HKN.out
            rw [hle]; omega
          have hkp : k + p < N := by omega
          obtain ⟨b, off, rfl, hcx⟩ := CX.out k hlt
          obtain ⟨b2, off2, rfl, hcy⟩ := CY.out p hplt
          have hc0 : wr.cell? ⟨b, off + k, none⟩ = some (.int .u8 (x : Int)) := by
            rw [HXE.out]; exact (HL5.out.cell (cell_lt hcx)).trans hcx
          have hc1 : wr.cell? ⟨b2, off2 + p, none⟩ = some (.int .u8 (y : Int)) := by
            rw [hye]; exact (HL5.out.cell (cell_lt hcy)).trans hcy
          have hc2 : wr.cell? ⟨w.heap.size, k + p, none⟩ = some (.int .i64 (l : Int)) := by
            rw [HL4.out.cellAt (k + p) (by omega), hle]
            have := HL1.out
            simp [ints, this, hkp]
          have hf2 := HL4.out.frozenAt (k + p)
          have hxy : x * y ≤ 9 * 9 := Nat.mul_le_mul (by omega) (by omega)
          obtain ⟨t, ht⟩ : ∃ t, t = x * y := ⟨_, rfl⟩
          have HST : Hid (∀ v : Int, v = (l : Int) + t →
              SumR w N w.heap.size (Num.val 10 (xs.take k) * Num.val 10 ys + x * Num.val 10 (ys.take (p + 1)) * 10 ^ k) (81 * (k * n2 + (p + 1))) ((wr.setCell ⟨w.heap.size, k + p, none⟩ (.int .i64 v)).drew)) := by
            intro v hz
            subst hz
            have R := SumR.step (w := w) (wr := wr) (w1 := wr.setCell ⟨w.heap.size, k + p, none⟩ (.int .i64 ((l : Int) + t))) (t := t) HL1.out HL2.out HL3.out HL4.out HL5.out hkp (by omega) (by rw [← hle]; simp)
            have e : Num.val 10 (xs.take k) * Num.val 10 ys + x * Num.val 10 (ys.take p) * 10 ^ k + t * 10 ^ (k + p) = Num.val 10 (xs.take k) * Num.val 10 ys + x * Num.val 10 (ys.take (p + 1)) * 10 ^ k := by
              rw [Num.val_take_succ, ← hye, Nat.add_assoc, Nat.mul_add x, Nat.add_mul, Nat.pow_add, ht]
              congr 2
              ac_rfl
            rw [e] at R
            rw [show 81 * (k * n2 + (p + 1)) = 81 * (k * n2 + p) + 81 by omega]
            obtain ⟨L2, r1, r2, r3, r4, r5⟩ := R
            exact ⟨L2, r1, r2, r3, r4, r5.drew⟩
          have hm : (x : Int) * (y : Int) = (t : Int) := by rw [ht]; simp
          have ht9 : t ≤ 81 := by omega
          have wk : IntKind.i64.wrap ((k : Int) + p) = (k : Int) + p := by rw [IntKind.wrap_i64]; omega
          have wm : IntKind.i64.wrap ((x : Int) * y) = (t : Int) := by rw [hm, IntKind.wrap_i64]; omega
          have wv : RowKit.wrap64 ((x : Int) * y) = (t : Int) := by rw [hm]; unfold RowKit.wrap64; omega
          have WM := hid wv
          clear wv
          have wl : IntKind.i64.wrap ((l : Int) + t) = (l : Int) + t := by rw [IntKind.wrap_i64]; omega
          have hi0 : (0 : Int) ≤ (k : Int) + p := by omega
          have hi1 : (k : Int) + p < (N : Int) := by omega
          have hi2 : ((k : Int) + p).toNat = k + p := by omega
          have hk0 : (0 : Int) ≤ (k : Int) := by omega
          have hk1 : (k : Int) < (n : Int) := by omega
          have hp0 : (0 : Int) ≤ (p : Int) := by omega
          have hp1 : (p : Int) < (n2 : Int) := by omega
          clear hye hle hxy ht hm hcx hcy
          go_wp2_with fail
          go_still_tail 23, (by kernel_rfl)
          go_wp2
          go_roundw
          case rel => exact ⟨p + 1, by omega, by go_num, HST.out _ (congrArg (fun z : Int => (l : Int) + z) WM.out)⟩
          case measure => simp [intOf]; omega
        · obtain rfl : p = n2 := by omega
          have HK : SumR w N w.heap.size (Num.val 10 (xs.take (k + 1)) * Num.val 10 ys) (81 * ((k + 1) * p)) wr := by
            refine ⟨L, HL1.out, ?_, ?_, HL4.out, HL5.out⟩
            · have e : 81 * ((k + 1) * p) = 81 * (k * p + p) := by rw [Nat.succ_mul k p]
              rw [e]; exact HL2.out
            · rw [HL3.out, show ys.take p = ys from List.take_of_length_le (by have := HY.out; omega), Num.val_take_succ, ← HXE.out, Nat.add_mul]
              congr 1
              ac_rfl
          replace HK := hid HK
          clear HL1 HL2 HL3 HL4 HL5
          go_wp2
          go_roundw
          case rel => exact ⟨k + 1, by omega, by go_num, HK.out⟩
          case measure => simp [intOf]; omega
    · obtain rfl : k = n := by omega
      obtain ⟨L, g1, g2, g3, g4, g5⟩ := HA.out
      have HL1 := hid g1
      have HL2 := hid g2
      have HL3 := hid g3
      have HL4 := hid g4
      have HL5 := hid g5
      have hkn : k * n2 ≤ 10000 * 10000 := Nat.mul_le_mul (by omega) hn2
      obtain ⟨B, hB⟩ : ∃ B, B = 81 * (k * n2) := ⟨_, rfl⟩
      rw [← hB] at HL2
      have hB9 : B ≤ 8100000000 := by omega
      have hrow : ∀ j, j < N → wr.cell? ⟨w.heap.size, j, none⟩ = some (.int .i64 ((L.getD j 0 : Nat) : Int)) := fun j hj => by
        rw [g4.cellAt j (by omega)]
        simp [ints, g1, hj]
      have HROW := hid hrow
      clear g1 g2 g3 g4 g5 HA hB hkn hrow
      obtain ⟨wo, rfl⟩ : ∃ wo : World, wo = wr := ⟨_, rfl⟩
      go_wp2_with (at_make; refine wpList_full numSlice rfl _ _ rfl N rfl rfl rfl rfl (by omega) (by unfold maxLen; omega) ?_; intro w2 hown hb2)
      have HO := hid hown
      have HB2 := hid hb2
      clear hown hb2
      go_loopw [9, 10] (fun c i wr => ∃ (j C : Nat), j ≤ N ∧ i = .int .i64 j ∧ c = .int .i64 C ∧ C ≤ B ∧ CarR wo N wo.heap.size L C j wr) (fun _ i _ => N - (intOf i).toNat)
      case atStart => exact ⟨0, 0, Nat.zero_le _, rfl, rfl, Nat.zero_le _, [], rfl, by simp, by simp [Num.val_nil], by simpa [u8s] using HO.out, HB2.out⟩
      case round =>
        clear HO HB2
        obtain ⟨j, C, hj, rfl, rfl, hC, out, g1, g2, g3, g4, g5⟩ := hrel
        have HG1 := hid g1
        have HG2 := hid g2
        have HG3 := hid g3
        have HG4 := hid g4
        have HG5 := hid g5
        clear g1 g2 g3 g4 g5
        by_cases hjlt : j < N
        · obtain ⟨l, hle⟩ : ∃ l, l = L.getD j 0 := ⟨_, rfl⟩
          have hlB : l ≤ B := by rw [hle]; exact HL2.out j
          have h0 := HROW.out j hjlt
          rw [← hle] at h0
          have hc1 : wr.cell? ⟨w.heap.size, j, none⟩ = some (.int .i64 (l : Int)) := (HG5.out.cell (cell_lt h0)).trans h0
          have hf2 := HG4.out.frozenAt j
          have hold : ∃ u, wr.cell? ⟨wo.heap.size, j, none⟩ = some (.int .u8 u) := by
            rw [HG4.out.cellAt j (by omega)]
            have h1 := HG1.out
            refine ⟨((0 : Nat) : Int), ?_⟩
            simp only [u8s, List.map_append, List.map_replicate]
            rw [List.getElem?_append_right (by simp [h1]), List.getElem?_replicate, if_pos (by simp [h1]; omega)]
          obtain ⟨u, hold⟩ := hold
          have HST : Hid (∀ wz, wz = wr.setCell ⟨wo.heap.size, j, none⟩ (.int .u8 (((C : Int) + l) % 10)) → CarR wo N wo.heap.size L ((C + l) / 10) (j + 1) wz) := by
            intro wz hz
            exact CarR.step (T := C + l) HG1.out HG2.out HG3.out HG4.out HG5.out hjlt (by rw [hle]) (by rw [hz]; congr 2)
          have hq : ((C : Int) + l) / 10 = (((C + l) / 10 : Nat) : Int) := by omega
          clear hle h0
          go_wp2
          go_roundw
          case rel => exact ⟨j + 1, (C + l) / 10, by omega, by go_num, by go_num, by omega, HST.out _ (by simp)⟩
          case measure => simp [intOf]; omega
        · obtain rfl : j = N := by omega
          have hv : Num.val 10 out = Num.val 10 xs * Num.val 10 ys := by
            have e := HG3.out
            rw [List.take_of_length_le (by have := HL1.out; omega), HL3.out, List.take_of_length_le (by have := HX.out; omega)] at e
            have b1 := LX.out
            have b2 := LY.out
            have b3 : Num.val 10 xs * Num.val 10 ys < 10 ^ j := by
              rcases Nat.eq_zero_or_pos (Num.val 10 ys) with h0 | h0
              · rw [h0, Nat.mul_zero]; exact Nat.pow_pos (by decide)
              · have b4 : Num.val 10 xs * Num.val 10 ys < 10 ^ xs.length * 10 ^ ys.length := Nat.mul_lt_mul_of_lt_of_le b1 (by omega) (by omega)
                rw [← Nat.pow_add] at b4
                exact Nat.lt_of_lt_of_le b4 (Nat.pow_le_pow_right (by decide) (by have := HX.out; have := HY.out; omega))
            have hC0 : C = 0 := by
              rcases Nat.eq_zero_or_pos C with h | h
              · exact h
              · have : 1 * 10 ^ j ≤ C * 10 ^ j := Nat.mul_le_mul_right _ h
                omega
            subst hC0
            omega
          have hown := HG4.out
          rw [Nat.sub_self] at hown
          simp only [List.replicate_zero, List.append_nil] at hown
          have CT := hid (r_trim_out _ j j out wo wr HG1.out HG2.out hown HG5.out)
          have HV := hid hv
          clear hown hv hjlt
          go_wp2_with fail
          refine (CT.out).mono ?_
          rintro e w' ⟨ho, rfl⟩
          rw [HV.out] at ho
          have HF := hid (ho.of_below HL5.out)
          clear ho
          obtain ⟨a3, cap3, rfl, h3⟩ := HF.out
          have H3 := hid h3
          clear h3 HF
          go_wp2
          go_ret
          exact ⟨a3, cap3, rfl, H3.out⟩

theorem keepV {W0 W w1 : World} {N R : Nat} {x : Value} (h : W.cell? ⟨N, 0, none⟩ = some x ∧ W.frozen? ⟨R, 0, none⟩ = false ∧ W.frozen? ⟨R, 1, none⟩ = false ∧ W.frozen? ⟨R, 2, none⟩ = false ∧ Rec W R ∧ But R W0 W) (hb : Below W.heap.size W w1) :
    w1.cell? ⟨N, 0, none⟩ = some x ∧ w1.frozen? ⟨R, 0, none⟩ = false ∧ w1.frozen? ⟨R, 1, none⟩ = false ∧ w1.frozen? ⟨R, 2, none⟩ = false ∧ Rec w1 R ∧ But R W0 w1 := by
  obtain ⟨h0, _, _, _, h6, h7⟩ := h
  have c6 := h6.below hb
  exact ⟨((bcell hb).1 _ _ (cell_lt h0)).trans h0, c6.cells.frozen 0, c6.cells.frozen 1, c6.cells.frozen 2, c6, h7.step hb⟩
theorem keepVs {W0 W : World} {N R : Nat} {x : Value} (h : W.cell? ⟨N, 0, none⟩ = some x ∧ W.frozen? ⟨R, 0, none⟩ = false ∧ W.frozen? ⟨R, 1, none⟩ = false ∧ W.frozen? ⟨R, 2, none⟩ = false ∧ Rec W R ∧ But R W0 W) (g : Bool) (a : Option Addr) (n c : Nat) (e : Int) (hN : N ≠ R) (w1 : World) (hw : w1 = put3 W R g a n c e) :
    w1.cell? ⟨N, 0, none⟩ = some x ∧ w1.frozen? ⟨R, 0, none⟩ = false ∧ w1.frozen? ⟨R, 1, none⟩ = false ∧ w1.frozen? ⟨R, 2, none⟩ = false ∧ Rec w1 R ∧ But R W0 w1 := by
  subst hw
  obtain ⟨h0, _, _, _, h6, h7⟩ := h
  have c6 := h6.put g a n c e
  exact ⟨(World.cell?_of_block (put3_other hN g a n c e)).trans h0, c6.cells.frozen 0, c6.cells.frozen 1, c6.cells.frozen 2, c6, ((h7.setCell _ _).setCell _ _).setCell _ _⟩

/-- The sum, and whether it may be told. -/
def sumS (x y : D) : D × Bool :=
  if x.m = 0 then (y, true) else if y.m = 0 then (x, true)
  else if 2000 < headD x - min x.e y.e ∨ 2000 < headD y - min x.e y.e then (zeroD, false) else (sumD x y, true)
def OutS (w : World) (r : D × Bool) (e : Ending) (w' : World) : Prop := ∃ a c, e = .returned (.tuple #[refV r.1 a c, .bool r.2]) ∧ Below w.heap.size w w' ∧ RdD w' r.1 a c
theorem But.rd {R : Nat} {w w' : World} {d : D} {b : Option Addr} {c : Nat} (hb : But R w w') (h : RdD w d b c) (r : Rec w R) : RdD w' d b c := by
  refine ⟨⟨fun j x hx => ?_, h.1.lt⟩, h.2⟩
  obtain ⟨bk, off, rfl, hc⟩ := h.1.row j x hx
  refine ⟨bk, off, rfl, ?_⟩
  have hne : bk ≠ R := by
    rintro rfl
    obtain ⟨g0, a0, n0, c0, e0, T, hr⟩ := r
    rw [blk_cell hr] at hc
    obtain ⟨y, _, rfl⟩ : ∃ y, y ∈ Num.digs 10 d.m ∧ x = .int .u8 ((y : Nat) : Int) := by
      have := List.mem_of_getElem? hx
      obtain ⟨y, hy, rfl⟩ := List.mem_map.1 (show x ∈ (Num.digs 10 d.m).map _ from this)
      exact ⟨y, hy, rfl⟩
    generalize off + j = k at hc
    match k, hc with
    | 0, hc => simp at hc
    | 1, hc => simp at hc
    | 2, hc => simp at hc
    | k + 3, hc => simp at hc
  rw [← hc]
  exact World.cell?_of_block (hb.block bk (cell_lt hc) hne)
theorem But.u8 {R : Nat} {w w' : World} {m : Nat} {b : Option Addr} (hb : But R w w') (h : U8 w b (Num.digs 10 m)) (r : Rec w R) : U8 w' b (Num.digs 10 m) := by
  refine ⟨fun j x hx => ?_, h.lt⟩
  obtain ⟨bk, off, rfl, hc⟩ := h.row j x hx
  refine ⟨bk, off, rfl, ?_⟩
  have hne : bk ≠ R := by
    rintro rfl
    obtain ⟨g0, a0, n0, c0, e0, T, hr⟩ := r
    rw [blk_cell hr] at hc
    obtain ⟨y, _, rfl⟩ : ∃ y, y ∈ Num.digs 10 m ∧ x = .int .u8 ((y : Nat) : Int) := by
      have := List.mem_of_getElem? hx
      obtain ⟨y, hy, rfl⟩ := List.mem_map.1 (show x ∈ (Num.digs 10 m).map _ from this)
      exact ⟨y, hy, rfl⟩
    generalize off + j = k at hc
    match k, hc with
    | 0, hc => simp at hc
    | 1, hc => simp at hc
    | 2, hc => simp at hc
    | k + 3, hc => simp at hc
  rw [← hc]
  exact World.cell?_of_block (hb.block bk (cell_lt hc) hne)

set_option maxRecDepth 100000 in
set_option maxHeartbeats 6400000 in
theorem ref2_Sum (x y : D) (a1 : Option Addr) (d1 : Nat) (a2 : Option Addr) (d2 : Nat) (w : World) (h1 : RdD w x a1 d1) (h2 : RdD w y a2 d2) (bx : (Num.digs 10 x.m).length ≤ 400 ∧ -10400 ≤ x.e ∧ x.e ≤ 10001) (bY : (Num.digs 10 y.m).length ≤ 400 ∧ -10400 ≤ y.e ∧ y.e ≤ 10001) :
    Calls Tryz.prog 64 #[refV x a1 d1, refV y a2 d2] w (OutS w (sumS x y)) := by
  obtain ⟨r, hr⟩ : ∃ r, r = sumS x y := ⟨_, rfl⟩
  rw [← hr]
  replace hr := hid hr
  have B2 := Box2.new h1 h2
  have zx : (Num.digs 10 x.m).length = 0 ↔ x.m = 0 := by rw [List.length_eq_zero_iff]; exact Num.digs_eq_nil (by decide)
  have zy : (Num.digs 10 y.m).length = 0 ↔ y.m = 0 := by rw [List.length_eq_zero_iff]; exact Num.digs_eq_nil (by decide)
  have CX := fun W => ref2_Head x a1 d1 W (by omega) (by omega)
  have CY := fun W => ref2_Head y a2 d2 W (by omega) (by omega)
  obtain ⟨hX, hhX⟩ : ∃ hX, hX = headD x := ⟨_, rfl⟩
  obtain ⟨hY, hhY⟩ : ∃ hY, hY = headD y := ⟨_, rfl⟩
  have hXb : -20000 ≤ hX ∧ hX ≤ 20000 := by rw [hhX]; unfold headD; omega
  have hYb : -20000 ≤ hY ∧ hY ≤ 20000 := by rw [hhY]; unfold headD; omega
  rw [← hhX] at CX
  rw [← hhY] at CY
  unfold refV at CX CY ⊢
  replace CX := hid CX
  replace CY := hid CY
  replace hhX := hid hhX
  replace hhY := hid hhY
  have BX := hid bx
  have BY := hid bY
  have hex := bx.2
  have hey := bY.2
  replace zx := hid zx
  replace zy := hid zy
  clear h1 h2 bx bY
  go_enter Tryz.func64, Tryz.ntmps64
  go_upto_region 1 with fail
  obtain ⟨wc, hwc⟩ : ∃ W, W = ((w.alloc (.cells #[.bool x.neg, .slice a1 (Num.digs 10 x.m).length d1, .int .i64 x.e] 66)).alloc (.cells #[.bool y.neg, .slice a2 (Num.digs 10 y.m).length d2, .int .i64 y.e] 66)).alloc (.cells #[.bool false, .slice none 0 0, .int .i64 0] 66) := ⟨_, rfl⟩
  rw [← hwc]
  have k3 := (Below.refl ((w.alloc (.cells #[.bool x.neg, .slice a1 (Num.digs 10 x.m).length d1, .int .i64 x.e] 66)).alloc (.cells #[.bool y.neg, .slice a2 (Num.digs 10 y.m).length d2, .int .i64 y.e] 66)).heap.size ((w.alloc (.cells #[.bool x.neg, .slice a1 (Num.digs 10 x.m).length d1, .int .i64 x.e] 66)).alloc (.cells #[.bool y.neg, .slice a2 (Num.digs 10 y.m).length d2, .int .i64 y.e] 66))).alloc (Nat.le_refl _) (.cells #[.bool false, .slice none 0 0, .int .i64 0] 66)
  rw [← hwc] at k3
  replace B2 := hid (B2.next k3)
  have HRC := hid (show Rec wc (w.heap.size + 1 + 1) from ⟨_, _, _, _, _, _, by rw [hwc]; simpa using blk_new2 (w.alloc _) _ _⟩)
  have hszc := HRC.out.lt
  clear hwc k3
  obtain ⟨⟨k0, k1, k2⟩, _⟩ := blk_three B2.out.h1
  obtain ⟨⟨q0, q1, q2⟩, _⟩ := blk_three B2.out.h2
  obtain ⟨_, _, _, p0, p1, p2⟩ := HRC.out.cells.get
  have f0 := HRC.out.cells.frozen 0
  have f1 := HRC.out.cells.frozen 1
  have f2 := HRC.out.cells.frozen 2
  by_cases x0 : x.m = 0
  · have HR := hid (show r = (y, true) by rw [hr.out]; unfold sumS; rw [if_pos x0])
    rw [zx.out.2 x0] at k1
    have HRR := hid (B2.out.r2.put HRC.out y.neg a2 (Num.digs 10 y.m).length d2 y.e)
    clear x0 hr
    go_wp2
    refine bodyPost_ret (v := .tuple #[refV y a2 d2, .bool true]) (by simp [results, Tryz.results64, go_sem, p0, p1, p2, refV]) rfl ?_
    rw [HR.out]
    exact ⟨a2, d2, rfl, below_put B2.out.bel (by omega) _ _ _ _ _, HRR.out⟩
  · have ix : (((Num.digs 10 x.m).length : Int) == 0) = false := by rw [beq_eq_false_iff_ne]; intro e; exact x0 (zx.out.1 (by omega))
    by_cases y0 : y.m = 0
    · have HR := hid (show r = (x, true) by rw [hr.out]; unfold sumS; rw [if_neg x0, if_pos y0])
      rw [zy.out.2 y0] at q1
      have HRR := hid (B2.out.r1.put HRC.out x.neg a1 (Num.digs 10 x.m).length d1 x.e)
      clear x0 y0 hr
      go_wp2
      refine bodyPost_ret (v := .tuple #[refV x a1 d1, .bool true]) (by simp [results, Tryz.results64, go_sem, p0, p1, p2, refV]) rfl ?_
      rw [HR.out]
      exact ⟨a1, d1, rfl, below_put B2.out.bel (by omega) _ _ _ _ _, HRR.out⟩
    · have iy : (((Num.digs 10 y.m).length : Int) == 0) = false := by rw [beq_eq_false_iff_ne]; intro e; exact y0 (zy.out.1 (by omega))
      have hdx : 1 ≤ (Num.digs 10 x.m).length := Num.length_pos (by decide) x0
      have hdy : 1 ≤ (Num.digs 10 y.m).length := Num.length_pos (by decide) y0
      have hXe : x.e ≤ hX := by rw [hhX.out]; unfold headD; omega
      have hYe : y.e ≤ hY := by rw [hhY.out]; unfold headD; omega
      have CL := ref2_low x.e y.e
      obtain ⟨k, hk⟩ : ∃ k, k = min x.e y.e := ⟨_, rfl⟩
      have hr1 := hid (show r = if 2000 < hX - k ∨ 2000 < hY - k then (zeroD, false) else (sumD x y, true) by rw [hr.out]; unfold sumS; rw [if_neg x0, if_neg y0, ← hhX.out, ← hhY.out, ← hk])
      have hkb : -10400 ≤ k ∧ k ≤ 10001 ∧ k ≤ x.e ∧ k ≤ y.e := by omega
      rw [← hk] at CL
      replace CL := hid CL
      replace hk := hid hk
      clear x0 y0 hr hdx hdy
      go_wp2_with fail
      refine (CL.out _).mono ?_
      rintro e1 w1 ⟨rfl, rfl⟩
      clear CL
      by_cases far : 2000 < hX - k ∨ 2000 < hY - k
      · have HR := hid (show r = (zeroD, false) by rw [hr1.out, if_pos far])
        have h3 : 2000 < hX - k ∨ (¬ 2000 < hX - k ∧ 2000 < hY - k) := by omega
        clear far hr1
        rcases h3 with h3 | ⟨h3, h4⟩
        · go_wp2_with fail
          refine (CX.out _).mono ?_
          rintro e2 w2 ⟨rfl, hb2⟩
          have HB2 := hid (below_trans B2.out.bel hb2)
          have hq := HRC.out.below hb2
          clear hb2 p0 p1 p2 f0 f1 f2 k0 k1 k2 q0 q1 q2
          obtain ⟨_, _, _, p0, p1, p2⟩ := hq.cells.get
          have f0 := hq.cells.frozen 0
          have f1 := hq.cells.frozen 1
          have f2 := hq.cells.frozen 2
          clear hq
          go_wp2
          refine bodyPost_ret (v := .tuple #[refV zeroD none 0, .bool false]) (by simp [results, Tryz.results64, go_sem, p0, p1, p2, refV, zeroD]; rfl) rfl ?_
          rw [HR.out]
          exact ⟨none, 0, rfl, below_put HB2.out (by omega) false none 0 0 0, rd_zero _⟩
        · go_wp2_with fail
          refine (CX.out _).mono ?_
          rintro e2 w2 ⟨rfl, hb2⟩
          replace B2 := hid (B2.out.next hb2)
          replace HRC := hid (HRC.out.below hb2)
          clear hb2 p0 p1 p2 f0 f1 f2 k0 k1 k2 q0 q1 q2
          obtain ⟨⟨q0, q1, q2⟩, _⟩ := blk_three B2.out.h2
          go_wp2_with fail
          refine (CY.out _).mono ?_
          rintro e3 w3 ⟨rfl, hb3⟩
          have HB2 := hid (below_trans B2.out.bel hb3)
          have hq := HRC.out.below hb3
          clear hb3 q0 q1 q2
          obtain ⟨_, _, _, p0, p1, p2⟩ := hq.cells.get
          have f0 := hq.cells.frozen 0
          have f1 := hq.cells.frozen 1
          have f2 := hq.cells.frozen 2
          clear hq
          go_wp2
          refine bodyPost_ret (v := .tuple #[refV zeroD none 0, .bool false]) (by simp [results, Tryz.results64, go_sem, p0, p1, p2, refV, zeroD]; rfl) rfl ?_
          rw [HR.out]
          exact ⟨none, 0, rfl, below_put HB2.out (by omega) false none 0 0 0, rd_zero _⟩
      · have hf1 : ¬ 2000 < hX - k := by omega
        have hf2 : ¬ 2000 < hY - k := by omega
        obtain ⟨p, hp⟩ : ∃ p, p = (x.e - k).toNat := ⟨_, rfl⟩
        obtain ⟨q, hq⟩ : ∃ q, q = (y.e - k).toNat := ⟨_, rfl⟩
        obtain ⟨X, hXX⟩ : ∃ X, X = x.m * 10 ^ p := ⟨_, rfl⟩
        obtain ⟨Y, hYY⟩ : ∃ Y, Y = y.m * 10 ^ q := ⟨_, rfl⟩
        have hrs := hid (show r = (if x.neg = y.neg then plainD x.neg (X + Y) k else if X < Y then plainD y.neg (Y - X) k else plainD x.neg (X - Y) k, true) by
          rw [hr1.out, if_neg far, hXX, hYY, hp, hq, hk.out]; rfl)
        have hXd : (Num.digs 10 X).length ≤ 2400 := by rw [hXX]; exact digs_shift_le BX.out.1 (by omega)
        have hYd : (Num.digs 10 Y).length ≤ 2400 := by rw [hYY]; exact digs_shift_le BY.out.1 (by omega)
        have C1 := fun W (b : RdD W x a1 d1) => ref2_at x a1 d1 k p W b (by have := BX.out; omega) (by omega) (by omega)
        have C2 := fun W (b : RdD W y a2 d2) => ref2_at y a2 d2 k q W b (by have := BY.out; omega) (by omega) (by omega)
        rw [← hXX] at C1
        rw [← hYY] at C2
        unfold refV at C1 C2
        replace C1 := hid C1
        replace C2 := hid C2
        have HXD := hid hXd
        have HYD := hid hYd
        clear far hr1 hp hq hXX hYY hXd hYd hk
        go_wp2_with fail
        refine (CX.out _).mono ?_
        rintro e2 w2 ⟨rfl, hb2⟩
        replace B2 := hid (B2.out.next hb2)
        replace HRC := hid (HRC.out.below hb2)
        clear hb2 p0 p1 p2 f0 f1 f2 k0 k1 k2 q0 q1 q2
        obtain ⟨⟨q0, q1, q2⟩, _⟩ := blk_three B2.out.h2
        go_wp2_with fail
        refine (CY.out _).mono ?_
        rintro e3 w3 ⟨rfl, hb3⟩
        replace B2 := hid (B2.out.next hb3)
        replace HRC := hid (HRC.out.below hb3)
        clear hb3 q0 q1 q2
        obtain ⟨⟨k0, k1, k2⟩, _⟩ := blk_three B2.out.h1
        go_wp2_with fail
        refine (C1.out _ B2.out.r1).mono ?_
        rintro e4 w4 ⟨b4, c4, rfl, hb4, hu4, _⟩
        replace B2 := hid (B2.out.next hb4)
        replace HRC := hid (HRC.out.below hb4)
        have HU4 := hid hu4
        clear hb4 hu4 k0 k1 k2
        obtain ⟨⟨q0, q1, q2⟩, _⟩ := blk_three B2.out.h2
        go_wp2_with fail
        refine (C2.out _ B2.out.r2).mono ?_
        rintro e5 w5 ⟨b5, c5, rfl, hb5, hu5, _⟩
        replace B2 := hid (B2.out.next hb5)
        replace HRC := hid (HRC.out.below hb5)
        replace HU4 := hid (HU4.out.below hb5)
        have HU5 := hid hu5
        clear hb5 hu5 q0 q1 q2 CX CY C1 C2
        obtain ⟨⟨k0, k1, k2⟩, _⟩ := blk_three B2.out.h1
        obtain ⟨⟨q0, q1, q2⟩, _⟩ := blk_three B2.out.h2
        have f0 := HRC.out.cells.frozen 0
        have f1 := HRC.out.cells.frozen 1
        have f2 := HRC.out.cells.frozen 2
        obtain ⟨wl, rfl⟩ : ∃ wl : World, wl = w5 := ⟨_, rfl⟩
        have CMg := fun (g : Bool) (P : Nat) (hP : (Num.digs 10 P).length ≤ 2401) W b c (hu : U8 W b (Num.digs 10 P)) (h1 : (Num.digs 10 P).length ≤ c) (h2 : c ≤ 9223372036854775807) => ref2_Make g b c P k W hu h1 h2 (by omega) (by omega)
        replace CMg := hid CMg
        by_cases hs : x.neg = y.neg
        · have hbe : (x.neg == y.neg) = true := by simpa using hs
          obtain ⟨gz, hgz⟩ : ∃ g, g = x.neg := ⟨_, rfl⟩
          have CA := fun W (hW : But (w.heap.size + 1 + 1) wl W) => ref1_Add b4 b5 c4 c5 (Num.digs 10 X) (Num.digs 10 Y) W (hW.u8 HU4.out HRC.out) (hW.u8 HU5.out HRC.out) (by have := HXD.out; omega) (by have := HYD.out; omega)
          simp only [Num.val_digs (b := 10) (by decide)] at CA
          have CM := CMg.out gz (X + Y) (Nat.le_trans (digs_add_le HXD.out HYD.out) (by omega))
          obtain ⟨d, hd⟩ : ∃ d, d = plainD gz (X + Y) k := ⟨_, rfl⟩
          have HR := hid (show r = (d, true) by rw [hrs.out, if_pos hs, hd, hgz])
          rw [← hd] at CM
          obtain ⟨P, hP⟩ : ∃ P, P = X + Y := ⟨_, rfl⟩
          rw [← hP] at CA CM
          rw [← hgz] at k0 hbe
          replace CA := hid CA
          replace CM := hid CM
          clear hs hgz hd hP CMg
          go_wp2_with fail
          go_region_held3 (fun w' => w'.cell? ⟨w.heap.size, 0, none⟩ = some (.bool gz) ∧ w'.frozen? ⟨w.heap.size + 1 + 1, 0, none⟩ = false ∧ w'.frozen? ⟨w.heap.size + 1 + 1, 1, none⟩ = false ∧ w'.frozen? ⟨w.heap.size + 1 + 1, 2, none⟩ = false ∧ Rec w' (w.heap.size + 1 + 1) ∧ But (w.heap.size + 1 + 1) wl w') (first | (exact ⟨k0, f0, f1, f2, HRC.out, (But.refl _ _).drew⟩) | (exact keepV (by assumption) (by assumption)) | (exact keepVs (by assumption) _ _ _ _ _ (by omega) _ rfl)) ((first | (go_at_call 99; (with_reducible refine (CA.out _ ?_).mono ?_); (simp only [*]); rintro e1 w1 ⟨am, cm, rfl, hb1, hu1, hc1, hc2, _⟩) | (go_at_call 39; (with_reducible refine (CM.out _ _ _ (by assumption) (by assumption) (by assumption)).mono ?_); rintro e2 w2 ⟨ap, cp, rfl, hb2, hr2⟩; have hc3 : Rec w1 (w.heap.size + 1 + 1) := (by simp only [*]); have hq := hc3.below hb2; obtain ⟨_, _, _, s0, s1, s2⟩ := hq.cells.get; unfold refV)))
          rename_i hHeld
          obtain ⟨_, _, _, _, _, hB⟩ := hHeld
          have HB := hid (hB.below B2.out.bel (by omega) B2.out.bel.size)
          have HRR := hid (hr2.put hq d.neg ap (Num.digs 10 d.m).length cp d.e)
          clear hB hb1 hb2 hr2 hu1 hc1 hc2 hc3 hq
          go_wp2_with fail
          refine bodyPost_ret (v := .tuple #[refV d ap cp, .bool true]) (by simp [results, Tryz.results64, go_sem, s0, s1, s2, refV]) rfl ?_
          rw [HR.out]
          exact ⟨ap, cp, rfl, HB.out, HRR.out⟩
        · have hbe : (x.neg == y.neg) = false := by simpa using hs
          have CC := ref1_Cmp b4 b5 c4 c5 X Y wl HU4.out HU5.out (by have := HXD.out; omega) (by have := HYD.out; omega)
          by_cases hlt : X < Y
          · rw [cmpN_lt hlt] at CC
            replace CC := hid CC
            have HLT := hid hlt
            have hrr := hid (show r = (plainD y.neg (Y - X) k, true) by rw [hrs.out, if_neg hs, if_pos hlt])
            clear hs hlt
            go_wp2_with fail
            refine (CC.out).mono ?_
            rintro e6 w6 ⟨rfl, qq, rfl⟩
            obtain ⟨wm, hwm⟩ : ∃ W, W = wl.drewN qq := ⟨_, rfl⟩
            rw [← hwm]
            have hbm : Below wl.heap.size wl wm := by rw [hwm]; exact below_drewN (Below.refl _ _) qq
            replace B2 := hid (B2.out.next hbm)
            replace HRC := hid (HRC.out.below hbm)
            replace HU4 := hid (HU4.out.below hbm)
            replace HU5 := hid (HU5.out.below hbm)
            clear hwm hbm k0 k1 k2 q0 q1 q2 f0 f1 f2 CC
            obtain ⟨⟨k0, k1, k2⟩, _⟩ := blk_three B2.out.h1
            obtain ⟨⟨q0, q1, q2⟩, _⟩ := blk_three B2.out.h2
            have f0 := HRC.out.cells.frozen 0
            have f1 := HRC.out.cells.frozen 1
            have f2 := HRC.out.cells.frozen 2
            obtain ⟨wl, rfl⟩ : ∃ wl : World, wl = wm := ⟨_, rfl⟩
            have CA := fun W (hW : But (w.heap.size + 1 + 1) wl W) => ref1_Sub b5 b4 c5 c4 Y X W (hW.u8 HU5.out HRC.out) (hW.u8 HU4.out HRC.out) (by have := HXD.out; have := HYD.out; omega) (Nat.le_of_lt HLT.out)
            obtain ⟨gz, hgz⟩ : ∃ g, g = y.neg := ⟨_, rfl⟩
            have CM := CMg.out gz (Y - X) (Nat.le_trans (digs_sub_le (by first | exact HXD.out | exact HYD.out)) (by omega))
            obtain ⟨d, hd⟩ : ∃ d, d = plainD gz (Y - X) k := ⟨_, rfl⟩
            have HR := hid (show r = (d, true) by rw [hrr.out, hd, hgz])
            rw [← hd] at CM
            obtain ⟨P, hP⟩ : ∃ P, P = Y - X := ⟨_, rfl⟩
            rw [← hP] at CA CM
            rw [← hgz] at q0
            replace CA := hid CA
            replace CM := hid CM
            clear hgz hd hP CMg hbe
            go_wp2_with fail
            go_region_held3 (fun w' => w'.cell? ⟨w.heap.size + 1, 0, none⟩ = some (.bool gz) ∧ w'.frozen? ⟨w.heap.size + 1 + 1, 0, none⟩ = false ∧ w'.frozen? ⟨w.heap.size + 1 + 1, 1, none⟩ = false ∧ w'.frozen? ⟨w.heap.size + 1 + 1, 2, none⟩ = false ∧ Rec w' (w.heap.size + 1 + 1) ∧ But (w.heap.size + 1 + 1) wl w') (first | (exact ⟨q0, f0, f1, f2, HRC.out, (But.refl _ _).drew⟩) | (exact keepV (by assumption) (by assumption)) | (exact keepVs (by assumption) _ _ _ _ _ (by omega) _ rfl)) ((first | (go_at_call 101; (with_reducible refine (CA.out _ ?_).mono ?_); (simp only [*]); rintro e1 w1 ⟨am, cm, rfl, hb1, hu1, hc1, hc2, _⟩) | (go_at_call 39; (with_reducible refine (CM.out _ _ _ (by assumption) (by assumption) (by assumption)).mono ?_); rintro e2 w2 ⟨ap, cp, rfl, hb2, hr2⟩; have hc3 : Rec w1 (w.heap.size + 1 + 1) := (by simp only [*]); have hq := hc3.below hb2; obtain ⟨_, _, _, s0, s1, s2⟩ := hq.cells.get; unfold refV)))
            rename_i hHeld
            obtain ⟨_, _, _, _, _, hB⟩ := hHeld
            have HB := hid (hB.below B2.out.bel (by omega) B2.out.bel.size)
            have HRR := hid (hr2.put hq d.neg ap (Num.digs 10 d.m).length cp d.e)
            clear hB hb1 hb2 hr2 hu1 hc1 hc2 hc3 hq
            go_wp2_with fail
            refine bodyPost_ret (v := .tuple #[refV d ap cp, .bool true]) (by simp [results, Tryz.results64, go_sem, s0, s1, s2, refV]) rfl ?_
            rw [HR.out]
            exact ⟨ap, cp, rfl, HB.out, HRR.out⟩
          · have hc0 : 0 ≤ cmpN X Y := by unfold cmpN; rw [if_neg hlt]; split <;> omega
            obtain ⟨cc, hcc⟩ : ∃ c, c = cmpN X Y := ⟨_, rfl⟩
            rw [← hcc] at CC hc0
            replace CC := hid CC
            have HLT := hid hlt
            have hrr := hid (show r = (plainD x.neg (X - Y) k, true) by rw [hrs.out, if_neg hs, if_neg hlt])
            clear hs hlt hcc
            go_wp2_with fail
            refine (CC.out).mono ?_
            rintro e6 w6 ⟨rfl, qq, rfl⟩
            obtain ⟨wm, hwm⟩ : ∃ W, W = wl.drewN qq := ⟨_, rfl⟩
            rw [← hwm]
            have hbm : Below wl.heap.size wl wm := by rw [hwm]; exact below_drewN (Below.refl _ _) qq
            replace B2 := hid (B2.out.next hbm)
            replace HRC := hid (HRC.out.below hbm)
            replace HU4 := hid (HU4.out.below hbm)
            replace HU5 := hid (HU5.out.below hbm)
            clear hwm hbm k0 k1 k2 q0 q1 q2 f0 f1 f2 CC
            obtain ⟨⟨k0, k1, k2⟩, _⟩ := blk_three B2.out.h1
            obtain ⟨⟨q0, q1, q2⟩, _⟩ := blk_three B2.out.h2
            have f0 := HRC.out.cells.frozen 0
            have f1 := HRC.out.cells.frozen 1
            have f2 := HRC.out.cells.frozen 2
            obtain ⟨wl, rfl⟩ : ∃ wl : World, wl = wm := ⟨_, rfl⟩
            have CA := fun W (hW : But (w.heap.size + 1 + 1) wl W) => ref1_Sub b4 b5 c4 c5 X Y W (hW.u8 HU4.out HRC.out) (hW.u8 HU5.out HRC.out) (by have := HXD.out; have := HYD.out; omega) (Nat.le_of_not_lt HLT.out)
            obtain ⟨gz, hgz⟩ : ∃ g, g = x.neg := ⟨_, rfl⟩
            have CM := CMg.out gz (X - Y) (Nat.le_trans (digs_sub_le (by first | exact HXD.out | exact HYD.out)) (by omega))
            obtain ⟨d, hd⟩ : ∃ d, d = plainD gz (X - Y) k := ⟨_, rfl⟩
            have HR := hid (show r = (d, true) by rw [hrr.out, hd, hgz])
            rw [← hd] at CM
            obtain ⟨P, hP⟩ : ∃ P, P = X - Y := ⟨_, rfl⟩
            rw [← hP] at CA CM
            rw [← hgz] at k0
            replace CA := hid CA
            replace CM := hid CM
            clear hgz hd hP CMg hbe
            go_wp2_with fail
            go_region_held3 (fun w' => w'.cell? ⟨w.heap.size, 0, none⟩ = some (.bool gz) ∧ w'.frozen? ⟨w.heap.size + 1 + 1, 0, none⟩ = false ∧ w'.frozen? ⟨w.heap.size + 1 + 1, 1, none⟩ = false ∧ w'.frozen? ⟨w.heap.size + 1 + 1, 2, none⟩ = false ∧ Rec w' (w.heap.size + 1 + 1) ∧ But (w.heap.size + 1 + 1) wl w') (first | (exact ⟨k0, f0, f1, f2, HRC.out, (But.refl _ _).drew⟩) | (exact keepV (by assumption) (by assumption)) | (exact keepVs (by assumption) _ _ _ _ _ (by omega) _ rfl)) ((first | (go_at_call 101; (with_reducible refine (CA.out _ ?_).mono ?_); (simp only [*]); rintro e1 w1 ⟨am, cm, rfl, hb1, hu1, hc1, hc2, _⟩) | (go_at_call 39; (with_reducible refine (CM.out _ _ _ (by assumption) (by assumption) (by assumption)).mono ?_); rintro e2 w2 ⟨ap, cp, rfl, hb2, hr2⟩; have hc3 : Rec w1 (w.heap.size + 1 + 1) := (by simp only [*]); have hq := hc3.below hb2; obtain ⟨_, _, _, s0, s1, s2⟩ := hq.cells.get; unfold refV)))
            rename_i hHeld
            obtain ⟨_, _, _, _, _, hB⟩ := hHeld
            have HB := hid (hB.below B2.out.bel (by omega) B2.out.bel.size)
            have HRR := hid (hr2.put hq d.neg ap (Num.digs 10 d.m).length cp d.e)
            clear hB hb1 hb2 hr2 hu1 hc1 hc2 hc3 hq
            go_wp2_with fail
            refine bodyPost_ret (v := .tuple #[refV d ap cp, .bool true]) (by simp [results, Tryz.results64, go_sem, s0, s1, s2, refV]) rfl ?_
            rw [HR.out]
            exact ⟨ap, cp, rfl, HB.out, HRR.out⟩

/-- What is told of the sum. -/
theorem sum_told {x y : D} (px : IsPlain x ∧ fitsB x = true) (py : IsPlain y ∧ fitsB y = true) : (if (sumS x y).2 = true then tellR (sumS x y).1 else (zeroD, 3)) = addR x y := by
  have a := lowE px
  have b := lowE py
  unfold sumS addR
  by_cases x0 : x.m = 0
  · rw [if_pos x0, sumD_zero_left (by omega) (by omega) py.1 x0]; rfl
  · rw [if_neg x0]
    by_cases y0 : y.m = 0
    · rw [if_pos y0, sumD_zero_right (by omega) (by omega) px.1 y0]; rfl
    · rw [if_neg y0]
      by_cases far : 2000 < headD x - min x.e y.e ∨ 2000 < headD y - min x.e y.e
      · rw [if_pos far]
        have := far_two x0 y0 px.1.2 py.1.2 (plain_bounds px.1 px.2).1 (plain_bounds py.1 py.2).1 (by omega) (by omega) (by omega)
        rw [show tellR (sumD x y) = (zeroD, 3) from tell_no (by rw [this]; simp)]; rfl
      · rw [if_neg far]; rfl
theorem sumS_bounds {x y : D} (px : IsPlain x ∧ fitsB x = true) (py : IsPlain y ∧ fitsB y = true) : (Num.digs 10 (sumS x y).1.m).length ≤ 2500 ∧ -3000000 ≤ (sumS x y).1.e ∧ (sumS x y).1.e ≤ 3000000 := by
  have a := plain_bounds px.1 px.2
  have b := plain_bounds py.1 py.2
  unfold sumS
  by_cases x0 : x.m = 0
  · rw [if_pos x0]; simp only; omega
  · rw [if_neg x0]
    by_cases y0 : y.m = 0
    · rw [if_pos y0]; simp only; omega
    · rw [if_neg y0]
      by_cases far : 2000 < headD x - min x.e y.e ∨ 2000 < headD y - min x.e y.e
      · rw [if_pos far]; simp only; exact ⟨by decide, by decide, by decide⟩
      · rw [if_neg far]
        simp only
        have hdx : 1 ≤ (Num.digs 10 x.m).length := Num.length_pos (by decide) x0
        have hdy : 1 ≤ (Num.digs 10 y.m).length := Num.length_pos (by decide) y0
        have hX : x.e ≤ headD x := by unfold headD; omega
        have hY : y.e ≤ headD y := by unfold headD; omega
        have e1 : (Num.digs 10 (x.m * 10 ^ (x.e - min x.e y.e).toNat)).length ≤ 2400 := digs_shift_le a.1 (by omega)
        have e2 : (Num.digs 10 (y.m * 10 ^ (y.e - min x.e y.e).toNat)).length ≤ 2400 := digs_shift_le b.1 (by omega)
        have key : ∀ g P, (Num.digs 10 P).length ≤ 2401 → (Num.digs 10 (plainD g P (min x.e y.e)).m).length ≤ 2500 ∧ -3000000 ≤ (plainD g P (min x.e y.e)).e ∧ (plainD g P (min x.e y.e)).e ≤ 3000000 := fun g P hP => by
          have h1 := plain_e g P (min x.e y.e) (by omega) (by omega)
          have h2 := Nat.le_trans (Num.digs_length_mono (b := 10) (by decide) (plain_m_le g P (min x.e y.e))) hP
          omega
        unfold sumD
        split
        · exact key _ _ (digs_add_le e1 e2)
        · split
          · exact key _ _ (Nat.le_trans (digs_sub_le e2) (by omega))
          · exact key _ _ (Nat.le_trans (digs_sub_le e1) (by omega))

set_option maxRecDepth 100000 in
set_option maxHeartbeats 3200000 in
theorem ref_add_walk (g : Bool) (a : Option Addr) (n cap : Nat) (e : Int) (g2 : Bool) (a2 : Option Addr) (n2 cap2 : Nat) (e2 : Int) (w : World) (x y : D) (er : Nat)
    (CT : ∀ W, Below w.heap.size w W → Calls Tryz.prog 57 #[.agg #[.bool g, .slice a n cap, .int .i64 e], .agg #[.bool g2, .slice a2 n2 cap2, .int .i64 e2]] W (OutRDD W x y er))
    (hp : er = 0 → (IsPlain x ∧ fitsB x = true) ∧ (IsPlain y ∧ fitsB y = true)) :
    Calls Tryz.prog 29 #[.agg #[.bool g, .slice a n cap, .int .i64 e], .agg #[.bool g2, .slice a2 n2 cap2, .int .i64 e2]] w (OutDE w (binR er (addR x y)).1 (binR er (addR x y)).2) := by
  obtain ⟨r, hr⟩ : ∃ r, r = binR er (addR x y) := ⟨_, rfl⟩
  rw [← hr]
  unfold OutRDD refV at CT
  replace hr := hid hr
  replace CT := hid CT
  replace hp := hid hp
  go_enter Tryz.func29, Tryz.ntmps29
  go_upto_region 1 with fail
  go_cut [6, 7, 8] from 11 (fun v6 v7 v8 w' => ∃ N M b1 c1 b2 c2, v6 = .pointer (some ⟨N, 0, none⟩) ∧ v7 = .pointer (some ⟨M, 0, none⟩) ∧ v8 = .int .i64 er ∧ HasR w' N x b1 c1 ∧ HasR w' M y b2 c2 ∧ RdD w' x b1 c1 ∧ RdD w' y b2 c2 ∧ Rec w' (w.heap.size + 1 + 1) ∧ Below w.heap.size w w')
  case first =>
    go_wp2_with fail
    refine (CT.out _ ((((Below.refl _ _).alloc (Nat.le_refl _) _).alloc (by simp) _).alloc (by simp; omega) _)).mono ?_
    rintro e1 w1 ⟨b1, c1, b2, c2, rfl, hb1, hr1, hr2⟩
    have HB1 := hid (below_alloc (below_alloc (below_alloc hb1)))
    have R3 := hid (show Rec w1 (w.heap.size + 1 + 1) from Rec.below ⟨_, _, _, _, _, _, by simpa using blk_new2 (w.alloc _) _ _⟩ hb1)
    have HI1 := hid hr1
    have HI2 := hid hr2
    clear hb1 hr1 hr2 CT
    go_wp2_with fail
    go_meet
    case rel =>
      have k1 := (Below.refl w1.heap.size w1).alloc (Nat.le_refl _) (.cells #[.bool x.neg, .slice b1 (Num.digs 10 x.m).length c1, .int .i64 x.e] 66)
      have k2 := k1.alloc (by simp) (.cells #[.bool y.neg, .slice b2 (Num.digs 10 y.m).length c2, .int .i64 y.e] 66)
      have s2 := HasR.new (w1.alloc (.cells #[.bool x.neg, .slice b1 (Num.digs 10 x.m).length c1, .int .i64 x.e] 66)) y b2 c2 66
      have s1 := HasR.new w1 x b1 c1 66
      exact ⟨w1.heap.size, w1.heap.size + 1, b1, c1, b2, c2, rfl, rfl, rfl, s1.below ((Below.refl _ _).alloc (Nat.le_refl _) _), by simpa using s2, HI1.out.below k2, HI2.out.below k2, R3.out.below k2, below_trans HB1.out k2⟩
  case rest =>
    obtain ⟨N, M, b1, c1, b2, c2, rfl, rfl, rfl, h1, h2, h3, h4, h5, h6⟩ := hcut
    obtain ⟨⟨k0, k1, k2⟩, _⟩ := h1.get
    obtain ⟨⟨q0, q1, q2⟩, _⟩ := h2.get
    have z1 := h1.lt
    have z2 := h2.lt
    obtain ⟨r0, r1, r2, p0, p1, p2⟩ := h5.cells.get
    have f0 := h5.cells.frozen 0
    have f1 := h5.cells.frozen 1
    have f2 := h5.cells.frozen 2
    have HR1 := hid h3
    have HR2 := hid h4
    have HRC := hid h5
    have HB := hid h6
    clear h1 h2 h3 h4 h5 h6 CT
    by_cases h0 : er = 0
    · obtain ⟨px, py⟩ := hp.out h0
      have hne : ((er : Int) != 0) = false := by rw [bne_eq_false_iff_eq]; omega
      have hr1 := hid (show r = addR x y by rw [hr.out]; unfold binR; rw [if_pos h0])
      have CS := fun W (v1 : RdD W x b1 c1) (v2 : RdD W y b2 c2) => ref2_Sum x y b1 c1 b2 c2 W v1 v2 (plain_bounds px.1 px.2) (plain_bounds py.1 py.2)
      have hs := sum_told px py
      have hsb := sumS_bounds px py
      obtain ⟨s, hS⟩ : ∃ s, s = sumS x y := ⟨_, rfl⟩
      rw [← hS] at CS hs hsb
      obtain ⟨s, ok⟩ := s
      simp only at hs hsb
      unfold OutS refV at CS
      simp only at CS
      replace CS := hid CS
      replace hs := hid hs
      replace hsb := hid hsb
      clear h0 hr hp px py hS
      go_upto_region 4 with fail
      go_cut [9, 10] from 11 (fun v9 v10 w' => ∃ K b c, v9 = .pointer (some ⟨K, 0, none⟩) ∧ v10 = .bool ok ∧ HasR w' K s b c ∧ RdD w' s b c ∧ Below wc.heap.size wc w')
      case first =>
        go_wp2_with fail
        refine (CS.out _ HR1.out HR2.out).mono ?_
        rintro e1 w1 ⟨b, c, rfl, hb, hrd⟩
        have HB1 := hid hb
        have HI := hid hrd
        clear hb hrd CS
        go_wp2_with fail
        go_meet
        case rel =>
          have k1 := (Below.refl w1.heap.size w1).alloc (Nat.le_refl _) (.cells #[.bool s.neg, .slice b (Num.digs 10 s.m).length c, .int .i64 s.e] 66)
          exact ⟨w1.heap.size, b, c, rfl, rfl, HasR.new _ _ _ _ _, HI.out.below k1, below_trans HB1.out k1⟩
      case rest =>
        obtain ⟨K, b, c, rfl, rfl, g1, g2, g3⟩ := hcut
        replace HRC := hid (HRC.out.below g3)
        replace HB := hid (below_trans HB.out g3)
        clear k0 k1 k2 q0 q1 q2 z1 z2 p0 p1 p2 f0 f1 f2 HR1 HR2 CS g3
        obtain ⟨⟨k0, k1, k2⟩, _⟩ := g1.get
        have z1 := g1.lt
        have HRD := hid g2
        have hlt := HRC.out.lt
        clear g1 g2
        cases ok with
        | true =>
          have CE := fun W (hu : U8 W b (Num.digs 10 s.m)) => ref2_Tell s b c W hu (by have := hsb.out; omega) (by have := hsb.out; omega)
          have hrt : r = tellR s := by rw [hr1.out, ← hs.out, if_pos rfl]
          obtain ⟨t, ht⟩ : ∃ t, t = tellR s := ⟨_, rfl⟩
          rw [← ht] at CE hrt
          unfold OutDE refV decV at CE
          replace CE := hid CE
          have HRT := hid hrt
          clear hrt ht hr1
          go_wp2_with fail
          refine (CE.out _ HRD.out.1).mono ?_
          rintro e2 w2 ⟨a3, c3, rfl, ho2⟩
          have HB2 := hid (below_trans HB.out ho2.1)
          have HO2 := hid ho2.2
          have hr2 := HRC.out.below ho2.1
          have hltw : w.heap.size ≤ wc.heap.size := HB.out.size
          clear ho2 k0 k1 k2 CE
          obtain ⟨s0, s1, s2, p0, p1, p2⟩ := hr2.cells.get
          have f0 := hr2.cells.frozen 0
          have f1 := hr2.cells.frozen 1
          have f2 := hr2.cells.frozen 2
          clear hr2
          go_wp2
          refine bodyPost_ret (v := .tuple #[decV t.1 a3 c3, .int .i64 t.2]) (by simp [results, Tryz.results29, go_sem, p0, p1, p2, decV]) rfl ?_
          rw [HRT.out]
          exact ⟨a3, c3, rfl, below_put HB2.out (by omega) _ _ _ _ _, owns_mono (owns_put HO2.out hlt _ _ _ _ _) hltw⟩
        | false =>
          have HRT := hid (show r = (zeroD, 3) by rw [hr1.out, ← hs.out, if_neg (by simp)])
          obtain ⟨s0, s1, s2, p0, p1, p2⟩ := HRC.out.cells.get
          have f0 := HRC.out.cells.frozen 0
          have f1 := HRC.out.cells.frozen 1
          have f2 := HRC.out.cells.frozen 2
          clear hr1
          go_wp2
          refine bodyPost_ret (v := .tuple #[decV zeroD none 0, .int .i64 3]) (by simp [results, Tryz.results29, go_sem, p0, p1, p2, decV, zeroD]; rfl) rfl ?_
          rw [HRT.out]
          exact ⟨none, 0, rfl, below_put HB.out (by omega) false none 0 0 0, World.ownsRow_nil _ _ _ _⟩
    · have hne : ((er : Int) != 0) = true := by rw [bne_iff_ne]; omega
      have HR := hid (show r = (zeroD, er) by rw [hr.out]; unfold binR; rw [if_neg h0])
      clear h0 hp hr
      go_wp2
      refine bodyPost_ret (v := .tuple #[decV zeroD none 0, .int .i64 er]) (by simp [results, Tryz.results29, go_sem, p0, p1, p2, decV, zeroD]; rfl) rfl ?_
      rw [HR.out]
      exact ⟨none, 0, rfl, below_put HB.out (by omega) false none 0 0 0, World.ownsRow_nil _ _ _ _⟩

set_option maxRecDepth 100000 in
set_option maxHeartbeats 6400000 in
theorem ref_mul_walk (g : Bool) (a : Option Addr) (n cap : Nat) (e : Int) (g2 : Bool) (a2 : Option Addr) (n2 cap2 : Nat) (e2 : Int) (w : World) (x y : D) (er : Nat)
    (CT : ∀ W, Below w.heap.size w W → Calls Tryz.prog 57 #[.agg #[.bool g, .slice a n cap, .int .i64 e], .agg #[.bool g2, .slice a2 n2 cap2, .int .i64 e2]] W (OutRDD W x y er))
    (hp : er = 0 → (IsPlain x ∧ fitsB x = true) ∧ (IsPlain y ∧ fitsB y = true)) :
    Calls Tryz.prog 31 #[.agg #[.bool g, .slice a n cap, .int .i64 e], .agg #[.bool g2, .slice a2 n2 cap2, .int .i64 e2]] w (OutDE w (binR er (mulR x y)).1 (binR er (mulR x y)).2) := by
  obtain ⟨r, hr⟩ : ∃ r, r = binR er (mulR x y) := ⟨_, rfl⟩
  rw [← hr]
  unfold OutRDD refV at CT
  replace hr := hid hr
  replace CT := hid CT
  replace hp := hid hp
  go_enter Tryz.func31, Tryz.ntmps31
  go_upto_region 1 with fail
  go_cut [6, 7, 8] from 9 (fun v6 v7 v8 w' => ∃ N M b1 c1 b2 c2, v6 = .pointer (some ⟨N, 0, none⟩) ∧ v7 = .pointer (some ⟨M, 0, none⟩) ∧ v8 = .int .i64 er ∧ w.heap.size + 1 + 1 < N ∧ w.heap.size + 1 + 1 < M ∧ HasR w' N x b1 c1 ∧ HasR w' M y b2 c2 ∧ RdD w' x b1 c1 ∧ RdD w' y b2 c2 ∧ Rec w' (w.heap.size + 1 + 1) ∧ Below w.heap.size w w')
  case first =>
    go_wp2_with fail
    refine (CT.out _ ((((Below.refl _ _).alloc (Nat.le_refl _) _).alloc (by simp) _).alloc (by simp; omega) _)).mono ?_
    rintro e1 w1 ⟨b1, c1, b2, c2, rfl, hb1, hr1, hr2⟩
    have HB1 := hid (below_alloc (below_alloc (below_alloc hb1)))
    have hz1 : w.heap.size + 1 + 1 < w1.heap.size := by have := hb1.size; simp at this; omega
    have R3 := hid (show Rec w1 (w.heap.size + 1 + 1) from Rec.below ⟨_, _, _, _, _, _, by simpa using blk_new2 (w.alloc _) _ _⟩ hb1)
    have HI1 := hid hr1
    have HI2 := hid hr2
    clear hb1 hr1 hr2 CT
    go_wp2_with fail
    go_meet
    case rel =>
      have k1 := (Below.refl w1.heap.size w1).alloc (Nat.le_refl _) (.cells #[.bool x.neg, .slice b1 (Num.digs 10 x.m).length c1, .int .i64 x.e] 66)
      have k2 := k1.alloc (by simp) (.cells #[.bool y.neg, .slice b2 (Num.digs 10 y.m).length c2, .int .i64 y.e] 66)
      have s2 := HasR.new (w1.alloc (.cells #[.bool x.neg, .slice b1 (Num.digs 10 x.m).length c1, .int .i64 x.e] 66)) y b2 c2 66
      have s1 := HasR.new w1 x b1 c1 66
      exact ⟨w1.heap.size, w1.heap.size + 1, b1, c1, b2, c2, rfl, rfl, rfl, hz1, by omega, s1.below ((Below.refl _ _).alloc (Nat.le_refl _) _), by simpa using s2, HI1.out.below k2, HI2.out.below k2, R3.out.below k2, below_trans HB1.out k2⟩
  case rest =>
    obtain ⟨N, M, b1, c1, b2, c2, rfl, rfl, rfl, n1, n2', h1, h2, h3, h4, h5, h6⟩ := hcut
    obtain ⟨⟨k0, k1, k2⟩, _⟩ := h1.get
    obtain ⟨⟨q0, q1, q2⟩, _⟩ := h2.get
    have z1 := h1.lt
    have z2 := h2.lt
    obtain ⟨r0, r1, r2, p0, p1, p2⟩ := h5.cells.get
    have f0 := h5.cells.frozen 0
    have f1 := h5.cells.frozen 1
    have f2 := h5.cells.frozen 2
    have HN := hid (show N ≠ w.heap.size + 1 + 1 by omega)
    have HM := hid (show M ≠ w.heap.size + 1 + 1 by omega)
    have HR1 := hid h3
    have HR2 := hid h4
    have HRC := hid h5
    have R3 := hid h5.cells
    have HB := hid h6
    have hlt := h5.lt
    clear h1 h2 h3 h4 h5 h6 CT n1 n2'
    by_cases h0 : er = 0
    · obtain ⟨⟨px, fx⟩, ⟨py, fy⟩⟩ := hp.out h0
      have bx := plain_bounds px fx
      have bY := plain_bounds py fy
      have hb1 := bx.2
      have hb2 := bY.2
      have CM := fun W (hW : But (w.heap.size + 1 + 1) wc W) => ref1_Mul b1 (Num.digs 10 x.m).length c1 b2 (Num.digs 10 y.m).length c2 (Num.digs 10 x.m) (Num.digs 10 y.m) W rfl rfl (hW.rd HR1.out HRC.out).1 (hW.rd HR2.out HRC.out).1 (by omega) (by omega)
      simp only [Num.val_digs (b := 10) (by decide)] at CM
      have hP : (Num.digs 10 (x.m * y.m)).length ≤ 800 := digs_mul_le bx.1 bY.1
      obtain ⟨P, hPe⟩ : ∃ P, P = x.m * y.m := ⟨_, rfl⟩
      rw [← hPe] at CM hP
      obtain ⟨d, hd⟩ : ∃ d, d = plainD (x.neg != y.neg) P (x.e + y.e) := ⟨_, rfl⟩
      have CP := fun W (am : Option Addr) (cm : Nat) (hu : U8 W am (Num.digs 10 P) ∧ (Num.digs 10 P).length ≤ cm ∧ cm ≤ 9223372036854775807 ∧ (am = none → cm = 0)) (_ : But (w.heap.size + 1 + 1) wc W) => ref2_Make (x.neg != y.neg) am cm P (x.e + y.e) W hu.1 hu.2.1 hu.2.2.1 (by omega) (by omega)
      simp only [← hd] at CP
      simp only [bne] at CP
      have hde := plain_e (x.neg != y.neg) P (x.e + y.e) (by omega) (by omega)
      rw [← hd] at hde
      have hdm : (Num.digs 10 d.m).length ≤ 800 := Nat.le_trans (Num.digs_length_mono (by decide) (by rw [hd]; exact plain_m_le _ _ _)) hP
      have CE := fun W (ap : Option Addr) (cp : Nat) (hi : RdD W d ap cp) (_ : But (w.heap.size + 1 + 1) wc W) => ref2_Tell d ap cp W hi.1 (by omega) (by omega)
      have hr1 : r = tellR d := by rw [hr.out, hd, hPe]; unfold binR; rw [if_pos h0]; rfl
      have hne : ((er : Int) != 0) = false := by rw [bne_eq_false_iff_eq]; omega
      have wrap : IntKind.i64.wrap (x.e + y.e) = x.e + y.e := by rw [IntKind.wrap_i64]; omega
      obtain ⟨t, ht⟩ : ∃ t, t = tellR d := ⟨_, rfl⟩
      rw [← ht] at CE hr1
      unfold OutRD refV at CP
      unfold OutDE refV decV at CE
      unfold OutR8 at CM
      have HRT := hid hr1
      clear h0 hp hr px fx py fy bx bY hP hPe hd hde hdm ht hr1
      replace CM := hid CM
      replace CP := hid CP
      replace CE := hid CE
      go_wp2_with fail
      go_region_held3 (fun w' => w'.cell? ⟨N, 0, none⟩ = some (.bool x.neg) ∧ w'.cell? ⟨N, 1, none⟩ = some (.slice b1 (Num.digs 10 x.m).length c1) ∧ w'.cell? ⟨N, 2, none⟩ = some (.int .i64 x.e) ∧ w'.cell? ⟨M, 0, none⟩ = some (.bool y.neg) ∧ w'.cell? ⟨M, 1, none⟩ = some (.slice b2 (Num.digs 10 y.m).length c2) ∧ w'.cell? ⟨M, 2, none⟩ = some (.int .i64 y.e) ∧ w'.frozen? ⟨w.heap.size + 1 + 1, 0, none⟩ = false ∧ w'.frozen? ⟨w.heap.size + 1 + 1, 1, none⟩ = false ∧ w'.frozen? ⟨w.heap.size + 1 + 1, 2, none⟩ = false ∧ Cells3 w' (w.heap.size + 1 + 1) ∧ But (w.heap.size + 1 + 1) wc w') (first | (exact ⟨k0, k1, k2, q0, q1, q2, f0, f1, f2, R3.out, (But.refl _ _).drew⟩) | (exact keepR (by assumption) (by assumption)) | (exact keepRs (by assumption) _ _ _ HN.out HM.out _ rfl)) ((first | (go_at_call 66; (with_reducible refine (CM.out _ ?_).mono ?_); (simp only [*]); rintro e1 w1 ⟨am, cm, rfl, hb1, hu1⟩) | (go_at_call 39; (with_reducible refine (CP.out _ _ _ (by assumption) ?_).mono ?_); (simp only [*]); rintro e2 w2 ⟨ap, cp, rfl, hb2, hu2⟩) | (go_at_call 38; (with_reducible refine (CE.out _ _ _ (by assumption) ?_).mono ?_); (simp only [*]); rintro e3 w3 ⟨a3, c3, rfl, ho3⟩; have hb3 := ho3.1; have hc2 : Cells3 w2 (w.heap.size + 1 + 1) := (by simp only [*]); obtain ⟨_, _, _, s0, s1, s2⟩ := (hc2.below hb3).get; have hc3 := hc2.below hb3)))
      rename_i hHeld
      obtain ⟨_, _, _, _, _, _, _, _, _, _, hB⟩ := hHeld
      have hz : wc.heap.size ≤ w1.heap.size := hb1.size
      have hz2 : w1.heap.size ≤ w2.heap.size := hb2.size
      have hw := HB.out.size
      have HO := hid (owns_mono (owns_set3 (R := w.heap.size + 1 + 1) ho3.2 (by omega) (.bool t.1.neg) (.slice a3 (Num.limbs t.1.m).length c3) (.int .i64 t.1.e)) (show w.heap.size ≤ _ by omega))
      replace HB := hid (hB.below HB.out (by omega) HB.out.size)
      clear hB hb1 hu1 hb2 hu2 hb3 ho3 hc2 hc3 CM CP CE
      go_wp2_with fail
      refine bodyPost_ret (v := .tuple #[decV t.1 a3 c3, .int .i64 t.2]) (by simp [results, Tryz.results31, go_sem, s0, s1, s2, decV]) rfl ?_
      rw [HRT.out]
      exact ⟨a3, c3, rfl, HB.out, HO.out⟩
    · have hne : ((er : Int) != 0) = true := by rw [bne_iff_ne]; omega
      have HR := hid (show r = (zeroD, er) by rw [hr.out]; unfold binR; rw [if_neg h0])
      clear h0 hp hr
      go_wp2
      refine bodyPost_ret (v := .tuple #[decV zeroD none 0, .int .i64 er]) (by simp [results, Tryz.results31, go_sem, p0, p1, p2, decV, zeroD]; rfl) rfl ?_
      rw [HR.out]
      exact ⟨none, 0, rfl, below_put HB.out (by omega) false none 0 0 0, World.ownsRow_nil _ _ _ _⟩

section
variable {g g2 : Bool} {xs ys : List Nat} {e e2 : Int} {ex ey : Nat} {x y : D} (W : World) (b : Option Addr) (c : Nat) (b2 : Option Addr) (c2 : Nat)
theorem ref2_Add (hx : Is g xs e ex x) (hy : Is g2 ys e2 ey y) (h : U32 W b xs) (h2 : U32 W b2 ys) :
    Calls Tryz.prog 29 #[.agg #[.bool g, .slice b xs.length c, .int .i64 e], .agg #[.bool g2, .slice b2 ys.length c2, .int .i64 e2]] W (OutDE W (binR (bothE ex ey) (addR x y)).1 (binR (bothE ex ey) (addR x y)).2) := by
  obtain ⟨rfl, rfl⟩ := hx
  obtain ⟨rfl, rfl⟩ := hy
  refine ref_add_walk g b xs.length c e g2 b2 ys.length c2 e2 W _ _ _ (fun W' hb => ref2_Two g b c e xs g2 b2 c2 e2 ys W' (h.below hb) (h2.below hb)) ?_
  intro h0
  obtain ⟨z1, z2⟩ := bothE_zero h0
  exact ⟨taken_facts z1, taken_facts z2⟩
theorem ref2_Mul (hx : Is g xs e ex x) (hy : Is g2 ys e2 ey y) (h : U32 W b xs) (h2 : U32 W b2 ys) :
    Calls Tryz.prog 31 #[.agg #[.bool g, .slice b xs.length c, .int .i64 e], .agg #[.bool g2, .slice b2 ys.length c2, .int .i64 e2]] W (OutDE W (binR (bothE ex ey) (mulR x y)).1 (binR (bothE ex ey) (mulR x y)).2) := by
  obtain ⟨rfl, rfl⟩ := hx
  obtain ⟨rfl, rfl⟩ := hy
  refine ref_mul_walk g b xs.length c e g2 b2 ys.length c2 e2 W _ _ _ (fun W' hb => ref2_Two g b c e xs g2 b2 c2 e2 ys W' (h.below hb) (h2.below hb)) ?_
  intro h0
  obtain ⟨z1, z2⟩ := bothE_zero h0
  exact ⟨taken_facts z1, taken_facts z2⟩
end

end Go.Proofs.YtphdncifcljmpaaGreatDoor
