/- Layer 1, eighth part: Cut. -/
import Derived.Test.YtmdgciolnpkccaaGreatDoorLimbG
namespace Go.Proofs.YtmdgciolnpkccaaGreatDoor
open Go.RowKit

theorem div_int_lt {T P c : Nat} (h : T / P < c) : (T : Int) / (P : Int) < (c : Int) := by exact_mod_cast h

set_option maxRecDepth 100000 in
set_option maxHeartbeats 800000 in
theorem cut_some (a : Option Addr) (cap n : Nat) (xs : List Nat) (w : World) (h : U32 w a xs) (hl : xs.length ≤ 100000000) (hn : n ≤ 30000) (h0 : Num.worth xs ≠ 0) (hle : n / 9 ≤ (Num.limbs (Num.worth xs)).length) :
    Calls Tryz.prog 126 #[.slice a xs.length cap, .int .i64 n] w (OutUUE w (Num.limbs (Num.worth xs / 10 ^ n)) (Num.limbs (Num.worth xs % 10 ^ n)) 0) := by
  have l1 := worth_lt h.lt (Nat.le_refl _)
  have CN := limb_Norm a cap xs w h (by omega)
  obtain ⟨X, hX⟩ : ∃ X, X = Num.limbs (Num.worth xs) := ⟨_, rfl⟩
  have hX0 : X ≠ [] := by rw [hX]; exact fun e => h0 ((Num.digs_eq_nil Num.two_le_B9).1 e)
  have h9 : ∀ x ∈ X, x < 1000000000 := by rw [hX]; exact Num.limbs_lt _
  have hXX : Num.worth xs = Num.worth X := by rw [hX, Num.worth_limbs]
  obtain ⟨q, hq⟩ : ∃ q, q = n / 9 := ⟨_, rfl⟩
  obtain ⟨P, hP⟩ : ∃ P, P = 10 ^ (n % 9) := ⟨_, rfl⟩
  have hP9 : P ≤ 100000000 := by rw [hP]; exact Nat.pow_le_pow_right (n := 10) (by decide) (by omega : n % 9 ≤ 8)
  have hP0 : 1 ≤ P := by rw [hP]; exact Nat.pow_pos (by decide)
  have hten : 10 ^ n = P * Num.B9 ^ q := by rw [hP, hq]; exact Num.ten9 n
  rw [← hX] at CN hle l1
  rw [hXX, hten]
  rw [← hq] at hle
  have CN := hid CN
  have H9 := hid h9
  have HX0 := hid hX0
  have CT : Hid (∀ W, Calls Tryz.prog 151 #[.int .i64 ((n : Int) % 9)] W fun e w' => e = .returned (.int .u64 (P : Int)) ∧ W = w') := fun W => by
    have := limb_ten (n % 9) W (by omega)
    rw [hP]
    simpa using this
  have hq9 : (n : Int) / 9 = (q : Int) := by omega
  have HQ9 := hid hq9
  clear h h0 hX hX0 h9 hXX hten hP hq hq9
  go_enter Tryz.func126, Tryz.ntmps126
  go_wp2_with fail
  refine CN.out.mono ?_
  rintro e w1 ⟨a1, c1, rfl, hb1, ho1⟩
  obtain ⟨b, off, rfl⟩ := (owned_row ho1).isSome (by intro e; exact HX0.out (by simpa [u32s] using e))
  have hcap := owns_cap ho1
  have HB1 := hid hb1
  have HO1 := hid ho1
  have hsz1 := hb1.size
  have hq9 := HQ9.out
  clear hb1 ho1 CN
  obtain ⟨ah, hah⟩ : ∃ ah, ah = advance (some ⟨b, off, none⟩) c1 q := ⟨_, rfl⟩
  have hsl := fun W => run_slice_from (P := Tryz.prog) Tryz.underlying23 Tryz.sizeOf70 (some ⟨b, off, none⟩) X.length c1 q hle W
  rw [← hah] at hsl
  have hrh : Row w1 ah (u32s (X.drop q)) := by
    have := (owned_row HO1.out).drop c1 q (by simpa using hcap.1)
    rw [hah]; simpa [u32s, List.map_drop] using this
  have hrl : Row w1 (some ⟨b, off, none⟩) (u32s (X.take q)) := by
    have := (owned_row HO1.out).take q
    simpa [u32s, List.map_take] using this
  obtain ⟨bh, oh, hbo⟩ := advance_some b off c1 q
  rw [← hah] at hbo
  subst hbo
  obtain ⟨H, hH⟩ : ∃ H, H = X.drop q := ⟨_, rfl⟩
  have hHl : X.length - q = H.length := by rw [hH]; simp
  rw [← hH] at hrh
  rw [hHl] at hsl
  have HH := hid hH
  have HRH := hid hrh
  have HRL := hid hrl
  have hHl2 : H.length ≤ c1 - q := by omega
  have hHl3 : H.length ≤ 100000001 := by omega
  clear hah hH hrh hrl hHl
  go_wp2_with fail
  go_region_with ((go_at_call 181; refine (clone_u32 b off q _ (X.take q) w1.drew (show Row w1 _ _ from HRL.out) (by simp; omega) (by omega)).mono ?_; rintro e w2 ⟨a2, c2, rfl, hb2, ho2⟩))
  have hlq : (X.take q).length = q := by simp; omega
  rw [hlq] at ho2
  have HB2 := hid (below_trans HB1.out (show Below w1.heap.size w1 w2 from (below_drewN (Below.refl _ w1) 1).trans hb2))
  have HB12 := hid (show Below w1.heap.size w1 w2 from (below_drewN (Below.refl _ w1) 1).trans hb2)
  have HO2 := hid (show w2.ownsRow w.heap.size 70 1 (.slice a2 q c2) q (u32s (X.take q)) from owns_mono ho2 (by simpa using hsz1))
  have hsz2 := HB2.out.size
  clear hb2 ho2 hlq hsl
  go_wp2_with fail
  refine (CT.out w2).mono ?_
  rintro e w3 ⟨rfl, rfl⟩
  go_wp2_with (at_make; refine wpList_full Tryz.u32Slice rfl _ _ rfl H.length rfl rfl rfl rfl (by omega) (by unfold maxLen; omega) ?_; intro w3 hown hb3)
  have HOQ := hid hown
  have HB3 := hid hb3
  clear hown hb3
  go_loopw [13, 14] (fun r i wr => ∃ (k R : Nat), k ≤ H.length ∧ i = .int .i64 ((k : Int) - 1) ∧ r = .int .u64 R ∧ R < P ∧ Div w2 H P k R w2.heap.size wr) (fun _ i _ => (intOf i + 1).toNat)
  case atStart =>
    refine ⟨H.length, 0, Nat.le_refl _, rfl, rfl, by omega, List.replicate H.length 0, by simp, by simp, ?_, by omega, ?_, HB3.out⟩
    · rw [List.drop_of_length_le (Nat.le_refl _), List.drop_of_length_le (by simp)]; simp [Num.val]
    · simpa [u32s] using HOQ.out
  case round =>
    clear HB3 HOQ
    obtain ⟨k, R, hk, rfl, rfl, hR, L, h1, h2, h3, h4, h5, h6⟩ := hrel
    have HL1 := hid h1
    have HL2 := hid h2
    have HL3 := hid h3
    have HL5 := hid h5
    have HL6 := hid h6
    clear h1 h2 h3 h4 h5 h6
    by_cases hk0 : k = 0
    · subst hk0
      go_wp2_with fail
      refine (limb_trim_out _ H.length H.length L w2 wr HL1.out HL2.out HL5.out HL6.out).mono ?_
      rintro e w4 ⟨aq, cq, rfl, hb4, ho4⟩
      have HB4 := hid hb4
      have HO4 := hid ho4
      have hlow2 := (HO2.out).lt
      have hlow := owns_below HO2.out hb4
      have hsz4 := Nat.le_trans hsz2 hb4.size
      have HLW := hid hlow2
      have hRR : (R : Int) < 4294967296 := by omega
      have hmx : q + 1 ≤ maxLen := by unfold maxLen; omega
      clear hb4 ho4 hlow2
      go_wp2_with (at_builtin; refine wpList_push_at Tryz.u32Slice rfl _ _ rfl w.heap.size hlow rfl rfl rfl hmx (by omega) hsz4 ?_; intro v5 w5 hown5 hb5 hg5)
      obtain ⟨a5, c5, rfl, _, _⟩ := owns_row hown5
      have HO5 := hid (show w5.ownsRow w.heap.size 70 1 (.slice a5 (q + 1) c5) (q + 1) (u32s (X.take q ++ [R])) by simpa [u32s] using hown5)
      have HB5 := hid ((below_trans HB2.out HB4.out).trans hb5)
      have HOQ := hid (owns_grown HO4.out hg5 (fun k hk => (HLW.out k hk).2) hlow)
      clear hown5 hb5 hg5 hlow
      go_wp2_with fail
      have h9' : ∀ x ∈ X.take q ++ [R], x < 1000000000 := fun y hy => by
        rcases List.mem_append.1 hy with h | h
        · exact H9.out y (List.mem_of_mem_take h)
        · simp at h; omega
      refine (limb_trim_same a5 (q + 1) c5 (X.take q ++ [R]) w w5 (by simp; omega) h9' HO5.out HB5.out).mono ?_
      have hmath := cut_math X H9.out q P (Num.val Num.B9 L) R hle hR (by have := HL3.out; rw [HH.out] at this; simpa using this)
      rw [hmath.2]
      have hQ : Num.worth L = Num.worth X / (P * Num.B9 ^ q) := hmath.1
      rw [hQ] at HOQ ⊢
      clear hmath hQ
      rintro e w6 ⟨⟨a6, c6, rfl, hb6, ho6⟩, rfl⟩
      go_wp2
      go_ret3
      refine ⟨_, _, _, _, rfl, hb6, ?_, ho6⟩
      exact owns_mono HOQ.out hsz2
    · obtain ⟨m, rfl⟩ : ∃ m, k = m + 1 := ⟨k - 1, by omega⟩
      have e1 : ((m + 1 : Nat) : Int) - 1 = (m : Int) := by omega
      rw [e1]
      have hm : m < H.length := by omega
      obtain ⟨x, hxe⟩ : ∃ x, x = H.getD m 0 := ⟨_, rfl⟩
      have hx9 : x < 1000000000 := by
        rw [hxe, HH.out]
        have : q + m < X.length := by have := HH.out; rw [this] at hm; simp at hm; omega
        rw [List.getD_eq_getElem?_getD, List.getElem?_drop, List.getElem?_eq_getElem this]
        exact H9.out _ (by simp)
      have g0 := (HRH.out.below HB12.out).u32 hm
      have g1 : wr.cell? ⟨bh, oh + m, none⟩ = some (.int .u32 (x : Int)) := by rw [hxe]; exact (HL6.out.cell (cell_lt g0)).trans g0
      have hold : ∃ u, wr.cell? ⟨w2.heap.size, m, none⟩ = some (.int .u32 u) := by
        rw [HL5.out.cellAt m (by omega)]; exact u32s_get (by have := HL1.out; omega)
      obtain ⟨u, hold⟩ := hold
      have hf2 := HL5.out.frozenAt m
      obtain ⟨T, hT⟩ : ∃ T, T = R * 1000000000 + x := ⟨_, rfl⟩
      have hTi : (R : Int) * 1000000000 + (x : Int) = (T : Int) := by omega
      have hT9 : (T : Int) ≤ 1000000000000000000 := by omega
      have hdiv : ((T / P : Nat) : Int) = (T : Int) / (P : Int) := by simp
      have hmod : (T : Int) % (P : Int) = ((T % P : Nat) : Int) := by simp
      have hdl : T / P < 1000000000 := by
        rw [Nat.div_lt_iff_lt_mul (by omega), hT]
        have : (R + 1) * 1000000000 ≤ P * 1000000000 := Nat.mul_le_mul_right _ hR
        omega
      have hml : T % P < P := Nat.mod_lt _ (by omega)
      have HD : Hid (∀ wz, wz = wr.setCell ⟨w2.heap.size, m, none⟩ (.int .u32 ((T / P : Nat) : Int)) → Div w2 H P m (T % P) w2.heap.size wz) := fun wz hz =>
        Div.step HL1.out HL2.out HL3.out hR HL5.out HL6.out hm (by rw [← hxe]; exact hx9) (by rw [← hxe]; exact hT) hz
      have hd0 : 0 ≤ (T : Int) / (P : Int) := Int.ediv_nonneg (by omega) (by omega)
      have hd1 : (T : Int) / (P : Int) < 1000000000 := div_int_lt hdl
      have HDIV := hid hdiv
      have HMOD := hid hmod
      have HD := hid (fun wz (hz : wz = wr.setCell ⟨w2.heap.size, m, none⟩ (.int .u32 ((T : Int) / (P : Int)))) => HD.out wz (by rw [HDIV.out]; exact hz))
      clear hdiv hmod hdl
      have hPz : ((P : Int) == 0) = false := by rw [beq_eq_false_iff_ne]; omega
      clear hT hxe e1 g0
      go_wp2
      go_roundw
      case rel => exact ⟨m, T % P, by omega, by go_num, by rw [HMOD.out], hml, HD.out _ rfl⟩
      case measure => simp [intOf]

theorem limb_Cut (a : Option Addr) (cap n : Nat) (xs : List Nat) (w : World) (h : U32 w a xs) (hl : xs.length ≤ 100000000) (hn : n ≤ 30000) (h0 : Num.worth xs ≠ 0) :
    Calls Tryz.prog 126 #[.slice a xs.length cap, .int .i64 n] w (OutUUE w (Num.limbs (Num.worth xs / 10 ^ n)) (Num.limbs (Num.worth xs % 10 ^ n)) 0) := by
  by_cases hlt : (Num.limbs (Num.worth xs)).length < n / 9
  · have C := cut_all a cap n xs w h hl hn h0 hlt
    have e : Num.worth xs < 10 ^ n := by
      have h1 := limbs_length_le.1 (Nat.le_of_lt hlt)
      have h2 : Num.B9 ^ (n / 9) ≤ 10 ^ n := by
        rw [Num.ten9 n]; exact Nat.le_mul_of_pos_left _ (Nat.pow_pos (by decide))
      omega
    rw [Nat.div_eq_of_lt e, Nat.mod_eq_of_lt e]
    exact C
  · exact cut_some a cap n xs w h hl hn h0 (by omega)

end Go.Proofs.YtmdgciolnpkccaaGreatDoor
