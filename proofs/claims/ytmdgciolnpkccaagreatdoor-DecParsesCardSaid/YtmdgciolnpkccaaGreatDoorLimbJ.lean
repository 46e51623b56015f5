/- Layer 1, tenth part: Parse. -/
import Derived.Test.YtmdgciolnpkccaaGreatDoorLimbI
namespace Go.Proofs.YtmdgciolnpkccaaGreatDoor
open Go.RowKit

/-- What digits are worth, the highest first. -/
def num10 : List UInt8 → Nat → Nat
  | [], n => n
  | c :: l, n => num10 l (10 * n + (c.toNat - 48))
theorem num10_append (a b : List UInt8) (n : Nat) : num10 (a ++ b) n = num10 b (num10 a n) := by
  induction a generalizing n with
  | nil => rfl
  | cons c a ih => exact ih _
theorem num10_start (l : List UInt8) (n : Nat) : num10 l n = n * 10 ^ l.length + num10 l 0 := by
  induction l generalizing n with
  | nil => simp [num10]
  | cons c l ih =>
    simp only [num10, List.length_cons]
    rw [ih (10 * n + (c.toNat - 48)), ih (10 * 0 + (c.toNat - 48)), Nat.pow_succ]
    have : (10 * n + (c.toNat - 48)) * 10 ^ l.length = n * (10 ^ l.length * 10) + (10 * 0 + (c.toNat - 48)) * 10 ^ l.length := by
      rw [Nat.mul_zero, Nat.zero_add, Nat.add_mul]; congr 1; ac_rfl
    omega
/-- All are digits. -/
def Digs (l : List UInt8) : Prop := ∀ c ∈ l, 48 ≤ c.toNat ∧ c.toNat ≤ 57
theorem num10_lt (l : List UInt8) (h : Digs l) : num10 l 0 < 10 ^ l.length := by
  induction l with
  | nil => simp [num10]
  | cons c l ih =>
    have h1 := h c (by simp)
    have h2 := ih (fun d hd => h d (by simp [hd]))
    have : num10 (c :: l) 0 = num10 l (c.toNat - 48) := by simp [num10]
    rw [this, num10_start, List.length_cons, Nat.pow_succ]
    have h3 : (c.toNat - 48) * 10 ^ l.length ≤ 9 * 10 ^ l.length := Nat.mul_le_mul_right _ (by omega)
    omega

/-- What holds at the head of a round of 'Parse': the last k chunks of nine digits are laid down. -/
def Par (w : World) (l : List UInt8) (k : Nat) (v : Value) (wr : World) : Prop :=
  ∃ out : List Nat, out.length = k ∧ (∀ x ∈ out, x < 1000000000) ∧ Num.worth out = num10 (l.drop (l.length - 9 * k)) 0 ∧ wr.ownsRow w.heap.size 70 1 v k (u32s out) ∧ Below w.heap.size w wr

theorem chunk_math (l : List UInt8) (k e f : Nat) (_hd : Digs l) (he : e = l.length - 9 * k) (hf : f = e - 9) (he0 : 0 < e) (out : List Nat) (hl : out.length = k) (hw : Num.worth out = num10 (l.drop e) 0) :
    Num.worth (out ++ [num10 ((l.drop f).take (e - f)) 0]) = num10 (l.drop f) 0 := by
  have e1 : l.drop f = (l.drop f).take (e - f) ++ l.drop e := by
    have := (List.take_append_drop (e - f) (l.drop f)).symm
    rw [List.drop_drop, show f + (e - f) = e by omega] at this
    exact this
  have hlen : (l.drop e).length = 9 * k := by rw [List.length_drop]; omega
  conv => rhs; rw [e1, num10_append, num10_start, hlen]
  unfold Num.worth at hw ⊢
  rw [Num.val_snoc, hw, hl, Nat.pow_mul, show (10 : Nat) ^ 9 = Num.B9 from rfl, Nat.mul_comm, Nat.add_comm]

theorem byte_get (s : ByteArray) (h : Digs s.data.toList) (i : Nat) (hi : i < s.size) : 48 ≤ (s[i]).toNat ∧ (s[i]).toNat ≤ 57 :=
  h _ (List.getElem_mem (l := s.data.toList) (by exact hi))
theorem digs_get (l : List UInt8) (h : Digs l) (i : Nat) (hi : i < l.length) : 48 ≤ l[i].toNat ∧ l[i].toNat ≤ 57 := h _ (List.getElem_mem hi)

set_option maxRecDepth 100000 in
set_option maxHeartbeats 800000 in
theorem limb_Parse (s : ByteArray) (w : World) (hd : Digs s.data.toList) (h0 : 1 ≤ s.size) (hl : s.size ≤ 100000000) :
    Calls Tryz.prog 60 #[.string s] w (OutUE w (Num.limbs (num10 s.data.toList 0)) 0) := by
  have HD := hid hd
  have hne : s.toList.isEmpty = false := by
    rw [ByteArray.toList_eq]
    cases h : s.data.toList with
    | nil => have : s.data.toList.length = s.size := rfl
             rw [h] at this; simp at this; omega
    | cons c l => rfl
  clear hd
  go_enter Tryz.func60, Tryz.ntmps60
  go_wp2
  go_loop [14] (fun i => ∃ k : Nat, k ≤ s.size ∧ i = .int .i64 k) (fun i => s.size - (intOf i).toNat)
  case atStart => exact ⟨0, Nat.zero_le _, rfl⟩
  case round =>
    obtain ⟨k, hk, rfl⟩ := hrel
    by_cases hlt : k < s.size
    · go_wp2
      all_goals first | (exfalso; have := byte_get s HD.out k hlt; omega) | skip
      go_round
      case rel => exact ⟨k + 1, by omega, by go_num⟩
      case measure => simp [intOf]; omega
    · obtain rfl : s.size = k := by omega
      go_wp2
      go_loopw [5, 6] (fun v e wr => ∃ k : Nat, 9 * k ≤ s.size + 8 ∧ e = .int .i64 ((s.size : Int) - 9 * k) ∧ Par w s.data.toList k v wr) (fun _ e _ => (intOf e).toNat)
      case atStart =>
        refine ⟨0, by omega, by go_num, [], rfl, by simp, ?_, World.ownsRow_nil _ _ _ _, Below.refl _ _⟩
        rw [Nat.mul_zero, Nat.sub_zero, List.drop_length]; rfl
      case round =>
        obtain ⟨k, hk, rfl, out, h1, h2, h3, h4, h5⟩ := hrel
        have HL1 := hid h1
        have HL2 := hid h2
        have HL3 := hid h3
        have HB := hid h5
        have hsz := h5.size
        clear h1 h2 h3 h5 hlt hk
        by_cases hlt : 9 * k < s.size
        · obtain ⟨e, he⟩ : ∃ e, e = s.size - 9 * k := ⟨_, rfl⟩
          have he1 : (s.size : Int) - 9 * k = (e : Int) := by omega
          rw [he1]
          obtain ⟨f, hf⟩ : ∃ f, f = e - 9 := ⟨_, rfl⟩
          have hf1 : max (0 : Int) ((e : Int) - 9) = (f : Int) := by omega
          have hef : f ≤ e := by omega
          have hes : e ≤ s.size := by omega
          have he0 : 0 < e := by omega
          have HE := hid he
          have HF := hid hf
          clear he hf he1
          have hsz2 : (s.extract f e).size = e - f := by simp [ByteArray.size_extract]; omega
          have HSZ := hid hsz2
          clear hsz2
          go_wp2_with fail
          refine upon_bytes Tryz.underlying9 Tryz.underlying82 Tryz.underlying5 (by rw [HSZ.out]; unfold maxLen; omega) ?_
          intro bb cb w2 hrow hb2 hcap hcb hbl
          rw [HSZ.out]
          have HR := hid hrow
          have HB2 := hid hb2
          clear hrow hb2
          obtain ⟨C, hC⟩ : ∃ C, C = (s.extract f e).data.toList := ⟨_, rfl⟩
          have hCl : C.length = e - f := by rw [hC]; exact HSZ.out
          have hCd : C = (s.data.toList.drop f).take (e - f) := by
            rw [hC, Lib.extract_data]
          have hDC : Digs C := fun c hc => HD.out c (by rw [hCd] at hc; exact List.mem_of_mem_drop (List.mem_of_mem_take hc))
          have hcells : ∀ i, i < e - f → w2.cell? ⟨bb, i, none⟩ = some (.int .u8 ((C.getD i 0).toNat : Int)) := fun i hi => by
            obtain ⟨b', off', e1, hc⟩ := HR.out i (.int .u8 ((C.getD i 0).toNat : Int)) (by
              rw [show Lib.strCells (s.extract f e) = C.map (fun b => Value.int .u8 b.toNat) by rw [hC]; rfl]
              simp [show i < C.length by omega])
            injection e1 with e1; injection e1 with e2 e3; subst e2 e3
            rw [Nat.zero_add] at hc; exact hc
          have hlt9 : ∀ i, num10 (C.take i) 0 < 1000000000 := fun i => by
            have h1 := num10_lt (C.take i) (fun c hc => hDC c (List.mem_of_mem_take hc))
            have h2 : 10 ^ (C.take i).length ≤ 10 ^ 9 := Nat.pow_le_pow_right (by decide) (by have := HF.out; simp; omega)
            omega
          have HCL := hid hCl
          have HCD := hid hCd
          have HDC := hid hDC
          have HCC := hid hcells
          have HL9 := hid hlt9
          have hfe9 : e - f ≤ 9 := by have := HF.out; omega
          clear hC hCl hCd hDC hcells hlt9 HSZ HR
          go_wp2_with fail
          go_loop [7, 42] (fun n i => ∃ (j N : Nat), j ≤ e - f ∧ i = .int .i64 j ∧ n = .int .u32 N ∧ N = num10 (C.take j) 0) (fun _ i => e - f - (intOf i).toNat)
          case atStart => exact ⟨0, 0, Nat.zero_le _, rfl, rfl, rfl⟩
          case round =>
            obtain ⟨j, N, hj, rfl, rfl, hN⟩ := hrel
            have hN9 : N < 1000000000 := by rw [hN]; exact HL9.out j
            have HN := hid hN
            clear hN
            by_cases hjl : j < e - f
            · obtain ⟨c, hce⟩ : ∃ c, c = (C.getD j 0).toNat := ⟨_, rfl⟩
              have hcell := HCC.out j hjl
              rw [← hce] at hcell
              have hjC : j < C.length := by rw [HCL.out]; exact hjl
              have hc48 : 48 ≤ c ∧ c ≤ 57 := by rw [hce]; exact HDC.out _ (by rw [List.getD_eq_getElem?_getD, List.getElem?_eq_getElem hjC]; simp)
              have hstep : num10 (C.take (j + 1)) 0 = 10 * N + (c - 48) := by
                rw [List.take_add_one, List.getElem?_eq_getElem hjC, Option.toList_some, num10_append, ← HN.out]
                simp [num10, hce, hjC]
              have hn9 : 10 * N + (c - 48) < 1000000000 := by rw [← hstep]; exact HL9.out _
              have HST := hid hstep
              clear hstep hce hjC
              go_wp2
              go_round
              case rel => exact ⟨j + 1, 10 * N + (c - 48), by omega, by go_num, by go_num, HST.out.symm⟩
              case measure => simp [intOf]; omega
            · obtain rfl : j = e - f := by omega
              have hNC : N = num10 ((s.data.toList.drop f).take (e - f)) 0 := by
                rw [← HCD.out, HN.out, List.take_of_length_le (by have := HCL.out; omega)]
              have hown := owns_below h4 HB2.out
              have hw2 := below_trans HB.out HB2.out
              have hsz2 := hw2.size
              have HNC := hid hNC
              have HW2 := hid hw2
              clear hNC hw2 h4 hjl HB HB2
              go_wp2_with (at_builtin; refine wpList_push Tryz.u32Slice rfl _ _ rfl w.heap.size hown rfl rfl rfl (by unfold maxLen; omega) (by omega) hsz2 ?_; intro v' w3 hown' hb')
              have R : Par w s.data.toList (k + 1) v' w3 := by
                refine ⟨out ++ [N], by simp [HL1.out], ?_, ?_, by simpa [u32s] using hown', HW2.out.trans hb'⟩
                · intro y hy
                  rcases List.mem_append.1 hy with h | h
                  · exact HL2.out y h
                  · simp at h; omega
                · have hls : s.data.toList.length = s.size := rfl
                  have := chunk_math s.data.toList k e f HD.out (by rw [hls]; exact HE.out) HF.out he0 out HL1.out (by have := HL3.out; rw [hls, ← HE.out] at this; exact this)
                  rw [HNC.out, this, hls]
                  congr 2
                  have := HF.out; have := HE.out; omega
              have R := hid R
              have hke : (e : Int) = (s.size : Int) - 9 * k := by have := HE.out; omega
              have HKE := hid hke
              clear hown hown' hb' hke hf1
              go_wp2
              go_roundw
              case rel => exact ⟨k + 1, by omega, by have := HKE.out; go_num, R.out⟩
              case measure => simp [intOf]; omega
        · have HO := hid h4
          have HN : Hid (Num.worth out = num10 s.data.toList 0) := by
            have := HL3.out
            rwa [show s.data.toList.length - 9 * k = 0 by have : s.data.toList.length = s.size := rfl; omega, List.drop_zero] at this
          obtain ⟨a, cap, rfl, _, _⟩ := owns_row h4
          clear h4
          go_wp2_with fail
          refine (limb_trim_out a k cap out w wr HL1.out HL2.out HO.out HB.out).mono ?_
          rw [HN.out]
          rintro e w2 ⟨a2, c2, rfl, hb2, ho2⟩
          go_wp2
          go_ret2
          exact ⟨_, _, rfl, hb2, ho2⟩

end Go.Proofs.YtmdgciolnpkccaaGreatDoor
