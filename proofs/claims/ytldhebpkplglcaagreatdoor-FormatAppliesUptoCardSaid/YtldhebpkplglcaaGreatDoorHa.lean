/- lorgnetteref20.Swap. lorgnetteref20.free, Uri. lorgnetteref20.signs, Base. lorgnetteref20.bare, worth, Debase. lorgnetteref20.Debase. -/
import Derived.Test.YtldhebpkplglcaaGreatDoorHc
import Derived.Test.YtldhebpkplglcaaGreatDoorGe
namespace Go.Proofs.YtldhebpkplglcaaGreatDoor
open Go.RowKit

theorem subst_take {ps : List Pair} (hd : (ps.map (·.1)).Nodup) (c : UInt8) {k : Nat} {p : Pair} (hp : ps[k]? = some p) : substL (ps.take (k + 1)) c = if p.1 = c then p.2 else substL (ps.take k) c := by
  have h := List.getElem?_eq_some_iff.1 hp
  rw [List.take_succ_eq_append_getElem h.1, h.2]
  by_cases hc : p.1 = c
  · rw [if_pos hc]
    have hnone : (ps.take k).find? (fun p => p.1 == c) = none := by
      rw [List.find?_eq_none]
      intro q hq hqc
      have hqc2 : q.1 = p.1 := by rw [hc]; simpa using hqc
      rw [← List.take_append_drop k ps, List.map_append] at hd
      have h3 := (List.nodup_append.1 hd).2.2 q.1 (List.mem_map_of_mem hq) p.1 (List.mem_map_of_mem (by rw [List.drop_eq_getElem_cons h.1, h.2]; simp))
      exact h3 hqc2
    unfold substL
    rw [List.find?_append, hnone, Option.none_or, List.find?_cons_of_pos (by simpa using hc)]
  · rw [if_neg hc]
    unfold substL
    rw [List.find?_append, List.find?_cons_of_neg (by simpa using hc), List.find?_nil, Option.or_none]
theorem extract_byte (l : List UInt8) (i : Nat) (h : i < l.length) : (⟨l.toArray⟩ : ByteArray).extract i (i + 1) = ⟨#[l[i]]⟩ := by
  refine ByteArray.ext (Array.toList_inj.1 ?_)
  rw [ByteArray.data_extract]
  simp only [Array.toList_extract, List.extract_eq_take_drop]
  rw [show i + 1 - i = 1 by omega, List.drop_eq_getElem_cons h]
  rfl

set_option maxRecDepth 100000 in
set_option maxHeartbeats 3200000 in
theorem ref20_Swap (ps : List Pair) (s : List UInt8) (A cap : Nat) (w : World) (hd : (ps.map (·.1)).Nodup) (hrow : ∀ (k : Nat) (p : Pair), ps[k]? = some p → w.cell? ⟨A, k, none⟩ = some (.string ⟨p.2.toArray⟩)) (hn : ps.length ≤ 100) (hl : (swapL (substL ps) s).length ≤ 1000000000000000) (hs : s.length ≤ 1000000000000000) :
    Calls Tryz.prog 27 #[.string ⟨s.toArray⟩, .string ⟨(ps.map (·.1)).toArray⟩, .slice (some ⟨A, 0, none⟩) ps.length cap] w fun e w' => e = .returned (.string ⟨(swapL (substL ps) s).toArray⟩) ∧ Below w.heap.size w w' := by
  have hsz : (⟨s.toArray⟩ : ByteArray).size = s.length := rfl
  have hkz : (⟨(ps.map (·.1)).toArray⟩ : ByteArray).size = ps.length := by show (ps.map (·.1)).length = _; simp
  have hext := extract_byte s
  obtain ⟨sb, hsb⟩ : ∃ sb : ByteArray, sb = ⟨s.toArray⟩ := ⟨_, rfl⟩
  obtain ⟨kb, hkb⟩ : ∃ kb : ByteArray, kb = ⟨(ps.map (·.1)).toArray⟩ := ⟨_, rfl⟩
  rw [← hsb] at hsz hext ⊢
  rw [← hkb] at hkz ⊢
  obtain ⟨n, hnE⟩ : ∃ n, n = ps.length := ⟨_, rfl⟩
  rw [← hnE] at hkz hn ⊢
  obtain ⟨T, hT⟩ : ∃ T, T = swapL (substL ps) s := ⟨_, rfl⟩
  rw [← hT] at hl ⊢
  replace hT := hid hT
  replace hnE := hid hnE
  replace hsb := hid hsb
  replace hkb := hid hkb
  replace hext := hid hext
  replace hrow := hid hrow
  replace hd := hid hd
  go_enter Tryz.func27, Tryz.ntmps27
  go_wp2_with fail
  go_loopw [7, 8] (fun v7 v8 wr => Hid (Below w.heap.size w wr) ∧ ∃ i : Nat, i ≤ s.length ∧ v8 = .int .i64 (i : Nat) ∧ v7 = .string ⟨(swapL (substL ps) (s.take i)).toArray⟩) (fun _ v8 _ => s.length - (intOf v8).toNat)
  case atStart => exact ⟨hid (Below.refl _ _), 0, Nat.zero_le _, rfl, rfl⟩
  case round =>
    obtain ⟨HB, i, hi, rfl, rfl⟩ := hrel
    by_cases hlt : i < s.length
    · have hlt2 : (i : Int) < (s.length : Int) := by omega
      obtain ⟨c, hc⟩ : ∃ c, c = s[i] := ⟨_, rfl⟩
      have hix := fun W => index_byteR (s := sb) (i := i) (c := c.toNat) rfl (by rw [hsz]; exact hlt) (by
        have : ∀ h, sb[i]'h = s[i] := by rw [hsb.out]; intro h; rfl
        rw [this, hc]) W
      have hex := hext.out i hlt
      rw [← hc] at hex
      have htk := swapL_take (substL ps) s i hlt
      rw [← hc] at htk
      have hle := swapL_le (substL ps) s (i + 1)
      rw [htk, ← hT.out, List.length_append] at hle
      obtain ⟨S, hS⟩ : ∃ S : ByteArray, S = ⟨(swapL (substL ps) (s.take i)).toArray⟩ := ⟨_, rfl⟩
      have hSz : S.size = (swapL (substL ps) (s.take i)).length := by rw [hS]; rfl
      rw [← hS]
      generalize (swapL (substL ps) (s.take i)).length = LS at *
      have HTK := hid htk
      have HS := hid hS
      have hle1 : S.size ≤ 1000000000000000 := by omega
      have hle2 : (substL ps c).length ≤ 1000000000000000 := by omega
      have hw1 : IntKind.i64.wrap ((i : Int) + 1) = ((i + 1 : Nat) : Int) := by rw [IntWalk.i64_in _ (by omega)]; omega
      clear hc htk hS hle hSz
      go_wp2_with fail
      go_loopw [9, 10] (fun v9 v10 wr2 => Hid (Below w.heap.size w wr2) ∧ ∃ k : Nat, k ≤ n ∧ v10 = .int .i64 (k : Nat) ∧ v9 = .string ⟨(substL (ps.take k) c).toArray⟩) (fun _ v10 _ => n - (intOf v10).toNat)
      case atStart => exact ⟨HB, 0, Nat.zero_le _, rfl, rfl⟩
      case round =>
        clear hex
        obtain ⟨HB2, k, hk, rfl, rfl⟩ := hrel
        by_cases hlt3 : k < n
        · have hlt4 : (k : Int) < (n : Int) := by omega
          obtain ⟨p, hp⟩ : ∃ p, ps[k]? = some p := ⟨_, List.getElem?_eq_getElem (by rw [← hnE.out]; exact hlt3)⟩
          have hkx := fun W => index_byteR (s := kb) (i := k) (c := p.1.toNat) rfl (by rw [hkz]; exact hlt3) (by
            have hp2 := List.getElem?_eq_some_iff.1 hp
            have : ∀ h, kb[k]'h = p.1 := by
              rw [hkb.out]
              intro h
              show (ps.map (·.1)).toArray[k]'_ = p.1
              simp [hp2.2]
            rw [this]) W
          have hst := subst_take hd.out c hp
          have r1 := (HB2.out.cell (cell_lt (hrow.out k p hp))).trans (hrow.out k p hp)
          obtain ⟨tb, htb⟩ : ∃ tb : ByteArray, tb = ⟨(substL (ps.take k) c).toArray⟩ := ⟨_, rfl⟩
          rw [← htb]
          by_cases hpc : p.1 = c
          · rw [if_pos hpc] at hst
            have e1 : ((c.toNat : Int) == (p.1.toNat : Int)) = true := by rw [hpc]; simp
            have HST := hid hst
            clear hst hpc hp htb
            generalize p.1.toNat = pn at *
            go_wp2_with fail
            go_quiet (fail)
            go_wp2_with fail
            go_roundw
            case rel => exact ⟨hid (HB2.out.trans ⟨rfl, rfl, rfl, Nat.le_refl _, fun _ _ => rfl⟩), k + 1, by omega, by go_num, by rw [HST.out]⟩
            case measure => simp [intOf]; omega
          · rw [if_neg hpc] at hst
            have e1 : ((c.toNat : Int) == (p.1.toNat : Int)) = false := by
              rw [beq_eq_false_iff_ne]
              intro e
              exact hpc (UInt8.toNat_inj.1 (by omega)).symm
            have HST := hid (show (⟨(substL (ps.take (k + 1)) c).toArray⟩ : ByteArray) = tb by rw [hst, htb])
            clear hst hpc hp htb
            generalize p.1.toNat = pn at *
            go_wp2_with fail
            go_quiet (fail)
            go_wp2_with fail
            go_roundw
            case rel => exact ⟨hid (HB2.out.trans ⟨rfl, rfl, rfl, Nat.le_refl _, fun _ _ => rfl⟩), k + 1, by omega, by go_num, by rw [HST.out]⟩
            case measure => simp [intOf]; omega
        · have hlt4 : ¬ (k : Int) < (n : Int) := by omega
          have hfull : ps.take k = ps := List.take_of_length_le (by rw [← hnE.out]; omega)
          rw [hfull]
          have HX := hid (show S ++ ⟨(substL ps c).toArray⟩ = (⟨(swapL (substL ps) (s.take (i + 1))).toArray⟩ : ByteArray) by rw [HTK.out, HS.out, bytes_app])
          have htz : (⟨(substL ps c).toArray⟩ : ByteArray).size = (substL ps c).length := rfl
          generalize (⟨(substL ps c).toArray⟩ : ByteArray) = tb at *
          clear hfull
          go_wp2_with fail
          go_roundw
          case rel => exact ⟨HB2, i + 1, by omega, by go_num, by rw [HX.out]⟩
          case measure => simp [intOf]; omega
    · have hlt2 : ¬ (i : Int) < (s.length : Int) := by omega
      have hfull : s.take i = s := List.take_of_length_le (by omega)
      rw [hfull, ← hT.out]
      clear hfull
      go_wp2_with fail
      go_ret
      exact ⟨rfl, HB.out⟩

end Go.Proofs.YtldhebpkplglcaaGreatDoor

namespace Go.Proofs.YtldhebpkplglcaaGreatDoor
open Go.RowKit

set_option maxRecDepth 100000 in
set_option maxHeartbeats 6400000 in
theorem ref20_free (c : UInt8) (w : World) : Calls Tryz.prog 51 #[.int .u8 c.toNat] w fun e w' => e = .returned (.bool (freeB c)) ∧ w' = w := by
  have hc := u8_lt c
  have key : ∀ n : Fin 256, freeB (UInt8.ofNat n.val) = decide ((97 ≤ n.val ∧ n.val ≤ 122) ∨ (65 ≤ n.val ∧ n.val ≤ 90) ∨ (48 ≤ n.val ∧ n.val ≤ 57) ∨ n.val = 45 ∨ n.val = 95 ∨ n.val = 46 ∨ n.val = 126) := by decide +kernel
  have hk := key ⟨c.toNat, hc⟩
  rw [show UInt8.ofNat (⟨c.toNat, hc⟩ : Fin 256).val = c from UInt8.ofNat_toNat] at hk
  dsimp only at hk
  obtain ⟨C, hC⟩ : ∃ C : Int, C = (c.toNat : Int) := ⟨_, rfl⟩
  rw [← hC]
  have hC0 : 0 ≤ C := by omega
  have hC1 : C ≤ 255 := by omega
  clear key
  rcases (show (0 ≤ C ∧ C ≤ 44) ∨ (45 ≤ C ∧ C ≤ 45) ∨ (46 ≤ C ∧ C ≤ 46) ∨ (47 ≤ C ∧ C ≤ 47) ∨ (48 ≤ C ∧ C ≤ 57) ∨ (58 ≤ C ∧ C ≤ 64) ∨ (65 ≤ C ∧ C ≤ 90) ∨ (91 ≤ C ∧ C ≤ 94) ∨ (95 ≤ C ∧ C ≤ 95) ∨ (96 ≤ C ∧ C ≤ 96) ∨ (97 ≤ C ∧ C ≤ 122) ∨ (123 ≤ C ∧ C ≤ 125) ∨ (126 ≤ C ∧ C ≤ 126) ∨ (127 ≤ C ∧ C ≤ 255) by omega) with ⟨i0, i1⟩ | ⟨i0, i1⟩ | ⟨i0, i1⟩ | ⟨i0, i1⟩ | ⟨i0, i1⟩ | ⟨i0, i1⟩ | ⟨i0, i1⟩ | ⟨i0, i1⟩ | ⟨i0, i1⟩ | ⟨i0, i1⟩ | ⟨i0, i1⟩ | ⟨i0, i1⟩ | ⟨i0, i1⟩ | ⟨i0, i1⟩
  · have hf : freeB c = false := by rw [hk]; exact decide_eq_false (by omega)
    rw [hf]
    have t0 : ¬ (C ≥ 97) := by omega
    have t1 : (C ≤ 122) := by omega
    have t2 : ¬ (C ≥ 65) := by omega
    have t3 : (C ≤ 90) := by omega
    have t4 : ¬ (C ≥ 48) := by omega
    have t5 : (C ≤ 57) := by omega
    have t6 : (C == 45) = false := by rw [beq_eq_false_iff_ne]; omega
    have t7 : (C == 95) = false := by rw [beq_eq_false_iff_ne]; omega
    have t8 : (C == 46) = false := by rw [beq_eq_false_iff_ne]; omega
    have t9 : (C == 126) = false := by rw [beq_eq_false_iff_ne]; omega
    clear hf hk hC i0 i1 hC0 hC1 hc
    go_enter Tryz.func51, Tryz.ntmps51
    go_wp2_with fail
    go_ret
    exact ⟨rfl, rfl⟩
  · have hf : freeB c = true := by rw [hk]; exact decide_eq_true (by omega)
    rw [hf]
    have t0 : ¬ (C ≥ 97) := by omega
    have t1 : (C ≤ 122) := by omega
    have t2 : ¬ (C ≥ 65) := by omega
    have t3 : (C ≤ 90) := by omega
    have t4 : ¬ (C ≥ 48) := by omega
    have t5 : (C ≤ 57) := by omega
    have t6 : (C == 45) = true := by rw [beq_iff_eq]; omega
    have t7 : (C == 95) = false := by rw [beq_eq_false_iff_ne]; omega
    have t8 : (C == 46) = false := by rw [beq_eq_false_iff_ne]; omega
    have t9 : (C == 126) = false := by rw [beq_eq_false_iff_ne]; omega
    clear hf hk hC i0 i1 hC0 hC1 hc
    go_enter Tryz.func51, Tryz.ntmps51
    go_wp2_with fail
    go_ret
    exact ⟨rfl, rfl⟩
  · have hf : freeB c = true := by rw [hk]; exact decide_eq_true (by omega)
    rw [hf]
    have t0 : ¬ (C ≥ 97) := by omega
    have t1 : (C ≤ 122) := by omega
    have t2 : ¬ (C ≥ 65) := by omega
    have t3 : (C ≤ 90) := by omega
    have t4 : ¬ (C ≥ 48) := by omega
    have t5 : (C ≤ 57) := by omega
    have t6 : (C == 45) = false := by rw [beq_eq_false_iff_ne]; omega
    have t7 : (C == 95) = false := by rw [beq_eq_false_iff_ne]; omega
    have t8 : (C == 46) = true := by rw [beq_iff_eq]; omega
    have t9 : (C == 126) = false := by rw [beq_eq_false_iff_ne]; omega
    clear hf hk hC i0 i1 hC0 hC1 hc
    go_enter Tryz.func51, Tryz.ntmps51
    go_wp2_with fail
    go_ret
    exact ⟨rfl, rfl⟩
  · have hf : freeB c = false := by rw [hk]; exact decide_eq_false (by omega)
    rw [hf]
    have t0 : ¬ (C ≥ 97) := by omega
    have t1 : (C ≤ 122) := by omega
    have t2 : ¬ (C ≥ 65) := by omega
    have t3 : (C ≤ 90) := by omega
    have t4 : ¬ (C ≥ 48) := by omega
    have t5 : (C ≤ 57) := by omega
    have t6 : (C == 45) = false := by rw [beq_eq_false_iff_ne]; omega
    have t7 : (C == 95) = false := by rw [beq_eq_false_iff_ne]; omega
    have t8 : (C == 46) = false := by rw [beq_eq_false_iff_ne]; omega
    have t9 : (C == 126) = false := by rw [beq_eq_false_iff_ne]; omega
    clear hf hk hC i0 i1 hC0 hC1 hc
    go_enter Tryz.func51, Tryz.ntmps51
    go_wp2_with fail
    go_ret
    exact ⟨rfl, rfl⟩
  · have hf : freeB c = true := by rw [hk]; exact decide_eq_true (by omega)
    rw [hf]
    have t0 : ¬ (C ≥ 97) := by omega
    have t1 : (C ≤ 122) := by omega
    have t2 : ¬ (C ≥ 65) := by omega
    have t3 : (C ≤ 90) := by omega
    have t4 : (C ≥ 48) := by omega
    have t5 : (C ≤ 57) := by omega
    have t6 : (C == 45) = false := by rw [beq_eq_false_iff_ne]; omega
    have t7 : (C == 95) = false := by rw [beq_eq_false_iff_ne]; omega
    have t8 : (C == 46) = false := by rw [beq_eq_false_iff_ne]; omega
    have t9 : (C == 126) = false := by rw [beq_eq_false_iff_ne]; omega
    clear hf hk hC i0 i1 hC0 hC1 hc
    go_enter Tryz.func51, Tryz.ntmps51
    go_wp2_with fail
    go_ret
    exact ⟨rfl, rfl⟩
  · have hf : freeB c = false := by rw [hk]; exact decide_eq_false (by omega)
    rw [hf]
    have t0 : ¬ (C ≥ 97) := by omega
    have t1 : (C ≤ 122) := by omega
    have t2 : ¬ (C ≥ 65) := by omega
    have t3 : (C ≤ 90) := by omega
    have t4 : (C ≥ 48) := by omega
    have t5 : ¬ (C ≤ 57) := by omega
    have t6 : (C == 45) = false := by rw [beq_eq_false_iff_ne]; omega
    have t7 : (C == 95) = false := by rw [beq_eq_false_iff_ne]; omega
    have t8 : (C == 46) = false := by rw [beq_eq_false_iff_ne]; omega
    have t9 : (C == 126) = false := by rw [beq_eq_false_iff_ne]; omega
    clear hf hk hC i0 i1 hC0 hC1 hc
    go_enter Tryz.func51, Tryz.ntmps51
    go_wp2_with fail
    go_ret
    exact ⟨rfl, rfl⟩
  · have hf : freeB c = true := by rw [hk]; exact decide_eq_true (by omega)
    rw [hf]
    have t0 : ¬ (C ≥ 97) := by omega
    have t1 : (C ≤ 122) := by omega
    have t2 : (C ≥ 65) := by omega
    have t3 : (C ≤ 90) := by omega
    have t4 : (C ≥ 48) := by omega
    have t5 : ¬ (C ≤ 57) := by omega
    have t6 : (C == 45) = false := by rw [beq_eq_false_iff_ne]; omega
    have t7 : (C == 95) = false := by rw [beq_eq_false_iff_ne]; omega
    have t8 : (C == 46) = false := by rw [beq_eq_false_iff_ne]; omega
    have t9 : (C == 126) = false := by rw [beq_eq_false_iff_ne]; omega
    clear hf hk hC i0 i1 hC0 hC1 hc
    go_enter Tryz.func51, Tryz.ntmps51
    go_wp2_with fail
    go_ret
    exact ⟨rfl, rfl⟩
  · have hf : freeB c = false := by rw [hk]; exact decide_eq_false (by omega)
    rw [hf]
    have t0 : ¬ (C ≥ 97) := by omega
    have t1 : (C ≤ 122) := by omega
    have t2 : (C ≥ 65) := by omega
    have t3 : ¬ (C ≤ 90) := by omega
    have t4 : (C ≥ 48) := by omega
    have t5 : ¬ (C ≤ 57) := by omega
    have t6 : (C == 45) = false := by rw [beq_eq_false_iff_ne]; omega
    have t7 : (C == 95) = false := by rw [beq_eq_false_iff_ne]; omega
    have t8 : (C == 46) = false := by rw [beq_eq_false_iff_ne]; omega
    have t9 : (C == 126) = false := by rw [beq_eq_false_iff_ne]; omega
    clear hf hk hC i0 i1 hC0 hC1 hc
    go_enter Tryz.func51, Tryz.ntmps51
    go_wp2_with fail
    go_ret
    exact ⟨rfl, rfl⟩
  · have hf : freeB c = true := by rw [hk]; exact decide_eq_true (by omega)
    rw [hf]
    have t0 : ¬ (C ≥ 97) := by omega
    have t1 : (C ≤ 122) := by omega
    have t2 : (C ≥ 65) := by omega
    have t3 : ¬ (C ≤ 90) := by omega
    have t4 : (C ≥ 48) := by omega
    have t5 : ¬ (C ≤ 57) := by omega
    have t6 : (C == 45) = false := by rw [beq_eq_false_iff_ne]; omega
    have t7 : (C == 95) = true := by rw [beq_iff_eq]; omega
    have t8 : (C == 46) = false := by rw [beq_eq_false_iff_ne]; omega
    have t9 : (C == 126) = false := by rw [beq_eq_false_iff_ne]; omega
    clear hf hk hC i0 i1 hC0 hC1 hc
    go_enter Tryz.func51, Tryz.ntmps51
    go_wp2_with fail
    go_ret
    exact ⟨rfl, rfl⟩
  · have hf : freeB c = false := by rw [hk]; exact decide_eq_false (by omega)
    rw [hf]
    have t0 : ¬ (C ≥ 97) := by omega
    have t1 : (C ≤ 122) := by omega
    have t2 : (C ≥ 65) := by omega
    have t3 : ¬ (C ≤ 90) := by omega
    have t4 : (C ≥ 48) := by omega
    have t5 : ¬ (C ≤ 57) := by omega
    have t6 : (C == 45) = false := by rw [beq_eq_false_iff_ne]; omega
    have t7 : (C == 95) = false := by rw [beq_eq_false_iff_ne]; omega
    have t8 : (C == 46) = false := by rw [beq_eq_false_iff_ne]; omega
    have t9 : (C == 126) = false := by rw [beq_eq_false_iff_ne]; omega
    clear hf hk hC i0 i1 hC0 hC1 hc
    go_enter Tryz.func51, Tryz.ntmps51
    go_wp2_with fail
    go_ret
    exact ⟨rfl, rfl⟩
  · have hf : freeB c = true := by rw [hk]; exact decide_eq_true (by omega)
    rw [hf]
    have t0 : (C ≥ 97) := by omega
    have t1 : (C ≤ 122) := by omega
    have t2 : (C ≥ 65) := by omega
    have t3 : ¬ (C ≤ 90) := by omega
    have t4 : (C ≥ 48) := by omega
    have t5 : ¬ (C ≤ 57) := by omega
    have t6 : (C == 45) = false := by rw [beq_eq_false_iff_ne]; omega
    have t7 : (C == 95) = false := by rw [beq_eq_false_iff_ne]; omega
    have t8 : (C == 46) = false := by rw [beq_eq_false_iff_ne]; omega
    have t9 : (C == 126) = false := by rw [beq_eq_false_iff_ne]; omega
    clear hf hk hC i0 i1 hC0 hC1 hc
    go_enter Tryz.func51, Tryz.ntmps51
    go_wp2_with fail
    go_ret
    exact ⟨rfl, rfl⟩
  · have hf : freeB c = false := by rw [hk]; exact decide_eq_false (by omega)
    rw [hf]
    have t0 : (C ≥ 97) := by omega
    have t1 : ¬ (C ≤ 122) := by omega
    have t2 : (C ≥ 65) := by omega
    have t3 : ¬ (C ≤ 90) := by omega
    have t4 : (C ≥ 48) := by omega
    have t5 : ¬ (C ≤ 57) := by omega
    have t6 : (C == 45) = false := by rw [beq_eq_false_iff_ne]; omega
    have t7 : (C == 95) = false := by rw [beq_eq_false_iff_ne]; omega
    have t8 : (C == 46) = false := by rw [beq_eq_false_iff_ne]; omega
    have t9 : (C == 126) = false := by rw [beq_eq_false_iff_ne]; omega
    clear hf hk hC i0 i1 hC0 hC1 hc
    go_enter Tryz.func51, Tryz.ntmps51
    go_wp2_with fail
    go_ret
    exact ⟨rfl, rfl⟩
  · have hf : freeB c = true := by rw [hk]; exact decide_eq_true (by omega)
    rw [hf]
    have t0 : (C ≥ 97) := by omega
    have t1 : ¬ (C ≤ 122) := by omega
    have t2 : (C ≥ 65) := by omega
    have t3 : ¬ (C ≤ 90) := by omega
    have t4 : (C ≥ 48) := by omega
    have t5 : ¬ (C ≤ 57) := by omega
    have t6 : (C == 45) = false := by rw [beq_eq_false_iff_ne]; omega
    have t7 : (C == 95) = false := by rw [beq_eq_false_iff_ne]; omega
    have t8 : (C == 46) = false := by rw [beq_eq_false_iff_ne]; omega
    have t9 : (C == 126) = true := by rw [beq_iff_eq]; omega
    clear hf hk hC i0 i1 hC0 hC1 hc
    go_enter Tryz.func51, Tryz.ntmps51
    go_wp2_with fail
    go_ret
    exact ⟨rfl, rfl⟩
  · have hf : freeB c = false := by rw [hk]; exact decide_eq_false (by omega)
    rw [hf]
    have t0 : (C ≥ 97) := by omega
    have t1 : ¬ (C ≤ 122) := by omega
    have t2 : (C ≥ 65) := by omega
    have t3 : ¬ (C ≤ 90) := by omega
    have t4 : (C ≥ 48) := by omega
    have t5 : ¬ (C ≤ 57) := by omega
    have t6 : (C == 45) = false := by rw [beq_eq_false_iff_ne]; omega
    have t7 : (C == 95) = false := by rw [beq_eq_false_iff_ne]; omega
    have t8 : (C == 46) = false := by rw [beq_eq_false_iff_ne]; omega
    have t9 : (C == 126) = false := by rw [beq_eq_false_iff_ne]; omega
    clear hf hk hC i0 i1 hC0 hC1 hc
    go_enter Tryz.func51, Tryz.ntmps51
    go_wp2_with fail
    go_ret
    exact ⟨rfl, rfl⟩

theorem hexU_cut (j : Nat) (hj : j < 16) : (⟨#[48, 49, 50, 51, 52, 53, 54, 55, 56, 57, 65, 66, 67, 68, 69, 70]⟩ : ByteArray).extract j (j + 1) = ⟨#[hexU j]⟩ := by
  have key : ∀ i : Fin 16, (⟨#[48, 49, 50, 51, 52, 53, 54, 55, 56, 57, 65, 66, 67, 68, 69, 70]⟩ : ByteArray).extract i.val (i.val + 1) = ⟨#[hexU i.val]⟩ := by decide +kernel
  exact key ⟨j, hj⟩
theorem uriB_len (c : UInt8) : (uriB c).length ≤ 3 := by unfold uriB; split <;> simp

set_option maxRecDepth 100000 in
set_option maxHeartbeats 3200000 in
theorem ref20_Uri (s : List UInt8) (w : World) (hs : s.length ≤ 100000000000) :
    Calls Tryz.prog 28 #[.string ⟨s.toArray⟩] w fun e w' => e = .returned (.string ⟨(uriL s).toArray⟩) ∧ Below w.heap.size w w' := by
  have hsz : (⟨s.toArray⟩ : ByteArray).size = s.length := rfl
  have hext := extract_byte s
  obtain ⟨sb, hsb⟩ : ∃ sb : ByteArray, sb = ⟨s.toArray⟩ := ⟨_, rfl⟩
  rw [← hsb] at hsz hext ⊢
  have hl := swapL_lenK uriB_len s
  obtain ⟨T, hT⟩ : ∃ T, T = uriL s := ⟨_, rfl⟩
  rw [show swapL uriB s = uriL s from rfl, ← hT] at hl
  rw [← hT]
  have hT2 : T = swapL uriB s := hT
  replace hT2 := hid hT2
  replace hsb := hid hsb
  replace hext := hid hext
  clear hT
  go_enter Tryz.func28, Tryz.ntmps28
  go_wp2_with fail
  go_loopw [4, 5] (fun v4 v5 wr => Hid (Below w.heap.size w wr) ∧ ∃ i : Nat, i ≤ s.length ∧ v5 = .int .i64 (i : Nat) ∧ v4 = .string ⟨(swapL uriB (s.take i)).toArray⟩) (fun _ v5 _ => s.length - (intOf v5).toNat)
  case atStart => exact ⟨hid (Below.refl _ _), 0, Nat.zero_le _, rfl, rfl⟩
  case round =>
    obtain ⟨HB, i, hi, rfl, rfl⟩ := hrel
    by_cases hlt : i < s.length
    · have hlt2 : (i : Int) < (s.length : Int) := by omega
      obtain ⟨c, hc⟩ : ∃ c, c = s[i] := ⟨_, rfl⟩
      have hix := fun W => index_byteR (s := sb) (i := i) (c := c.toNat) rfl (by rw [hsz]; exact hlt) (by
        have : ∀ h, sb[i]'h = s[i] := by rw [hsb.out]; intro h; rfl
        rw [this, hc]) W
      have hex := hext.out i hlt
      rw [← hc] at hex
      have htk := swapL_take uriB s i hlt
      rw [← hc] at htk
      have hle := swapL_le uriB s (i + 1)
      rw [htk, ← hT2.out, List.length_append] at hle
      obtain ⟨S, hS⟩ : ∃ S : ByteArray, S = ⟨(swapL uriB (s.take i)).toArray⟩ := ⟨_, rfl⟩
      have hSz : S.size = (swapL uriB (s.take i)).length := by rw [hS]; rfl
      rw [← hS]
      have hle1 : S.size ≤ 1000000000000 := by omega
      have HTK := hid htk
      have HS := hid hS
      have CF := hid fun W => ref20_free c W
      have hc256 := u8_lt c
      cases hf : freeB c with
      | true =>
        have hu : uriB c = [c] := by unfold uriB; rw [if_pos hf]
        have HX := hid (show S ++ ⟨#[c]⟩ = (⟨(swapL uriB (s.take (i + 1))).toArray⟩ : ByteArray) by rw [HTK.out, HS.out, hu, bytes_app])
        rw [hf] at CF
        clear hc htk hS hle hSz hu hf HTK
        go_wp2_with fail
        refine (CF.out _).mono ?_
        rintro e w1 ⟨rfl, hw1⟩
        rw [hw1]
        clear hw1 w1 CF
        go_wp2_with fail
        go_roundw
        case rel => exact ⟨HB, i + 1, by omega, by go_num, by rw [HX.out]⟩
        case measure => simp [intOf]; omega
      | false =>
        have hu : uriB c = [37, hexU (c.toNat / 16), hexU (c.toNat % 16)] := by unfold uriB; rw [hf]; rfl
        have HX := hid (show S ++ ⟨#[37]⟩ ++ ⟨#[hexU (c.toNat / 16)]⟩ ++ ⟨#[hexU (c.toNat % 16)]⟩ = (⟨(swapL uriB (s.take (i + 1))).toArray⟩ : ByteArray) by rw [HTK.out, HS.out, hu, bytes_app, bytes_app, bytes_app]; simp)
        have hx1 := hexU_cut (c.toNat / 16) (by omega)
        have hx2 := hexU_cut (c.toNat % 16) (by omega)
        rw [hf] at CF
        generalize hexU (c.toNat / 16) = d1 at *
        generalize hexU (c.toNat % 16) = d2 at *
        clear hc htk hS hle hSz hu hf HTK hex
        go_wp2_with fail
        refine (CF.out _).mono ?_
        rintro e w1 ⟨rfl, hw1⟩
        rw [hw1]
        clear hw1 w1 CF hix
        go_wp2_with fail
        go_quiet (fail)
        go_wp2_with fail
        go_roundw
        case rel => exact ⟨hid (HB.out.trans ⟨rfl, rfl, rfl, Nat.le_refl _, fun _ _ => rfl⟩), i + 1, by omega, by go_num, by rw [HX.out]⟩
        case measure => simp [intOf]; omega
    · have hlt2 : ¬ (i : Int) < (s.length : Int) := by omega
      have hfull : s.take i = s := List.take_of_length_le (by omega)
      rw [hfull, ← hT2.out]
      clear hfull
      go_wp2_with fail
      go_ret
      exact ⟨rfl, HB.out⟩

end Go.Proofs.YtldhebpkplglcaaGreatDoor

namespace Go.Proofs.YtldhebpkplglcaaGreatDoor
open Go.RowKit

theorem ref20_signs (w : World) : Calls Tryz.prog 52 #[] w fun e w' => e = .returned (.string ⟨signL.toArray⟩) ∧ w' = w := by
  go_enter Tryz.func52, Tryz.ntmps52
  go_wp2_with fail
  go_ret
  exact ⟨rfl, rfl⟩
theorem sgn_cut (j : Nat) (hj : j < 64) : (⟨signL.toArray⟩ : ByteArray).extract j (j + 1) = ⟨#[sgnB j]⟩ := by
  have key : ∀ i : Fin 64, (⟨signL.toArray⟩ : ByteArray).extract i.val (i.val + 1) = ⟨#[sgnB i.val]⟩ := by decide +kernel
  exact key ⟨j, hj⟩
theorem b64_app : ∀ (k : Nat) (l r : List UInt8), l.length = 3 * k → b64 (l ++ r) = b64 l ++ b64 r
  | 0, l, r, h => by
    obtain rfl : l = [] := List.length_eq_zero_iff.1 (by omega)
    rfl
  | k + 1, l, r, h => by
    match l, h with
    | a :: b :: c :: l, h =>
      have h2 : l.length = 3 * k := by simp at h; omega
      rw [show (a :: b :: c :: l) ++ r = a :: b :: c :: (l ++ r) from rfl, b64, b64, b64_app k l r h2]
      rfl
    | [a, b], h => simp at h; omega
    | [a], h => simp at h; omega
    | [], h => simp at h
/-- Four signs, from the last. -/
def fourS (n : Nat) : Nat → List UInt8
  | 0 => []
  | k + 1 => sgnB (n / 64 ^ k % 64) :: fourS n k
/-- The number of a group, so many bytes in. -/
def grpN (x0 x1 x2 : Nat) : Nat → Nat
  | 0 => 0
  | 1 => x0
  | 2 => x0 * 256 + x1
  | _ => (x0 * 256 + x1) * 256 + x2
/-- A group of at most three bytes, as Base writes it. -/
def grpS (m n : Nat) : List UInt8 := if m = 1 then (fourS n 4).take 2 ++ [61, 61] else if m = 2 then (fourS n 4).take 3 ++ [61] else fourS n 4
theorem grp_three (a b c : UInt8) : grpS 3 (grpN a.toNat b.toNat c.toNat 3) = b64 [a, b, c] := by
  have ha := u8_lt a
  have hb := u8_lt b
  have hc := u8_lt c
  show fourS _ 4 = [sgnB (a.toNat / 4), sgnB (a.toNat % 4 * 16 + b.toNat / 16), sgnB (b.toNat % 16 * 4 + c.toNat / 64), sgnB (c.toNat % 64)]
  simp only [fourS, grpN]
  rw [show ((a.toNat * 256 + b.toNat) * 256 + c.toNat) / 64 ^ 3 % 64 = a.toNat / 4 by omega, show ((a.toNat * 256 + b.toNat) * 256 + c.toNat) / 64 ^ 2 % 64 = a.toNat % 4 * 16 + b.toNat / 16 by omega,
    show ((a.toNat * 256 + b.toNat) * 256 + c.toNat) / 64 ^ 1 % 64 = b.toNat % 16 * 4 + c.toNat / 64 by omega, show ((a.toNat * 256 + b.toNat) * 256 + c.toNat) / 64 ^ 0 % 64 = c.toNat % 64 by omega]
theorem grp_two (a b : UInt8) : grpS 2 (grpN a.toNat b.toNat 0 3) = b64 [a, b] := by
  have ha := u8_lt a
  have hb := u8_lt b
  show (fourS _ 4).take 3 ++ [61] = [sgnB (a.toNat / 4), sgnB (a.toNat % 4 * 16 + b.toNat / 16), sgnB (b.toNat % 16 * 4), 61]
  simp only [fourS, grpN]
  rw [show ((a.toNat * 256 + b.toNat) * 256 + 0) / 64 ^ 3 % 64 = a.toNat / 4 by omega, show ((a.toNat * 256 + b.toNat) * 256 + 0) / 64 ^ 2 % 64 = a.toNat % 4 * 16 + b.toNat / 16 by omega,
    show ((a.toNat * 256 + b.toNat) * 256 + 0) / 64 ^ 1 % 64 = b.toNat % 16 * 4 by omega]
  rfl
theorem grp_one (a : UInt8) : grpS 1 (grpN a.toNat 0 0 3) = b64 [a] := by
  have ha := u8_lt a
  show (fourS _ 4).take 2 ++ [61, 61] = [sgnB (a.toNat / 4), sgnB (a.toNat % 4 * 16), 61, 61]
  simp only [fourS, grpN]
  rw [show ((a.toNat * 256 + 0) * 256 + 0) / 64 ^ 3 % 64 = a.toNat / 4 by omega, show ((a.toNat * 256 + 0) * 256 + 0) / 64 ^ 2 % 64 = a.toNat % 4 * 16 by omega]
  rfl
/-- A group of a text: its bytes, and what is written of it. -/
theorem grp_of (s : List UInt8) (j : Nat) (h : 3 * j < s.length) : ∃ m x0 x1 x2 : Nat, 1 ≤ m ∧ m ≤ 3 ∧ 3 * j + m ≤ s.length ∧ (m < 3 → 3 * j + m = s.length) ∧ x0 < 256 ∧ x1 < 256 ∧ x2 < 256 ∧ (∀ hk : 3 * j < s.length, (s[3 * j]'hk).toNat = x0) ∧
    (1 < m → ∀ hk : 3 * j + 1 < s.length, (s[3 * j + 1]'hk).toNat = x1) ∧ (m ≤ 1 → x1 = 0) ∧ (2 < m → ∀ hk : 3 * j + 2 < s.length, (s[3 * j + 2]'hk).toNat = x2) ∧ (m ≤ 2 → x2 = 0) ∧ b64 (s.take (3 * (j + 1))) = b64 (s.take (3 * j)) ++ grpS m (grpN x0 x1 x2 3) := by
  have hl : (s.take (3 * j)).length = 3 * j := by rw [List.length_take]; omega
  have ht : s.take (3 * (j + 1)) = s.take (3 * j) ++ (s.drop (3 * j)).take 3 := by
    rw [show 3 * (j + 1) = 3 * j + 3 by omega, List.take_add]
  rw [ht, b64_app j _ _ hl]
  have u0 := u8_lt s[3 * j]
  by_cases h1 : s.length = 3 * j + 1
  · refine ⟨1, s[3 * j].toNat, 0, 0, by omega, by omega, by omega, fun _ => by omega, u0, by omega, by omega, fun _ => rfl, fun h => by omega, fun _ => rfl, fun h => by omega, fun _ => rfl, ?_⟩
    rw [grp_one]
    rw [List.drop_eq_getElem_cons h, List.drop_of_length_le (by omega)]
    rfl
  · have h2 : 3 * j + 1 < s.length := by omega
    have u1 := u8_lt s[3 * j + 1]
    by_cases h3 : s.length = 3 * j + 2
    · refine ⟨2, s[3 * j].toNat, s[3 * j + 1].toNat, 0, by omega, by omega, by omega, fun _ => by omega, u0, u1, by omega, fun _ => rfl, fun _ _ => rfl, fun h => by omega, fun h => by omega, fun _ => rfl, ?_⟩
      rw [grp_two]
      rw [List.drop_eq_getElem_cons h, List.drop_eq_getElem_cons h2, List.drop_of_length_le (by omega)]
      rfl
    · have h4 : 3 * j + 2 < s.length := by omega
      refine ⟨3, s[3 * j].toNat, s[3 * j + 1].toNat, s[3 * j + 2].toNat, by omega, by omega, by omega, fun h => by omega, u0, u1, u8_lt _, fun _ => rfl, fun _ _ => rfl, fun h => by omega, fun _ _ => rfl, fun h => by omega, ?_⟩
      rw [grp_three]
      rw [List.drop_eq_getElem_cons h, List.drop_eq_getElem_cons h2, List.drop_eq_getElem_cons h4]
      rfl

set_option maxRecDepth 100000 in
set_option maxHeartbeats 6400000 in
theorem ref20_Base (s : List UInt8) (w : World) (hs : s.length ≤ 100000000000) :
    Calls Tryz.prog 29 #[.string ⟨s.toArray⟩] w fun e w' => e = .returned (.string ⟨(b64 s).toArray⟩) ∧ w' = w := by
  have hsz : (⟨s.toArray⟩ : ByteArray).size = s.length := rfl
  obtain ⟨sb, hsb⟩ : ∃ sb : ByteArray, sb = ⟨s.toArray⟩ := ⟨_, rfl⟩
  rw [← hsb] at hsz ⊢
  have hix : ∀ (i x : Nat) (X : Int) (hX : X = (i : Int)) (hi : i < s.length) (hx : (s[i]'hi).toNat = x) W, (Instr.index 9 (.string sb) (.int .i64 X)).run Tryz.prog W = .ok (.int .u8 (x : Int)) W := fun i x X hX hi hx W => index_byteR hX (by rw [hsz]; exact hi) (by
    have : ∀ h, sb[i]'h = s[i] := by rw [hsb]; intro h; rfl
    rw [this, hx]) W
  replace hix := hid hix
  replace hsb := hid hsb
  have hG := hid (sgn_cut)
  have CS := hid ref20_signs
  have hLz : (⟨signL.toArray⟩ : ByteArray).size = 64 := rfl
  generalize (⟨signL.toArray⟩ : ByteArray) = al at *
  obtain ⟨T, hT⟩ : ∃ T, T = b64 s := ⟨_, rfl⟩
  rw [← hT]
  replace hT := hid hT
  go_enter Tryz.func29, Tryz.ntmps29
  go_wp2_with fail
  refine (CS.out _).mono ?_
  rintro e w1 ⟨rfl, hw1⟩
  rw [hw1]
  clear hw1 w1 CS
  go_wp2_with fail
  go_loopw [4, 5] (fun v4 v5 wr => wr = w ∧ ∃ j : Nat, 3 * j ≤ s.length + 2 ∧ v5 = .int .i64 ((3 * j : Nat) : Int) ∧ v4 = .string ⟨(b64 (s.take (3 * j))).toArray⟩) (fun _ v5 _ => s.length + 2 - (intOf v5).toNat)
  case atStart => exact ⟨rfl, 0, by omega, rfl, rfl⟩
  case round =>
    obtain ⟨hw, j, hj, rfl, rfl⟩ := hrel
    rw [hw]
    clear hw
    by_cases hlt : 3 * j < s.length
    · obtain ⟨m, x0, x1, x2, m1, m2, m3, m4, u0, u1, u2, e0, e1, z1, e2, z2, hb⟩ := grp_of s j hlt
      have hbl := b64_len (s.take (3 * j))
      obtain ⟨S, hS⟩ : ∃ S : ByteArray, S = ⟨(b64 (s.take (3 * j))).toArray⟩ := ⟨_, rfl⟩
      have hSz : S.size ≤ 1000000000000 := by
        have : S.size = (b64 (s.take (3 * j))).length := by rw [hS]; rfl
        rw [this, hbl, List.length_take]; omega
      rw [← hS]
      have HS := hid hS
      have HB := hid hb
      obtain ⟨i, hi⟩ : ∃ i, i = 3 * j := ⟨_, rfl⟩
      rw [← hi] at hlt e0 e1 e2 m3 m4 ⊢
      have i0 := fun W => hix.out i x0 i rfl hlt (e0 hlt) W
      have i1 : 1 < m → ∀ W, _ := fun h W => hix.out (i + 1) x1 ((i : Int) + 1) (by omega) (by omega) (e1 h (by omega)) W
      have i2 : 2 < m → ∀ W, _ := fun h W => hix.out (i + 2) x2 ((i : Int) + 2) (by omega) (by omega) (e2 h (by omega)) W
      have hlt2 : (i : Int) < (s.length : Int) := by omega
      replace hi := hid hi
      clear hb hbl hS e0 e1 e2
      go_wp2_with fail
      go_loopw [6, 7, 8] (fun v6 v7 v8 wr => wr = w ∧ ∃ k : Nat, k ≤ 3 ∧ v8 = .int .i64 (k : Nat) ∧ v7 = .int .i64 ((min k m : Nat) : Int) ∧ v6 = .int .i64 ((grpN x0 x1 x2 k : Nat) : Int)) (fun _ _ v8 _ => 3 - (intOf v8).toNat)
      case atStart => exact ⟨rfl, 0, by omega, rfl, by simp, rfl⟩
      case round =>
        obtain ⟨hw, k, hk, rfl, rfl, rfl⟩ := hrel
        rw [hw]
        clear hw
        obtain rfl | rfl | rfl | rfl : k = 0 ∨ k = 1 ∨ k = 2 ∨ k = 3 := by omega
        · rw [show min 0 m = 0 by omega, show grpN x0 x1 x2 0 = 0 from rfl]
          go_wp2_with fail
          go_roundw
          case rel => exact ⟨by trivial, 1, by omega, by go_num, by rw [show min 1 m = 1 by omega]; go_num, by first | rfl | go_num | (simp [grpN])⟩
          case measure => simp [intOf]
        · rw [show min 1 m = 1 by omega, show grpN x0 x1 x2 1 = x0 from rfl]
          by_cases hm : 1 < m
          · have i1' := i1 hm
            have p1 : (i : Int) + 1 < (s.length : Int) := by omega
            go_wp2_with fail
            go_roundw
            case rel => exact ⟨by trivial, 2, by omega, by go_num, by rw [show min 2 m = 2 by omega]; go_num, by first | rfl | (simp [grpN])⟩
            case measure => simp [intOf]
          · have p1 : ¬ (i : Int) + 1 < (s.length : Int) := by omega
            have z1' := z1 (by omega)
            have Z := hid (show grpN x0 x1 x2 2 = x0 * 256 by rw [z1']; rfl)
            clear z1'
            go_wp2_with fail
            go_roundw
            case rel => exact ⟨by trivial, 2, by omega, by go_num, by rw [show min 2 m = 1 by omega]; done, by first | (rw [Z.out]; done) | (rw [Z.out]; rfl) | (rw [Z.out]; simp)⟩
            case measure => simp [intOf]
        · rw [show grpN x0 x1 x2 2 = x0 * 256 + x1 from rfl]
          obtain ⟨q, hq⟩ : ∃ q, q = x0 * 256 + x1 := ⟨_, rfl⟩
          rw [← hq]
          have hqb : q ≤ 65535 := by omega
          have Hq := hid hq
          clear hq
          by_cases hm : 2 < m
          · have i2' := i2 hm
            have p1 : (i : Int) + 2 < (s.length : Int) := by omega
            have Z := hid (show grpN x0 x1 x2 3 = q * 256 + x2 by rw [Hq.out]; rfl)
            rw [show min 2 m = 2 by omega]
            go_wp2_with fail
            go_roundw
            case rel => exact ⟨by trivial, 3, by omega, by go_num, by rw [show min 3 m = 3 by omega]; go_num, by first | (rw [Z.out]; done) | (rw [Z.out]; rfl) | (rw [Z.out]; simp)⟩
            case measure => simp [intOf]
          · have p1 : ¬ (i : Int) + 2 < (s.length : Int) := by omega
            have z2' := z2 (by omega)
            have Z := hid (show grpN x0 x1 x2 3 = q * 256 by rw [Hq.out, z2']; rfl)
            clear z2'
            obtain ⟨hv, hhv⟩ : ∃ hv, hv = min 2 m := ⟨_, rfl⟩
            rw [← hhv]
            have Hh := hid hhv
            clear hhv
            go_wp2_with fail
            go_roundw
            case rel => exact ⟨by trivial, 3, by omega, by go_num, by rw [show min 3 m = min 2 m by omega, ← Hh.out], by first | (rw [Z.out]; done) | (rw [Z.out]; rfl) | (rw [Z.out]; simp)⟩
            case measure => simp [intOf]
        · rw [show min 3 m = m by omega]
          obtain ⟨n, hn⟩ : ∃ n, n = grpN x0 x1 x2 3 := ⟨_, rfl⟩
          rw [← hn] at HB ⊢
          have hnb : n < 16777216 := by rw [hn]; show (x0 * 256 + x1) * 256 + x2 < _; omega
          clear hn i0 i1 i2 z1 z2 u0 u1 u2
          go_wp2_with fail
          go_loopw [6, 9, 10] (fun v6 v9 v10 wr => wr = w ∧ ∃ k : Nat, k ≤ 4 ∧ v10 = .int .i64 (k : Nat) ∧ v9 = .string ⟨(fourS n k).toArray⟩ ∧ v6 = .int .i64 ((n / 64 ^ k : Nat) : Int)) (fun _ _ v10 _ => 4 - (intOf v10).toNat)
          case atStart => exact ⟨rfl, 0, by omega, rfl, rfl, by simp⟩
          case round =>
            obtain ⟨hw, k, hk, rfl, rfl, rfl⟩ := hrel
            rw [hw]
            clear hw
            by_cases hk4 : k < 4
            · obtain ⟨q, hq⟩ : ∃ q, q = n / 64 ^ k := ⟨_, rfl⟩
              rw [← hq]
              have hqb : q < 16777216 := by rw [hq]; exact Nat.lt_of_le_of_lt (Nat.div_le_self _ _) hnb
              have hnx := hid (show n / 64 ^ (k + 1) = q / 64 by rw [hq, Nat.div_div_eq_div_mul, Nat.pow_succ])
              have hfz : (⟨(fourS n k).toArray⟩ : ByteArray).size = k := by
                show (fourS n k).length = k
                clear hq hqb hnx hk hk4
                induction k with
                | zero => rfl
                | succ k ih => rw [fourS, List.length_cons, ih]
              have HF := hid (show (⟨#[sgnB (q % 64)]⟩ : ByteArray) ++ ⟨(fourS n k).toArray⟩ = ⟨(fourS n (k + 1)).toArray⟩ by
                rw [fourS, ← hq]
                rw [show (⟨#[sgnB (q % 64)]⟩ : ByteArray) = ⟨[sgnB (q % 64)].toArray⟩ from rfl, bytes_app]
                rfl)
              have hx := hG.out (q % 64) (by omega)
              generalize (⟨(fourS n k).toArray⟩ : ByteArray) = F at *
              generalize sgnB (q % 64) = sg at *
              have hk5 : (k : Int) < 4 := by omega
              replace hq := hid hq
              go_wp2_with fail
              go_roundw
              case rel => exact ⟨by trivial, k + 1, by omega, by go_num, by rw [HF.out], by rw [hnx.out]; go_num⟩
              case measure => simp [intOf]; omega
            · obtain rfl : k = 4 := by omega
              have hfz : (⟨(fourS n 4).toArray⟩ : ByteArray).size = 4 := rfl
              obtain rfl | rfl | rfl : m = 1 ∨ m = 2 ∨ m = 3 := by omega
              · have HX := hid (show S ++ (⟨((fourS n 4).take 2).toArray⟩ ++ ⟨#[61, 61]⟩) = (⟨(b64 (s.take (3 * (j + 1)))).toArray⟩ : ByteArray) by
                  rw [HB.out, HS.out, show (⟨#[61, 61]⟩ : ByteArray) = ⟨[61, 61].toArray⟩ from rfl, bytes_app, bytes_app]; rfl)
                have hx : (⟨(fourS n 4).toArray⟩ : ByteArray).extract 0 2 = ⟨((fourS n 4).take 2).toArray⟩ := rfl
                have hx2 : (⟨((fourS n 4).take 2).toArray⟩ : ByteArray).size = 2 := rfl
                generalize (⟨((fourS n 4).take 2).toArray⟩ : ByteArray) = G at *
                generalize (⟨(fourS n 4).toArray⟩ : ByteArray) = F at *
                go_wp2_with fail
                go_roundw
                case rel => exact ⟨by trivial, j + 1, by have := hi.out; omega, by rw [hi.out]; go_num, by rw [HX.out]⟩
                case measure => simp [intOf]; omega
              · have HX := hid (show S ++ (⟨((fourS n 4).take 3).toArray⟩ ++ ⟨#[61]⟩) = (⟨(b64 (s.take (3 * (j + 1)))).toArray⟩ : ByteArray) by
                  rw [HB.out, HS.out, show (⟨#[61]⟩ : ByteArray) = ⟨[61].toArray⟩ from rfl, bytes_app, bytes_app]; rfl)
                have hx : (⟨(fourS n 4).toArray⟩ : ByteArray).extract 0 3 = ⟨((fourS n 4).take 3).toArray⟩ := rfl
                have hx2 : (⟨((fourS n 4).take 3).toArray⟩ : ByteArray).size = 3 := rfl
                generalize (⟨((fourS n 4).take 3).toArray⟩ : ByteArray) = G at *
                generalize (⟨(fourS n 4).toArray⟩ : ByteArray) = F at *
                go_wp2_with fail
                go_roundw
                case rel => exact ⟨by trivial, j + 1, by have := hi.out; omega, by rw [hi.out]; go_num, by rw [HX.out]⟩
                case measure => simp [intOf]; omega
              · have HX := hid (show S ++ ⟨(fourS n 4).toArray⟩ = (⟨(b64 (s.take (3 * (j + 1)))).toArray⟩ : ByteArray) by
                  rw [HB.out, HS.out, bytes_app]; rfl)
                generalize (⟨(fourS n 4).toArray⟩ : ByteArray) = F at *
                go_wp2_with fail
                go_roundw
                case rel => exact ⟨by trivial, j + 1, by have := hi.out; omega, by rw [hi.out]; go_num, by rw [HX.out]⟩
                case measure => simp [intOf]; omega
    · have hlt2 : ¬ ((3 * j : Nat) : Int) < (s.length : Int) := by omega
      have hfull : s.take (3 * j) = s := List.take_of_length_le (by omega)
      rw [hfull, ← hT.out]
      obtain ⟨i, hi⟩ : ∃ i, i = 3 * j := ⟨_, rfl⟩
      rw [← hi] at hlt2 ⊢
      clear hfull hi
      go_wp2_with fail
      go_ret
      exact ⟨rfl, rfl⟩

end Go.Proofs.YtldhebpkplglcaaGreatDoor

namespace Go.Proofs.YtldhebpkplglcaaGreatDoor
open Go.RowKit

def bareK : Nat → List UInt8 → List UInt8
  | 0, s => s
  | k + 1, s => bareK k (bare1 s)
theorem bareK_stop (s : List UInt8) (h : s.getLast? ≠ some 61) : ∀ k, bareK k s = s
  | 0 => rfl
  | k + 1 => by rw [bareK, show bare1 s = s by unfold bare1; rw [if_neg h]]; exact bareK_stop s h k
theorem bareK_len : ∀ (k : Nat) (s : List UInt8), (bareK k s).length ≤ s.length
  | 0, _ => Nat.le_refl _
  | k + 1, s => by
    have h1 := bareK_len k (bare1 s)
    have h2 : (bare1 s).length ≤ s.length := by
      unfold bare1
      split
      · rw [List.length_dropLast]; omega
      · exact Nat.le_refl _
    rw [bareK]; omega
theorem extract_last (l : List UInt8) (n : Nat) (h : l.length = n + 1) : (⟨l.toArray⟩ : ByteArray).extract 0 n = ⟨l.dropLast.toArray⟩ := by
  refine ByteArray.ext (Array.toList_inj.1 ?_)
  rw [ByteArray.data_extract]
  simp only [Array.toList_extract, List.extract_eq_take_drop, List.drop_zero, Nat.sub_zero, List.dropLast_eq_take, h]
  rfl

set_option maxRecDepth 100000 in
set_option maxHeartbeats 1600000 in
theorem ref20_bare (s : List UInt8) (w : World) (hs : s.length ≤ 1000000000000) :
    Calls Tryz.prog 53 #[.string ⟨s.toArray⟩] w fun e w' => e = .returned (.string ⟨(bare2 s).toArray⟩) ∧ w' = w := by
  go_enter Tryz.func53, Tryz.ntmps53
  go_wp2_with fail
  go_loopw [0, 3] (fun v0 v3 wr => wr = w ∧ ∃ (k : Nat) (l : List UInt8), k ≤ 2 ∧ v3 = .int .i64 (k : Nat) ∧ v0 = .string ⟨l.toArray⟩ ∧ l.length ≤ 1000000000000 ∧ Hid (bare2 s = bareK (2 - k) l)) (fun _ v3 _ => 2 - (intOf v3).toNat)
  case atStart => exact ⟨rfl, 0, s, by omega, rfl, rfl, hs, hid rfl⟩
  case round =>
    obtain ⟨hw, k, l, hk, rfl, rfl, hl, hb⟩ := hrel
    rw [hw]
    clear hw
    have hlz : (⟨l.toArray⟩ : ByteArray).size = l.length := rfl
    by_cases hk2 : k < 2
    · have p1 : (k : Int) < 2 := by omega
      by_cases hl0 : l = []
      · subst hl0
        have HR := hid (show bare2 s = [] by rw [hb.out]; exact bareK_stop [] (by simp) _)
        clear hb
        go_wp2_with fail
        go_ret
        exact ⟨by rw [HR.out]; rfl, rfl⟩
      · obtain ⟨n, hn⟩ : ∃ n, l.length = n + 1 := ⟨l.length - 1, by have := List.length_pos_iff.2 hl0; omega⟩
        have hlast : l.getLast? = some (l[n]'(by omega)) := by rw [List.getLast?_eq_getElem?, show l.length - 1 = n by omega]; exact List.getElem?_eq_getElem (by omega)
        have hex := extract_last l n hn
        obtain ⟨c, hc⟩ : ∃ c, c = l[n]'(by omega) := ⟨_, rfl⟩
        rw [← hc] at hlast
        have hix := fun (X : Int) (hX : X = (n : Int)) W => index_byteR (s := ⟨l.toArray⟩) (i := n) (c := c.toNat) hX (by rw [hlz, hn]; omega) (by
          have : ∀ h, (⟨l.toArray⟩ : ByteArray)[n]'h = l[n]'(by omega) := by intro h; rfl
          rw [this, hc]) W
        have p2 : ((l.length : Int)) > 0 := by omega
        have i1 := hix (n : Int) rfl
        have p2 : ((n + 1 : Nat) : Int) > 0 := by omega
        rw [hn] at hlz
        clear hc hl0 hix
        by_cases h61 : c = 61
        · have e1 : ((c.toNat : Int) == 61) = true := by rw [h61]; rfl
          have HN := hid (show bare2 s = bareK (2 - (k + 1)) l.dropLast by
            rw [hb.out, show 2 - k = 2 - (k + 1) + 1 by omega, bareK]
            congr 1
            unfold bare1
            rw [if_pos (by rw [hlast, h61])])
          have hdl : l.dropLast.length ≤ 1000000000000 := by rw [List.length_dropLast]; omega
          clear hlast hb h61
          generalize (⟨l.toArray⟩ : ByteArray) = lb at *
          go_wp2_with fail
          go_roundw
          case rel => exact ⟨by trivial, k + 1, l.dropLast, by omega, by go_num, rfl, hdl, HN⟩
          case measure => simp [intOf]; omega
        · have e1 : ((c.toNat : Int) == 61) = false := by
            rw [beq_eq_false_iff_ne]
            intro e
            exact h61 (UInt8.toNat_inj.1 (show c.toNat = (61 : UInt8).toNat by have : (61 : UInt8).toNat = 61 := rfl; omega))
          have HR := hid (show bare2 s = l by rw [hb.out]; exact bareK_stop l (by rw [hlast]; intro e; exact h61 (Option.some.inj e)) _)
          clear hlast hb h61
          go_wp2_with fail
          go_ret
          exact ⟨by rw [HR.out]; rfl, rfl⟩
    · obtain rfl : k = 2 := by omega
      have HR := hid (show bare2 s = l from hb.out)
      clear hb
      go_wp2_with fail
      go_ret
      exact ⟨by rw [HR.out]; rfl, rfl⟩

theorem sign_none {c : UInt8} (h : ∀ j, j < 64 → sgnB j ≠ c) : signIx c = none := by
  unfold signIx
  rw [List.findIdx?_eq_none_iff]
  intro x hx
  obtain ⟨j, hj, rfl⟩ := List.mem_iff_getElem.1 hx
  have hj2 : j < 64 := hj
  have := h j hj2
  unfold sgnB at this
  rw [List.getD_eq_getElem?_getD, List.getElem?_eq_getElem hj] at this
  simpa using this
theorem sign_some {c : UInt8} {i : Nat} (hi : i < 64) (h : sgnB i = c) : signIx c = some i := by rw [← h]; exact signIx_sgnB i hi

theorem sgn_at (i : Nat) (h : i < (⟨signL.toArray⟩ : ByteArray).size) : (⟨signL.toArray⟩ : ByteArray)[i]'h = sgnB i := by
  have h2 : i < signL.length := h
  show signL[i]'h2 = sgnB i
  unfold sgnB
  rw [List.getD_eq_getElem?_getD, List.getElem?_eq_getElem h2]
  rfl

set_option maxRecDepth 100000 in
set_option maxHeartbeats 1600000 in
theorem ref20_worth (c : UInt8) (w : World) :
    Calls Tryz.prog 54 #[.int .u8 c.toNat] w fun e w' => e = .returned (.int .i64 (match signIx c with | some i => (i : Int) | none => -1)) ∧ w' = w := by
  have hz : (⟨signL.toArray⟩ : ByteArray).size = 64 := rfl
  have hix := hid fun (i : Nat) (hi : i < 64) W => index_byteR (s := ⟨signL.toArray⟩) (i := i) (c := (sgnB i).toNat) rfl (by rw [hz]; exact hi) (by
    exact congrArg UInt8.toNat (sgn_at i (by rw [hz]; exact hi))) W
  have CS := hid ref20_signs
  obtain ⟨R, hR⟩ : ∃ R : Int, R = (match signIx c with | some i => (i : Int) | none => -1) := ⟨_, rfl⟩
  rw [← hR]
  have h1 := hid (show ∀ i, i < 64 → sgnB i = c → R = (i : Int) from fun i hi h => by rw [hR, sign_some hi h])
  have h2 := hid (show (∀ j, j < 64 → sgnB j ≠ c) → R = -1 from fun h => by rw [hR, sign_none h])
  clear hR
  generalize (⟨signL.toArray⟩ : ByteArray) = al at *
  go_enter Tryz.func54, Tryz.ntmps54
  go_wp2_with fail
  refine (CS.out _).mono ?_
  rintro e w1 ⟨rfl, hw1⟩
  rw [hw1]
  clear hw1 w1 CS
  go_wp2_with fail
  go_loopw [4] (fun v4 wr => wr = w ∧ ∃ i : Nat, i ≤ 64 ∧ v4 = .int .i64 (i : Nat) ∧ Hid (∀ j, j < i → sgnB j ≠ c)) (fun v4 _ => 64 - (intOf v4).toNat)
  case atStart => exact ⟨rfl, 0, by omega, rfl, hid (fun j hj => by omega)⟩
  case round =>
    obtain ⟨hw, i, hi, rfl, hn⟩ := hrel
    rw [hw]
    clear hw
    by_cases hlt : i < 64
    · have p1 : (i : Int) < 64 := by omega
      have i1 := hix.out i hlt
      by_cases he : sgnB i = c
      · have e1 : (((sgnB i).toNat : Int) == (c.toNat : Int)) = true := by rw [he]; simp
        have HR := hid (h1.out i hlt he)
        clear he
        generalize (sgnB i).toNat = sn at *
        go_wp2_with fail
        go_ret
        exact ⟨by rw [HR.out]; rfl, rfl⟩
      · have e1 : (((sgnB i).toNat : Int) == (c.toNat : Int)) = false := by
          rw [beq_eq_false_iff_ne]
          intro e
          exact he (UInt8.toNat_inj.1 (by omega))
        have HN := hid (show ∀ j, j < i + 1 → sgnB j ≠ c from fun j hj => by
          by_cases hji : j = i
          · rw [hji]; exact he
          · exact hn.out j (by omega))
        clear he
        generalize (sgnB i).toNat = sn at *
        go_wp2_with fail
        go_roundw
        case rel => exact ⟨by trivial, i + 1, by omega, by go_num, HN⟩
        case measure => simp [intOf]; omega
    · obtain rfl : i = 64 := by omega
      have HR := hid (h2.out hn.out)
      go_wp2_with fail
      go_ret
      exact ⟨by rw [HR.out]; rfl, rfl⟩

end Go.Proofs.YtldhebpkplglcaaGreatDoor

namespace Go.Proofs.YtldhebpkplglcaaGreatDoor
open Go.RowKit

/-- What Debase answers. -/
def debaseR (s : List UInt8) : List UInt8 × Bool := match debL 0 0 (bare2 s) with
  | none => ([], false)
  | some out => (out, decide (b64 out = s) || decide (bare2 (b64 out) = s))
theorem bare2_len (s : List UInt8) : (bare2 s).length ≤ s.length := bareK_len 2 s
theorem coded_same (s : List UInt8) : (codedR s).2 = (debaseR s).2 ∧ ((codedR s).2 = true → (codedR s).1 = (debaseR s).1) := by
  have h := deb_same s
  unfold debP debR at h
  unfold codedR debaseR
  cases h1 : debL 0 0 (Lib.trimRightB s 61) with
  | none =>
    rw [h1] at h
    cases h2 : debL 0 0 (bare2 s) with
    | none => exact ⟨rfl, fun h => by cases h⟩
    | some o2 =>
      rw [h2] at h
      simp only [Option.bind_none, Option.bind_some] at h
      split at h
      · cases h
      · rename_i hn
        refine ⟨?_, fun h => by cases h⟩
        symm
        rw [Bool.or_eq_false_iff, decide_eq_false_iff_not, decide_eq_false_iff_not]
        exact ⟨fun e => hn (Or.inl e), fun e => hn (Or.inr e)⟩
  | some o1 =>
    rw [h1] at h
    simp only [Option.bind_some] at h
    cases h2 : debL 0 0 (bare2 s) with
    | none =>
      rw [h2] at h
      simp only [Option.bind_none] at h
      split at h
      · cases h
      · rename_i hn
        have hf : (decide (s = b64 o1) || decide (s = Lib.trimRightB (b64 o1) 61)) = false := by
          rw [Bool.or_eq_false_iff, decide_eq_false_iff_not, decide_eq_false_iff_not]
          exact ⟨fun e => hn (Or.inl e), fun e => hn (Or.inr e)⟩
        refine ⟨hf, fun h => ?_⟩
        rw [show (o1, (decide (s = b64 o1) || decide (s = Lib.trimRightB (b64 o1) 61))).2 = (decide (s = b64 o1) || decide (s = Lib.trimRightB (b64 o1) 61)) from rfl, hf] at h
        cases h
    | some o2 =>
      rw [h2] at h
      simp only [Option.bind_some] at h
      split at h
      · rename_i hy
        split at h
        · rename_i hy2
          obtain rfl := Option.some.inj h
          have a1 : (decide (s = b64 o1) || decide (s = Lib.trimRightB (b64 o1) 61)) = true := by
            rw [Bool.or_eq_true, decide_eq_true_eq, decide_eq_true_eq]; exact hy
          have a2 : (decide (b64 o1 = s) || decide (bare2 (b64 o1) = s)) = true := by
            rw [Bool.or_eq_true, decide_eq_true_eq, decide_eq_true_eq]; exact hy2
          exact ⟨a1.trans a2.symm, fun _ => rfl⟩
        · cases h
      · rename_i hn
        split at h
        · cases h
        · rename_i hn2
          have a1 : (decide (s = b64 o1) || decide (s = Lib.trimRightB (b64 o1) 61)) = false := by
            rw [Bool.or_eq_false_iff, decide_eq_false_iff_not, decide_eq_false_iff_not]
            exact ⟨fun e => hn (Or.inl e), fun e => hn (Or.inr e)⟩
          have a2 : (decide (b64 o2 = s) || decide (bare2 (b64 o2) = s)) = false := by
            rw [Bool.or_eq_false_iff, decide_eq_false_iff_not, decide_eq_false_iff_not]
            exact ⟨fun e => hn2 (Or.inl e), fun e => hn2 (Or.inr e)⟩
          refine ⟨a1.trans a2.symm, fun h => ?_⟩
          rw [show (o1, (decide (s = b64 o1) || decide (s = Lib.trimRightB (b64 o1) 61))).2 = (decide (s = b64 o1) || decide (s = Lib.trimRightB (b64 o1) 61)) from rfl, a1] at h
          cases h

set_option maxRecDepth 100000 in
set_option maxHeartbeats 6400000 in
theorem ref20_Debase (s : List UInt8) (w : World) (hs : s.length ≤ 10000000000) :
    Calls Tryz.prog 30 #[.string ⟨s.toArray⟩] w fun e w' => e = .returned (.tuple #[.string ⟨(debaseR s).1.toArray⟩, .bool (debaseR s).2]) ∧ Below w.heap.size w w' := by
  have hlt := bare2_len s
  have C1 := hid (ref20_bare s w (by omega))
  obtain ⟨t, ht⟩ : ∃ t, t = bare2 s := ⟨_, rfl⟩
  rw [← ht] at C1 hlt
  have htz : (⟨t.toArray⟩ : ByteArray).size = t.length := rfl
  have hix := hid fun (i : Nat) (hi : i < t.length) W => index_byteR (s := ⟨t.toArray⟩) (i := i) (c := (t[i]'hi).toNat) rfl (by rw [htz]; exact hi) rfl W
  obtain ⟨sb, hsb⟩ : ∃ sb : ByteArray, sb = ⟨s.toArray⟩ := ⟨_, rfl⟩
  obtain ⟨tb, htb⟩ : ∃ tb : ByteArray, tb = ⟨t.toArray⟩ := ⟨_, rfl⟩
  rw [← htb] at hix htz C1
  rw [← hsb] at C1 ⊢
  replace hsb := hid hsb
  replace ht := hid ht
  clear htb
  go_enter Tryz.func30, Tryz.ntmps30
  go_wp2_with fail
  refine C1.out.mono ?_
  rintro e w1 ⟨rfl, hw⟩
  rw [hw]
  clear hw w1
  go_wp2_with fail
  go_loopw [5, 6, 7, 8] (fun v5 v6 v7 v8 wr => ∃ (k n h : Nat) (done : List UInt8), v8 = .int .i64 (k : Nat) ∧ k ≤ t.length ∧ v6 = .int .i64 (n : Nat) ∧ v7 = .int .i64 (h : Nat) ∧ (h = 0 ∨ h = 2 ∨ h = 4 ∨ h = 6) ∧ n < 2 ^ h ∧ done.length ≤ k ∧
    Hid (debL 0 0 t = (debL n h (t.drop k)).map (done ++ ·)) ∧ Hid (wr.ownsRow w.heap.size 5 1 v5 done.length (Lib.byteCells done)) ∧ Hid (Below w.heap.size w wr)) (fun _ _ _ v8 _ => t.length - (intOf v8).toNat)
  case atStart => exact ⟨0, 0, 0, [], rfl, Nat.zero_le _, rfl, rfl, Or.inl rfl, by decide, Nat.zero_le _, hid (by simp), hid (World.ownsRow_nil _ _ _ _), hid (Below.refl _ _)⟩
  case round =>
    obtain ⟨k, n, h, done, rfl, hk, rfl, rfl, hh, hn, hdk, HDB, HO, HB⟩ := hrel
    have hszw := HB.out.size
    by_cases hke : k = t.length
    · have hres : Hid (debaseR s = (done, decide (b64 done = s) || decide (bare2 (b64 done) = s))) := by
        show debaseR s = _
        unfold debaseR
        rw [← ht.out, HDB.out, hke, List.drop_length]
        simp only [debL, Option.map_some, List.append_nil]
      have hc0 := conv_own _ _ _ done wr rfl HO.out
      have hbl : (b64 done).length ≤ 1000000000000 := by rw [b64_len]; omega
      have CC := ref20_Base done wr (by omega)
      have CB := ref20_bare (b64 done) wr hbl
      have hq1 : ((⟨(b64 done).toArray⟩ : ByteArray).toList == sb.toList) = decide (b64 done = s) := by rw [hsb.out, bytes_beq]
      have hq2 : ((⟨(bare2 (b64 done)).toArray⟩ : ByteArray).toList == sb.toList) = decide (bare2 (b64 done) = s) := by rw [hsb.out, bytes_beq]
      generalize (⟨(b64 done).toArray⟩ : ByteArray) = ub at *
      generalize (⟨(bare2 (b64 done)).toArray⟩ : ByteArray) = xb at *
      replace CC := hid CC
      replace CB := hid CB
      subst hke
      have hlt1 : ¬ (t.length : Int) < (t.length : Int) := by omega
      clear hh hn hdk
      by_cases hs1 : b64 done = s
      · rw [decide_eq_true hs1] at hq1 hres
        clear hs1 hq2 CB hbl
        go_wp2_with fail
        refine CC.out.mono ?_
        rintro e w2 ⟨rfl, hw⟩
        rw [hw]
        clear hw w2
        go_wp2_with fail
        go_ret2
        rw [hres.out]
        exact ⟨rfl, HB.out⟩
      · rw [decide_eq_false hs1] at hq1 hres
        clear hs1 hbl
        obtain ⟨b2, hb2⟩ : ∃ b2, b2 = decide (bare2 (b64 done) = s) := ⟨_, rfl⟩
        rw [← hb2] at hq2 hres
        clear hb2
        go_wp2_with fail
        refine CC.out.mono ?_
        rintro e w2 ⟨rfl, hw⟩
        rw [hw]
        clear hw w2
        go_wp2_with fail
        refine CC.out.mono ?_
        rintro e w2 ⟨rfl, hw⟩
        rw [hw]
        clear hw w2
        go_wp2_with fail
        refine CB.out.mono ?_
        rintro e w2 ⟨rfl, hw⟩
        rw [hw]
        clear hw w2
        go_wp2_with fail
        go_ret2
        rw [hres.out]
        exact ⟨rfl, HB.out⟩
    · have hkl : k < t.length := by omega
      have hlt1 : (k : Int) < (t.length : Int) := by omega
      obtain ⟨c, hc⟩ : ∃ c, c = t[k] := ⟨_, rfl⟩
      have i1 := hix.out k hkl
      rw [← hc] at i1
      have hd : t.drop k = c :: t.drop (k + 1) := by rw [List.drop_eq_getElem_cons hkl, hc]
      have CI := fun W => ref20_worth c W
      clear hc
      cases hsx : signIx c with
      | none =>
        rw [hsx] at CI
        dsimp only at CI
        have hres : Hid (debaseR s = ([], false)) := by
          show debaseR s = _
          unfold debaseR
          rw [← ht.out, HDB.out, hd]
          simp only [debL, hsx, Option.map_none]
        replace CI := hid CI
        clear hsx hd hh
        go_wp2_with fail
        refine (CI.out _).mono ?_
        rintro e w2 ⟨rfl, hw⟩
        rw [hw]
        clear hw w2
        go_wp2_with fail
        go_ret2
        rw [hres.out]
        exact ⟨rfl, HB.out⟩
      | some x =>
        rw [hsx] at CI
        dsimp only at CI
        have hx64 := signIx_lt c x hsx
        have hst := HDB.out
        rw [hd] at hst
        simp only [debL, hsx] at hst
        replace hst := hid hst
        replace CI := hid CI
        clear hsx hd HDB
        rcases hh with rfl | rfl | rfl | rfl
        · have hn64 : n < 1 := hn
          obtain ⟨v, hv0⟩ : ∃ v, v = n * 64 + x := ⟨_, rfl⟩
          rw [← hv0] at hst
          have hv : v < 64 := by omega
          have hst2 : Hid (debL 0 0 t = (debL v 6 (t.drop (k + 1))).map (done ++ ·)) := by
            have := hst.out
            rw [if_neg (by decide)] at this
            exact this
          have hvi : (n : Int) * 64 + (x : Int) = (v : Int) := by omega
          replace hv0 := hid hv0
          go_wp2_with fail
          refine (CI.out _).mono ?_
          rintro e w2 ⟨rfl, hw⟩
          rw [hw]
          clear hw w2
          go_wp2_with fail
          go_roundw
          case rel => exact ⟨k + 1, v, 6, done, by go_num, by omega, by first | rfl | (rw [← hvi]) | (have := hv0.out; go_num), by first | rfl | go_num, by omega, by omega, by omega, hst2, HO, HB⟩
          case measure => simp [intOf]; omega
        · have hn64 : n < 4 := hn
          obtain ⟨v, hv0⟩ : ∃ v, v = n * 64 + x := ⟨_, rfl⟩
          rw [← hv0] at hst
          have hv : v < 256 := by omega
          have hst2 : Hid (debL 0 0 t = (debL (v % 1) 0 (t.drop (k + 1))).map ((done ++ [UInt8.ofNat (v / 1)]) ++ ·)) := by
            show debL 0 0 t = _
            have h1 := hst.out
            rw [if_pos (by decide), Option.map_map] at h1
            rw [h1]
            show Option.map _ (debL (v % 1) 0 (t.drop (k + 1))) = _
            congr 1
            funext q
            simp
          have hcs := hid (cells_snoc done (v / 1) (by omega) (v : Int) (by omega))
          have hmod : v % 1 < 2 ^ 0 := Nat.mod_lt _ (by decide)
          have hvi : (n : Int) * 64 + (x : Int) = (v : Int) := by omega
          have hv0' := hid hv0
          clear hv0
          go_wp2_with fail
          refine (CI.out _).mono ?_
          rintro e w2 ⟨rfl, hw⟩
          rw [hw]
          clear hw w2
          go_wp2_with fail
          go_loopw [10, 11] (fun v10 v11 wr2 => wr2 = wr ∧ ∃ j : Nat, j ≤ 0 ∧ v11 = .int .i64 (j : Nat) ∧ v10 = .int .i64 ((2 ^ j : Nat) : Int)) (fun _ v11 _ => 0 - (intOf v11).toNat)
          case atStart => exact ⟨rfl, 0, Nat.zero_le _, rfl, rfl⟩
          case round =>
            obtain ⟨hw, j, hj, rfl, rfl⟩ := hrel
            rw [hw]
            clear hw
            by_cases hj4 : j < 0
            · have q1 : (j : Int) < 0 := by omega
              obtain ⟨P, hP⟩ : ∃ P, P = 2 ^ j := ⟨_, rfl⟩
              rw [← hP]
              have hP2 : P ≤ 16 := by rw [hP]; exact Nat.le_trans (Nat.pow_le_pow_right (by decide) (show j ≤ 4 by omega)) (by decide)
              have hPn := hid (show 2 ^ (j + 1) = P * 2 by rw [hP, Nat.pow_succ])
              replace hP := hid hP
              go_wp2_with fail
              go_roundw
              case rel => exact ⟨by trivial, j + 1, by omega, by go_num, by rw [hPn.out]; go_num⟩
              case measure => simp [intOf]; omega
            · obtain rfl : j = 0 := by omega
              rw [show (2 ^ 0 : Nat) = 1 from rfl]
              go_wp2_with (at_builtin; refine wpList_push u8SliceR rfl _ _ rfl w.heap.size (w0 := _) HO.out rfl rfl rfl (by unfold maxLen; omega) (by omega) hszw ?_; intro v' w3 hown' hb')
              have HOW := hid (show w3.ownsRow w.heap.size 5 1 v' (done ++ [UInt8.ofNat (v / 1)]).length (Lib.byteCells (done ++ [UInt8.ofNat (v / 1)])) by
                rw [hcs.out, List.length_append]; exact hown')
              have HB3 := hid (HB.out.trans hb')
              clear hown' hb'
              go_wp2_with fail
              go_roundw
              case rel => exact ⟨k + 1, v % 1, 0, done ++ [UInt8.ofNat (v / 1)], by go_num, by omega, by first | rfl | go_num, by first | rfl | go_num, by omega, hmod, by rw [List.length_append]; simp; omega, hst2, HOW, HB3⟩
              case measure => simp [intOf]; omega
        · have hn64 : n < 16 := hn
          obtain ⟨v, hv0⟩ : ∃ v, v = n * 64 + x := ⟨_, rfl⟩
          rw [← hv0] at hst
          have hv : v < 1024 := by omega
          have hst2 : Hid (debL 0 0 t = (debL (v % 4) 2 (t.drop (k + 1))).map ((done ++ [UInt8.ofNat (v / 4)]) ++ ·)) := by
            show debL 0 0 t = _
            have h1 := hst.out
            rw [if_pos (by decide), Option.map_map] at h1
            rw [h1]
            show Option.map _ (debL (v % 4) 2 (t.drop (k + 1))) = _
            congr 1
            funext q
            simp
          have hcs := hid (cells_snoc done (v / 4) (by omega) ((v / 4 : Nat) : Int) (by omega))
          have hmod : v % 4 < 2 ^ 2 := Nat.mod_lt _ (by decide)
          have hvi : (n : Int) * 64 + (x : Int) = (v : Int) := by omega
          have hv0' := hid hv0
          clear hv0
          go_wp2_with fail
          refine (CI.out _).mono ?_
          rintro e w2 ⟨rfl, hw⟩
          rw [hw]
          clear hw w2
          go_wp2_with fail
          go_loopw [10, 11] (fun v10 v11 wr2 => wr2 = wr ∧ ∃ j : Nat, j ≤ 2 ∧ v11 = .int .i64 (j : Nat) ∧ v10 = .int .i64 ((2 ^ j : Nat) : Int)) (fun _ v11 _ => 2 - (intOf v11).toNat)
          case atStart => exact ⟨rfl, 0, Nat.zero_le _, rfl, rfl⟩
          case round =>
            obtain ⟨hw, j, hj, rfl, rfl⟩ := hrel
            rw [hw]
            clear hw
            by_cases hj4 : j < 2
            · have q1 : (j : Int) < 2 := by omega
              obtain ⟨P, hP⟩ : ∃ P, P = 2 ^ j := ⟨_, rfl⟩
              rw [← hP]
              have hP2 : P ≤ 16 := by rw [hP]; exact Nat.le_trans (Nat.pow_le_pow_right (by decide) (show j ≤ 4 by omega)) (by decide)
              have hPn := hid (show 2 ^ (j + 1) = P * 2 by rw [hP, Nat.pow_succ])
              replace hP := hid hP
              go_wp2_with fail
              go_roundw
              case rel => exact ⟨by trivial, j + 1, by omega, by go_num, by rw [hPn.out]; go_num⟩
              case measure => simp [intOf]; omega
            · obtain rfl : j = 2 := by omega
              rw [show (2 ^ 2 : Nat) = 4 from rfl]
              go_wp2_with (at_builtin; refine wpList_push u8SliceR rfl _ _ rfl w.heap.size (w0 := _) HO.out rfl rfl rfl (by unfold maxLen; omega) (by omega) hszw ?_; intro v' w3 hown' hb')
              have HOW := hid (show w3.ownsRow w.heap.size 5 1 v' (done ++ [UInt8.ofNat (v / 4)]).length (Lib.byteCells (done ++ [UInt8.ofNat (v / 4)])) by
                rw [hcs.out, List.length_append]; exact hown')
              have HB3 := hid (HB.out.trans hb')
              clear hown' hb'
              go_wp2_with fail
              go_roundw
              case rel => exact ⟨k + 1, v % 4, 2, done ++ [UInt8.ofNat (v / 4)], by go_num, by omega, by first | rfl | go_num, by first | rfl | go_num, by omega, hmod, by rw [List.length_append]; simp; omega, hst2, HOW, HB3⟩
              case measure => simp [intOf]; omega
        · have hn64 : n < 64 := hn
          obtain ⟨v, hv0⟩ : ∃ v, v = n * 64 + x := ⟨_, rfl⟩
          rw [← hv0] at hst
          have hv : v < 4096 := by omega
          have hst2 : Hid (debL 0 0 t = (debL (v % 16) 4 (t.drop (k + 1))).map ((done ++ [UInt8.ofNat (v / 16)]) ++ ·)) := by
            show debL 0 0 t = _
            have h1 := hst.out
            rw [if_pos (by decide), Option.map_map] at h1
            rw [h1]
            show Option.map _ (debL (v % 16) 4 (t.drop (k + 1))) = _
            congr 1
            funext q
            simp
          have hcs := hid (cells_snoc done (v / 16) (by omega) ((v / 16 : Nat) : Int) (by omega))
          have hmod : v % 16 < 2 ^ 4 := Nat.mod_lt _ (by decide)
          have hvi : (n : Int) * 64 + (x : Int) = (v : Int) := by omega
          have hv0' := hid hv0
          clear hv0
          go_wp2_with fail
          refine (CI.out _).mono ?_
          rintro e w2 ⟨rfl, hw⟩
          rw [hw]
          clear hw w2
          go_wp2_with fail
          go_loopw [10, 11] (fun v10 v11 wr2 => wr2 = wr ∧ ∃ j : Nat, j ≤ 4 ∧ v11 = .int .i64 (j : Nat) ∧ v10 = .int .i64 ((2 ^ j : Nat) : Int)) (fun _ v11 _ => 4 - (intOf v11).toNat)
          case atStart => exact ⟨rfl, 0, Nat.zero_le _, rfl, rfl⟩
          case round =>
            obtain ⟨hw, j, hj, rfl, rfl⟩ := hrel
            rw [hw]
            clear hw
            by_cases hj4 : j < 4
            · have q1 : (j : Int) < 4 := by omega
              obtain ⟨P, hP⟩ : ∃ P, P = 2 ^ j := ⟨_, rfl⟩
              rw [← hP]
              have hP2 : P ≤ 16 := by rw [hP]; exact Nat.le_trans (Nat.pow_le_pow_right (by decide) (show j ≤ 4 by omega)) (by decide)
              have hPn := hid (show 2 ^ (j + 1) = P * 2 by rw [hP, Nat.pow_succ])
              replace hP := hid hP
              go_wp2_with fail
              go_roundw
              case rel => exact ⟨by trivial, j + 1, by omega, by go_num, by rw [hPn.out]; go_num⟩
              case measure => simp [intOf]; omega
            · obtain rfl : j = 4 := by omega
              rw [show (2 ^ 4 : Nat) = 16 from rfl]
              go_wp2_with (at_builtin; refine wpList_push u8SliceR rfl _ _ rfl w.heap.size (w0 := _) HO.out rfl rfl rfl (by unfold maxLen; omega) (by omega) hszw ?_; intro v' w3 hown' hb')
              have HOW := hid (show w3.ownsRow w.heap.size 5 1 v' (done ++ [UInt8.ofNat (v / 16)]).length (Lib.byteCells (done ++ [UInt8.ofNat (v / 16)])) by
                rw [hcs.out, List.length_append]; exact hown')
              have HB3 := hid (HB.out.trans hb')
              clear hown' hb'
              go_wp2_with fail
              go_roundw
              case rel => exact ⟨k + 1, v % 16, 4, done ++ [UInt8.ofNat (v / 16)], by go_num, by omega, by first | rfl | go_num, by first | rfl | go_num, by omega, hmod, by rw [List.length_append]; simp; omega, hst2, HOW, HB3⟩
              case measure => simp [intOf]; omega

end Go.Proofs.YtldhebpkplglcaaGreatDoor
