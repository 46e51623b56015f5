/- The law FormatBack. -/
import Derived.Test.YtafeofgjmlhklaaGreatDoorFe
import Derived.Test.YtafeofgjmlhklaaGreatDoorBackF
namespace Go.Proofs.YtafeofgjmlhklaaGreatDoor
open Go.RowKit

theorem byte_getD (l : List UInt8) (k : Nat) (h : k < (⟨l.toArray⟩ : ByteArray).size) : (⟨l.toArray⟩ : ByteArray)[k]'h = l.getD k 0 := by
  have hk : k < l.length := h
  show l.toArray[k]'_ = _
  rw [List.getElem_toArray, List.getD_eq_getElem?_getD, List.getElem?_eq_getElem hk]
  rfl

set_option maxRecDepth 100000 in
set_option maxHeartbeats 12800000 in
theorem law_FormatBack (s : List UInt8) (w : World) (hs : s.length + 1 ≤ 1048576) (hT : Tabs w) (hM : Mx w) :
    Calls Tryz.prog 5 #[.string ⟨s.toArray⟩] w fun e w' => e = .returned (.bool true) ∧ Below w.heap.size w w' := by
  have CS := hid (law20_shown w hT hM)
  have hTw := hid hT
  have CC := fun W (hW : Tabs W) => utf_Clean s W (by omega) hW
  have hcs := clean_sound s
  have hcl := clean_len s
  obtain ⟨c, hc⟩ : ∃ c, c = cleanL s := ⟨_, rfl⟩
  rw [← hc] at CC hcs hcl
  clear hc
  have hal := b64_len c
  have hnl := b64B_len c
  have CA1 := fun W (hW : Tabs W) => apply_b64 c (by omega) hcs W hW
  have CA2 := fun W (hW : Tabs W) => apply_b64d (b64 c) (by omega) (b64_sound c) W hW
  have CA3 := fun W (hW : Tabs W) => apply_b64d (b64B c) (by omega) (b64B_sound c) W hW
  have CA4 := fun W (hW : Tabs W) => apply_uri c (by omega) hcs W hW
  rw [coded_b64] at CA2
  rw [coded_b64B] at CA3
  simp only [if_true, clean_of_sound hcs] at CA2 CA3
  have CT1 := fun W => law20_text c W
  have CT2 := fun W => law20_text (b64 c) W
  have CT3 := fun W => law20_text (b64B c) W
  obtain ⟨cb, hcb⟩ : ∃ cb : ByteArray, cb = ⟨c.toArray⟩ := ⟨_, rfl⟩
  obtain ⟨ab, hab⟩ : ∃ ab : ByteArray, ab = ⟨(b64 c).toArray⟩ := ⟨_, rfl⟩
  obtain ⟨nb, hnb⟩ : ∃ nb : ByteArray, nb = ⟨(b64B c).toArray⟩ := ⟨_, rfl⟩
  obtain ⟨ub, hub⟩ : ∃ ub : ByteArray, ub = ⟨(uriL c).toArray⟩ := ⟨_, rfl⟩
  rw [← hcb] at CC CA2 CA3 CT1
  rw [← hab] at CA1 CT2
  rw [← hnb] at CT3
  rw [← hub] at CA4
  have zc : cb.size = c.length := by rw [hcb]; rfl
  have za : ab.size = (b64 c).length := by rw [hab]; rfl
  have zu : ub.size = (uriL c).length := by rw [hub]; rfl
  have hul := uriL_len c
  have hul2 := uriL_le c
  have hexN : ab.extract 0 (b64B c).length = nb := by
    obtain ⟨k, _, e⟩ := b64_split c
    rw [hab, hnb, extract_gen, List.drop_zero, Nat.sub_zero, e, List.take_left]
  have IA : Hid (∀ (k : Nat) (h : k < ab.size), ab[k]'h = (b64 c).getD k 0) := by
    subst hab
    exact fun k h => byte_getD (b64 c) k h
  have IU : Hid (∀ (k : Nat) (h : k < ub.size), ub[k]'h = (uriL c).getD k 0) := by
    subst hub
    exact fun k h => byte_getD (uriL c) k h
  have RA : Hid (∀ k, k < (b64 c).length → 43 ≤ ((b64 c).getD k 0).toNat ∧ ((b64 c).getD k 0).toNat ≤ 122) := by
    intro k hk
    rw [List.getD_eq_getElem?_getD, List.getElem?_eq_getElem hk]
    exact b64_range c _ (List.getElem_mem hk)
  have RU : Hid (∀ k, k < (uriL c).length → 37 ≤ ((uriL c).getD k 0).toNat ∧ ((uriL c).getD k 0).toNat ≤ 126) := by
    intro k hk
    rw [List.getD_eq_getElem?_getD, List.getElem?_eq_getElem hk]
    exact uri_range c _ (List.getElem_mem hk)
  have PAD : Hid (∀ m, (b64B c).length ≤ m → m < (b64 c).length → (b64 c).getD m 0 = 61) := by
    obtain ⟨k, _, e⟩ := b64_split c
    intro m h1 h2
    rw [e, List.length_append, List.length_replicate] at h2
    rw [e, List.getD_eq_getElem?_getD, List.getElem?_append_right h1, List.getElem?_replicate, if_pos (by omega)]
    rfl
  have NOP : Hid (∀ m, m < (b64B c).length → (b64 c).getD m 0 ≠ 61) := by
    obtain ⟨k, _, e⟩ := b64_split c
    intro m h1
    rw [e, List.getD_eq_getElem?_getD, List.getElem?_append_left h1, List.getElem?_eq_getElem h1]
    exact b64B_no c _ (List.getElem_mem h1)
  clear hcb hab hnb hub
  replace CC := hid CC
  replace CA1 := hid CA1
  replace CA2 := hid CA2
  replace CA3 := hid CA3
  replace CA4 := hid CA4
  replace CT1 := hid CT1
  replace CT2 := hid CT2
  replace CT3 := hid CT3
  generalize (⟨s.toArray⟩ : ByteArray) = sb at *
  clear hcs hT hM
  generalize hLC : c.length = lc at *
  generalize hLA : (b64 c).length = la at *
  generalize hLN : (b64B c).length = ln at *
  generalize hLU : (uriL c).length = lu at *
  clear hLC hLA hLN hLU
  have hla : la ≤ 16777216 := by omega
  replace hal := hid hal
  go_enter Tryz.func5, Tryz.ntmps5
  go_wp2_with fail
  refine CS.out.mono ?_
  rintro e w1 ⟨rfl, hb⟩
  have B1 := hid hb
  clear hb CS
  go_wp2_with fail
  refine (CC.out _ (hTw.out.below B1.out)).mono ?_
  rintro e w2 ⟨rfl, hb⟩
  have B2 := hid (below_trans B1.out hb)
  clear hb CC B1
  go_wp2_with fail
  refine (CT1.out _).mono ?_
  rintro e w3 ⟨rfl, hb⟩
  have B3 := hid (below_trans B2.out hb)
  clear hb B2
  go_wp2_with fail
  refine (CA1.out _ (hTw.out.below B3.out)).mono ?_
  rintro e w4 ⟨rfl, hb⟩
  have B4 := hid (below_trans B3.out hb)
  clear hb CA1 B3
  go_wp2_with fail
  refine (CT2.out _).mono ?_
  rintro e w5 ⟨rfl, hb⟩
  have B5 := hid (below_trans B4.out hb)
  clear hb CT2 B4
  go_wp2_with fail
  refine (CA2.out _ (hTw.out.below B5.out)).mono ?_
  rintro e w6 ⟨rfl, hb⟩
  have B6 := hid (below_trans B5.out hb)
  clear hb CA2 B5
  go_wp2_with fail
  go_loopw [9] (fun v wr => ∃ n : Nat, v = .int .i64 (n : Nat) ∧ ln ≤ n ∧ n ≤ la ∧ wr = w6) (fun v _ => (intOf v).toNat)
  case atStart => exact ⟨la, rfl, hnl, Nat.le_refl _, rfl⟩
  case round =>
    obtain ⟨n, rfl, h1, h2, rfl⟩ := hrel
    go_upto_region 6 with fail
    go_cut [41] from 33 to 41 (fun v w' => v = .bool (decide (n ≠ ln)) ∧ wr = w')
    case first =>
      rcases n with _ | m
      · have h0 : decide (0 ≠ ln) = false := decide_eq_false (by omega)
        replace h0 := hid h0
        go_wp2_with fail
        go_meet
        case rel => exact ⟨congrArg Value.bool h0.out.symm, rfl⟩
      · have hma : m < ab.size := by omega
        by_cases hne : m + 1 = ln
        · subst hne
          obtain ⟨d, hd⟩ : ∃ d, d = (b64 c).getD m 0 := ⟨_, rfl⟩
          have hbt : ab[m]'hma = d := by rw [IA.out m hma, hd]
          have hd2 : d ≠ 61 := by rw [hd]; exact NOP.out m (by omega)
          have hd3 : ((d.toNat : Int) == 61) = false := by
            rw [Bool.eq_false_iff, ne_eq, beq_iff_eq]
            intro e
            exact hd2 (UInt8.toNat_inj.1 (show d.toNat = 61 by omega))
          have h0 : decide (m + 1 ≠ m + 1) = false := decide_eq_false (by omega)
          replace h0 := hid h0
          clear hd hd2
          go_wp2_with fail
          go_meet
          case rel => exact ⟨congrArg Value.bool h0.out.symm, rfl⟩
        · have hbt : ab[m]'hma = 61 := by rw [IA.out m hma]; exact PAD.out m (by omega) (by omega)
          have h0 : decide (m + 1 ≠ ln) = true := decide_eq_true hne
          replace h0 := hid h0
          go_wp2_with fail
          go_meet
          case rel => exact ⟨congrArg Value.bool h0.out.symm, rfl⟩
    case rest =>
      obtain ⟨rfl, rfl⟩ := hcut
      by_cases hne : n = ln
      · have h0 : decide (n ≠ ln) = false := decide_eq_false (by omega)
        rw [h0]
        clear h0
        subst hne
        clear PAD NOP
        go_wp2_with fail
        refine (CT3.out _).mono ?_
        rintro e w7 ⟨rfl, hb⟩
        have B7 := hid (below_trans B6.out hb)
        clear hb CT3
        go_wp2_with fail
        refine (CA3.out _ (hTw.out.below B7.out)).mono ?_
        rintro e w8 ⟨rfl, hb⟩
        have B8 := hid (below_trans B7.out hb)
        clear hb CA3 B7
        go_wp2_with fail
        refine (CT1.out _).mono ?_
        rintro e w9 ⟨rfl, hb⟩
        have B9 := hid (below_trans B8.out hb)
        clear hb CT1 B8
        go_wp2_with fail
        refine (CA4.out _ (hTw.out.below B9.out)).mono ?_
        rintro e w10 ⟨rfl, hb⟩
        have B10 := hid (below_trans B9.out hb)
        clear hb CA4 B9
        have hq : ((la : Int) == ((lc : Int) + 2) / 3 * 4) = true := by rw [beq_iff_eq, hal.out]; omega
        have hne : ((la : Int) != ((lc : Int) + 2) / 3 * 4) = false := by rw [bne, hq]; rfl
        go_wp2_with fail
        go_loopw [14] (fun v wk => ∃ k : Nat, v = .int .i64 (k : Nat) ∧ k ≤ la ∧ wk = w10) (fun v _ => la - (intOf v).toNat)
        case atStart => exact ⟨0, rfl, Nat.zero_le _, rfl⟩
        case round =>
          obtain ⟨k, rfl, hk, rfl⟩ := hrel
          by_cases hke : k = la
          · subst hke
            go_wp2_with fail
            go_loopw [15] (fun v wj => ∃ j : Nat, v = .int .i64 (j : Nat) ∧ j ≤ lu ∧ wj = wr) (fun v _ => lu - (intOf v).toNat)
            case atStart => exact ⟨0, rfl, Nat.zero_le _, rfl⟩
            case round =>
              obtain ⟨j, rfl, hj, rfl⟩ := hrel
              by_cases hje : j = lu
              · subst hje
                go_wp2_with fail
                go_ret
                exact ⟨rfl, B10.out⟩
              · have hju : j < ub.size := by omega
                obtain ⟨d, hd⟩ : ∃ d, d = (uriL c).getD j 0 := ⟨_, rfl⟩
                have hbt : ub[j]'hju = d := by rw [IU.out j hju, hd]
                have hr := RU.out j (by omega)
                rw [← hd] at hr
                have hr1 : (37 : Int) ≤ d.toNat := by omega
                have hr2 : (d.toNat : Int) ≤ 126 := by omega
                clear hd hr
                go_wp2_with fail
                go_roundw
                case rel => exact ⟨j + 1, by go_num, by omega, by trivial⟩
                case measure => simp [intOf]; omega
          · have hka : k < ab.size := by omega
            obtain ⟨d, hd⟩ : ∃ d, d = (b64 c).getD k 0 := ⟨_, rfl⟩
            have hbt : ab[k]'hka = d := by rw [IA.out k hka, hd]
            have hr := RA.out k (by omega)
            rw [← hd] at hr
            have hr1 : (43 : Int) ≤ d.toNat := by omega
            have hr2 : (d.toNat : Int) ≤ 126 := by omega
            clear hd hr
            go_wp2_with fail
            go_roundw
            case rel => exact ⟨k + 1, by go_num, by omega, by trivial⟩
            case measure => simp [intOf]; omega
      · have h0 : decide (n ≠ ln) = true := decide_eq_true hne
        rw [h0]
        clear h0
        obtain ⟨m, rfl⟩ : ∃ m, n = m + 1 := ⟨n - 1, by omega⟩
        go_wp2_with fail
        go_roundw
        case rel => exact ⟨m, rfl, by omega, by omega, by trivial⟩
        case measure => simp [intOf]

end Go.Proofs.YtafeofgjmlhklaaGreatDoor
