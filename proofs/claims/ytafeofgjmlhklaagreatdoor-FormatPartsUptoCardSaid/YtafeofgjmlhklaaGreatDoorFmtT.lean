/- lorgnetteref20.Split. -/
import Derived.Test.YtafeofgjmlhklaaGreatDoorFe
import Derived.Test.YtafeofgjmlhklaaGreatDoorFf
namespace Go.Proofs.YtafeofgjmlhklaaGreatDoor
open Go.RowKit

theorem occ_eq {s y : List UInt8} {k : Nat} (h : k + y.length ≤ s.length) : Lib.occAt s y k = decide ((s.drop k).take y.length = y) := by
  unfold Lib.occAt
  rw [pre_take, List.length_drop, decide_eq_true (show y.length ≤ s.length - k by omega), Bool.true_and]

set_option maxRecDepth 100000 in
set_option maxHeartbeats 3200000 in
theorem ref20_split_at (s y : List UInt8) (hs0 : s ≠ []) (hy : y ≠ []) (w : World) (hs : s.length ≤ 1048576) (hyl : y.length ≤ 1048576) :
    Calls Tryz.prog 15 #[.string ⟨s.toArray⟩, .string ⟨y.toArray⟩] w fun e w' => ∃ a cap, e = .returned (.slice a (splitL y s).length cap) ∧ Below w.heap.size w w' ∧ w'.ownsRow w.heap.size 9 1 (.slice a (splitL y s).length cap) (splitL y s).length (strs (splitL y s)) := by
  have hyp : 0 < y.length := List.length_pos_iff.2 hy
  have hsl : 0 < s.length := List.length_pos_iff.2 hs0
  have hY := hid hy
  obtain ⟨sb, hsb⟩ : ∃ sb : ByteArray, sb = ⟨s.toArray⟩ := ⟨_, rfl⟩
  obtain ⟨yb, hyb⟩ : ∃ yb : ByteArray, yb = ⟨y.toArray⟩ := ⟨_, rfl⟩
  rw [← hsb, ← hyb]
  have hne1 : sb.toList.isEmpty = false := by rw [hsb]; exact not_empty hs0
  have hne2 : yb.toList.isEmpty = false := by rw [hyb]; exact not_empty hY.out
  have hz1 : sb.size = s.length := by rw [hsb]; rfl
  have hz2 : yb.size = y.length := by rw [hyb]; rfl
  replace hsb := hid hsb
  replace hyb := hid hyb
  clear hy hs0
  go_enter Tryz.func15, Tryz.ntmps15
  go_wp2_with fail
  go_loopw [5, 8, 9] (fun v5 v8 v9 wr => ∃ (a k : Nat) (done : List (List UInt8)), v8 = .int .i64 (a : Nat) ∧ v9 = .int .i64 (k : Nat) ∧ a ≤ k ∧ k ≤ s.length ∧ done.length ≤ a ∧ splitL y s = done ++ splitL y (s.drop a) ∧ (∀ j, a ≤ j → j < k → Lib.occAt s y j = false) ∧ wr.ownsRow w.heap.size 9 1 v5 done.length (strs done) ∧ Below w.heap.size w wr) (fun _ _ v9 _ => s.length - (intOf v9).toNat)
  case atStart => exact ⟨0, 0, [], rfl, rfl, Nat.le_refl _, Nat.zero_le _, Nat.le_refl _, rfl, fun j _ h => absurd h (Nat.not_lt_zero j), World.ownsRow_nil _ _ _ _, Below.refl _ _⟩
  case round =>
    obtain ⟨a, k, done, rfl, rfl, hak, hk, hda, he, hno, hown, hb⟩ := hrel
    have HE := hid he
    have HNO := hid hno
    have HO := hid hown
    have HB := hid hb
    have hszw := hb.size
    clear he hno hown hb
    by_cases hroom : k + y.length ≤ s.length
    · have hr1 : (k : Int) + (y.length : Nat) ≤ (s.length : Nat) := by omega
      have hw1 : IntKind.i64.wrap ((k : Int) + (y.length : Nat)) = ((k + y.length : Nat) : Int) := by rw [IntWalk.i64_in _ (by omega)]; omega
      have hq : ((sb.extract k (k + y.length)).toList == yb.toList) = Lib.occAt s y k := by
        rw [hsb.out, hyb.out, extract_gen, bytes_beq, occ_eq hroom, Nat.add_sub_cancel_left]
      cases hoc : Lib.occAt s y k with
      | true =>
        rw [hoc] at hq
        have hsp := scan_hit hY.out hak hk hoc HNO.out
        have HE2 := hid (show splitL y s = (done ++ [(s.drop a).take (k - a)]) ++ splitL y (s.drop (k + y.length)) by rw [HE.out, hsp]; simp)
        obtain ⟨pb, hpb⟩ : ∃ pb : ByteArray, pb = ⟨((s.drop a).take (k - a)).toArray⟩ := ⟨_, rfl⟩
        have hex : sb.extract a k = pb := by rw [hsb.out, hpb, extract_gen]
        replace hpb := hid hpb
        clear hsp hoc
        have hown2 := HO.out
        go_wp2_with (at_builtin; refine wpList_push strSlice rfl _ _ rfl w.heap.size (w0 := wr) hown2 rfl rfl rfl (by unfold maxLen; omega) (by omega) hszw ?_; intro v' w3 hown' hb')
        have HOW := hid (show w3.ownsRow w.heap.size 9 1 v' (done ++ [(s.drop a).take (k - a)]).length (strs (done ++ [(s.drop a).take (k - a)])) by
          rw [strs_app, List.length_append]
          unfold strV
          rw [← hpb.out]
          exact hown')
        have HB3 := hid (HB.out.trans hb')
        clear hown' hb' hown2
        go_wp2_with fail
        go_roundw
        case rel =>
          refine ⟨k + y.length, k + y.length, done ++ [(s.drop a).take (k - a)], by go_num, by go_num, Nat.le_refl _, hroom, ?_, HE2.out, fun j h1 h2 => absurd h1 (by omega), HOW.out, HB3.out⟩
          rw [List.length_append]
          simp only [List.length_cons, List.length_nil]
          omega
        case measure => simp [intOf]; omega
      | false =>
        rw [hoc] at hq
        have HNO2 : Hid (∀ j, a ≤ j → j < k + 1 → Lib.occAt s y j = false) := by
          intro j h1 h2
          rcases Nat.lt_succ_iff_lt_or_eq.1 h2 with h | rfl
          · exact HNO.out j h1 h
          · exact hoc
        clear hoc
        go_wp2_with fail
        go_roundw
        case rel => exact ⟨a, k + 1, done, rfl, by go_num, by omega, by omega, hda, HE.out, HNO2.out, HO.out, HB.out⟩
        case measure => simp [intOf]; omega
    · have hr1 : ¬ ((k : Int) + (y.length : Nat) ≤ (s.length : Nat)) := by omega
      have hw1 : IntKind.i64.wrap ((k : Int) + (y.length : Nat)) = (k : Int) + (y.length : Nat) := IntWalk.i64_in _ (by omega)
      have hsp := scan_miss hY.out (a := a) (s := s) (fun j h1 h2 => HNO.out j h1 (by omega))
      have HE2 := hid (show splitL y s = done ++ [s.drop a] by rw [HE.out, hsp])
      obtain ⟨pb, hpb⟩ : ∃ pb : ByteArray, pb = ⟨(s.drop a).toArray⟩ := ⟨_, rfl⟩
      have hex : sb.extract a s.length = pb := by rw [hsb.out, hpb, extract_gen, take_all]
      replace hpb := hid hpb
      clear hsp
      have hown2 := HO.out
      have hals : a ≤ s.length := by omega
      go_wp2_with (at_builtin; refine wpList_push strSlice rfl _ _ rfl w.heap.size (w0 := wr) hown2 rfl rfl rfl (by unfold maxLen; omega) (by omega) hszw ?_; intro v' w3 hown' hb')
      have hlen : (splitL y s).length = done.length + 1 := by rw [HE2.out]; simp
      have HOW := hid (show w3.ownsRow w.heap.size 9 1 v' (splitL y s).length (strs (splitL y s)) by
        rw [hlen, HE2.out, strs_app]
        unfold strV
        rw [← hpb.out]
        exact hown')
      have HB3 := hid (HB.out.trans hb')
      clear hown' hb' hown2
      go_wp2_with fail
      go_ret
      obtain ⟨a2, cap, rfl, _, _⟩ := owns_row HOW.out
      exact ⟨a2, cap, rfl, HB3.out, HOW.out⟩

set_option maxRecDepth 100000 in
set_option maxHeartbeats 3200000 in
theorem ref20_split_runes (s : List UInt8) (w : World) (hs : s.length ≤ 1048576) :
    Calls Tryz.prog 15 #[.string ⟨s.toArray⟩, .string ⟨#[]⟩] w fun e w' => ∃ a cap, e = .returned (.slice a (pts s).length cap) ∧ Below w.heap.size w w' ∧ w'.ownsRow w.heap.size 9 1 (.slice a (pts s).length cap) (pts s).length (strs ((pts s).map encU)) := by
  have C := hid (ref4_ExplodeAny s w (by omega))
  have hl := pts_len _ s (Nat.le_refl _)
  have HP := hid (pts_pt _ s (Nat.le_refl _))
  generalize pts s = ps at *
  generalize (⟨s.toArray⟩ : ByteArray) = sb at *
  go_enter Tryz.func15, Tryz.ntmps15
  go_wp2_with fail
  refine C.out.mono ?_
  rintro e w1 ⟨ap, cp, rfl, hb1, ho⟩
  obtain ⟨_, _, e3, hr, _⟩ := owns_row ho
  injection e3 with e3 _ _
  subst e3
  have HB1 := hid hb1
  have HR := hid hr
  have hsz1 := hb1.size
  clear ho hr hb1 C
  go_wp2_with fail
  go_loopw [5, 7] (fun v5 v7 wr => ∃ k : Nat, v7 = .int .i64 (k : Nat) ∧ k ≤ ps.length ∧ wr.ownsRow w1.heap.size 9 1 v5 k (strs ((ps.take k).map encU)) ∧ Below w1.heap.size w1 wr) (fun _ v7 _ => ps.length - (intOf v7).toNat)
  case atStart => exact ⟨0, rfl, Nat.zero_le _, World.ownsRow_nil _ _ _ _, Below.refl _ _⟩
  case round =>
    obtain ⟨k, rfl, hk, hown, hb⟩ := hrel
    have HO := hid hown
    have HB := hid hb
    have hszw := hb.size
    clear hown hb
    by_cases hke : k = ps.length
    · have HO2 := HO.out
      rw [hke, List.take_length] at HO2
      replace HO2 := hid HO2
      subst hke
      go_wp2_with fail
      go_ret
      obtain ⟨a, cap, rfl, _, _⟩ := owns_row HO2.out
      exact ⟨a, cap, rfl, below_trans HB1.out HB.out, owns_from HO2.out hsz1⟩
    · have hkl : k < ps.length := by omega
      obtain ⟨p, hp⟩ : ∃ p, ps[k]? = some p := ⟨_, List.getElem?_eq_getElem hkl⟩
      obtain ⟨bb, off, rfl, hcell⟩ := row_at (HR.out.below HB.out) hp
      have hpp : p ≤ 1114111 := by
        have h := HP.out p (List.mem_of_getElem? hp)
        unfold isPt at h
        omega
      have CB := fun W => ref4_Bytes p W hpp
      rw [show bysN (encN p) = encU p from rfl] at CB
      have HN : Hid (strs ((ps.take (k + 1)).map encU) = strs ((ps.take k).map encU) ++ [strV (encU p)]) := by
        show _ = _
        rw [List.take_add_one, hp, Option.toList_some, List.map_append, List.map_cons, List.map_nil, strs_app]
      unfold strV at HN
      generalize (⟨(encU p).toArray⟩ : ByteArray) = eb at *
      obtain ⟨X, hX⟩ : ∃ X, X = strs ((ps.take k).map encU) := ⟨_, rfl⟩
      rw [← hX] at HO HN
      replace CB := hid CB
      clear hX hp hpp
      go_wp2_with fail
      refine (CB.out _).mono ?_
      rintro e w2 ⟨rfl, hb2⟩
      have hown2 := owns_below HO.out hb2
      have HB2 := hid (below_trans HB.out hb2)
      have hsz2 := HB2.out.size
      clear hb2 CB hcell
      go_wp2_with (at_builtin; refine wpList_push strSlice rfl _ _ rfl w1.heap.size (w0 := w2) hown2 rfl rfl rfl (by unfold maxLen; omega) (by omega) hsz2 ?_; intro v' w3 hown' hb')
      rw [← HN.out] at hown'
      have HOW := hid hown'
      have HB3 := hid (HB2.out.trans hb')
      clear hown' hb' hown2
      go_wp2_with fail
      go_roundw
      case rel => exact ⟨k + 1, by go_num, by omega, HOW.out, HB3.out⟩
      case measure => simp [intOf]; omega

set_option maxRecDepth 100000 in
theorem ref20_split_nil (y : List UInt8) (hy : y ≠ []) (w : World) :
    Calls Tryz.prog 15 #[.string ⟨#[]⟩, .string ⟨y.toArray⟩] w fun e w' => e = .returned (.slice none 0 0) ∧ w' = w := by
  have hne2 : (⟨y.toArray⟩ : ByteArray).toList.isEmpty = false := not_empty hy
  generalize (⟨y.toArray⟩ : ByteArray) = yb at *
  go_enter Tryz.func15, Tryz.ntmps15
  go_wp2_with fail
  go_ret
  exact ⟨rfl, rfl⟩
/-- lorgnetteref20.Split. -/
theorem ref20_Split (s y : List UInt8) (w : World) (hs : s.length ≤ 1048576) (hyl : y.length ≤ 1048576) :
    Calls Tryz.prog 15 #[.string ⟨s.toArray⟩, .string ⟨y.toArray⟩] w fun e w' => ∃ a cap, e = .returned (.slice a (splitP s y).length cap) ∧ Below w.heap.size w w' ∧ w'.ownsRow w.heap.size 9 1 (.slice a (splitP s y).length cap) (splitP s y).length (strs (splitP s y)) := by
  unfold splitP
  by_cases hy : y = []
  · subst hy
    have e : (if s = [] then ([] : List (List UInt8)) else if ([] : List UInt8) = [] then (pts s).map encU else splitL [] s) = (pts s).map encU := by
      by_cases h : s = []
      · subst h; rfl
      · rw [if_neg h, if_pos rfl]
    rw [e, List.length_map]
    exact ref20_split_runes s w hs
  · by_cases h : s = []
    · subst h
      rw [if_pos rfl]
      refine (ref20_split_nil y hy w).mono ?_
      rintro e w' ⟨rfl, rfl⟩
      exact ⟨none, 0, rfl, Below.refl _ _, World.ownsRow_nil _ _ _ _⟩
    · rw [if_neg h, if_neg hy]
      exact ref20_split_at s y h hy w hs hyl

end Go.Proofs.YtafeofgjmlhklaaGreatDoor
