/- The law FormatParts (made by tools/gen_parts20.py). -/
import Derived.Test.YtafeofgjmlhklaaGreatDoorFe
import Derived.Test.YtafeofgjmlhklaaGreatDoorPartsF
import Derived.Test.YtafeofgjmlhklaaGreatDoorSameR
import Derived.Test.YtafeofgjmlhklaaGreatDoorCleanP
namespace Go.Proofs.YtafeofgjmlhklaaGreatDoor
open Go.RowKit

set_option maxRecDepth 100000 in
set_option maxHeartbeats 12800000 in
theorem parts_nil (s y : List UInt8) (hy : y = []) (w : World) (hs : s.length + 1 ≤ 1048576) (hyl : y.length + 1 ≤ 1048576) (hT : Tabs w) (hM : Mx w) :
    Calls Tryz.prog 9 #[.string ⟨s.toArray⟩, .string ⟨y.toArray⟩] w fun e w' => e = .returned (.bool true) ∧ Below w.heap.size w w' := by
  have CS := hid (law20_shown w hT hM)
  have hTw := hid hT
  have hMw := hid hM
  have C1 := fun W (hM : Mx W) => format_Split s y W (by omega) hM
  have hPl := split_lenP s y
  have hJ := join_splitP s y
  rw [if_pos hy] at hJ
  have CC := fun W (hW : Tabs W) => utf_Clean s W (by omega) hW
  rw [← hJ] at CC
  have hjt : Hid (∀ k, (joinL y ((splitP s y).take k)).length ≤ 4194304) := by
    intro k
    have := join_take y (splitP s y) k
    rw [hJ] at this
    have h2 := clean_len s
    omega
  have CL := fun W => format_Case s false W (by omega)
  have CU := fun W => format_Case (caseL false s) true W (by simp [caseL]; omega)
  have CD := fun W => format_Case (caseL true (caseL false s)) false W (by simp [caseL]; omega)
  rw [case_back] at CD
  have T1 := fun W => format_Trim (y ++ s) y true false W (by rw [List.length_append]; omega)
  have T2 := fun W => format_Trim (s ++ y) y false true W (by rw [List.length_append]; omega)
  rw [trim_ahead] at T1
  rw [trim_behind] at T2
  rw [← bytes_app] at T1 T2
  have zs : (⟨s.toArray⟩ : ByteArray).size = s.length := rfl
  have zy : (⟨y.toArray⟩ : ByteArray).size = y.length := rfl
  have hem : (⟨y.toArray⟩ : ByteArray).toList.isEmpty = true := by rw [hy, ByteArray.toList_eq]; rfl
  generalize splitP s y = P at *
  generalize (⟨(caseL false s).toArray⟩ : ByteArray) = lb at *
  generalize (⟨(caseL true (caseL false s)).toArray⟩ : ByteArray) = ub at *
  obtain ⟨wb, hwb⟩ : ∃ wb : ByteArray, wb = ⟨(joinL y P).toArray⟩ := ⟨_, rfl⟩
  rw [← hwb] at CC
  replace hwb := hid hwb
  obtain ⟨sb, hsb⟩ : ∃ sb : ByteArray, sb = ⟨s.toArray⟩ := ⟨_, rfl⟩
  obtain ⟨yb, hyb⟩ : ∃ yb : ByteArray, yb = ⟨y.toArray⟩ := ⟨_, rfl⟩
  rw [← hsb] at C1 CL T1 T2 zs CC ⊢
  rw [← hyb] at C1 T1 T2 zy hem ⊢
  replace CC := hid CC
  replace hsb := hid hsb
  replace hyb := hid hyb
  replace C1 := hid C1
  replace CL := hid CL
  replace CU := hid CU
  replace CD := hid CD
  replace T1 := hid T1
  replace T2 := hid T2
  replace hJ := hid hJ
  clear hT hM hy
  go_enter Tryz.func9, Tryz.ntmps9
  go_wp2_with fail
  refine CS.out.mono ?_
  rintro e w1 ⟨rfl, hb⟩
  have B1 := hid hb
  clear hb CS
  go_wp2_with fail
  refine (C1.out _ (hMw.out.below B1.out)).mono ?_
  rintro e w2 ⟨aP, cP, rfl, hb, ho⟩
  obtain ⟨_, _, e3, hr, _⟩ := owns_row ho
  injection e3 with e3 _ e5
  subst e3 e5
  have B2 := hid (below_trans B1.out hb)
  have HR := hid hr
  clear hb ho hr C1 B1
  go_wp2_with fail
  go_loopw [7, 8] (fun v7 v8 wr => ∃ k : Nat, v8 = .int .i64 (k : Nat) ∧ k ≤ P.length ∧ v7 = .string ⟨(joinL y (P.take k)).toArray⟩ ∧ Below w2.heap.size w2 wr) (fun _ v8 _ => P.length - (intOf v8).toNat)
  case atStart => exact ⟨0, rfl, Nat.zero_le _, rfl, Below.refl _ _⟩
  case round =>
    obtain ⟨k, rfl, hk, rfl, hb⟩ := hrel
    have HB := hid hb
    clear hb
    by_cases hke : k = P.length
    · have hJe : Hid ((⟨(joinL y (P.take k)).toArray⟩ : ByteArray) = wb) := by
        show _ = _
        rw [hke, List.take_length]
        exact hwb.out.symm
      have B3 := hid (below_trans B2.out HB.out)
      rw [hJe.out]
      subst hke
      go_wp2_with fail
      refine (CC.out _ (hTw.out.below B3.out)).mono ?_
      rintro e w4 ⟨rfl, hb⟩
      have B4 := hid (below_trans B3.out hb)
      clear hb
      go_wp2_with fail
      refine (CL.out _).mono ?_
      rintro e w5 ⟨rfl, hb⟩
      have B5 := hid (below_trans B4.out hb)
      clear hb
      go_wp2_with fail
      refine (CU.out _).mono ?_
      rintro e w6 ⟨rfl, hb⟩
      have B6 := hid (below_trans B5.out hb)
      clear hb
      go_wp2_with fail
      refine (CD.out _).mono ?_
      rintro e w7 ⟨rfl, hb⟩
      have B7 := hid (below_trans B6.out hb)
      clear hb
      go_wp2_with fail
      refine (T1.out _).mono ?_
      rintro e w8 ⟨rfl, hw⟩
      rw [hw]
      clear hw w8
      go_wp2_with fail
      refine (T2.out _).mono ?_
      rintro e w9 ⟨rfl, hw⟩
      rw [hw]
      clear hw w9
      go_wp2_with fail
      go_ret
      exact ⟨rfl, B7.out⟩
    · have hkl : k < P.length := by omega
      obtain ⟨p, hp⟩ : ∃ p, P[k]? = some p := ⟨_, List.getElem?_eq_getElem hkl⟩
      have hpm := List.mem_of_getElem? hp
      obtain ⟨bb, off, rfl, hcell⟩ := srow_at (HR.out.below HB.out) hp
      have htk : P.take (k + 1) = P.take k ++ [p] := by rw [List.take_add_one, hp]; rfl
      have hjs := join_snoc y p (P.take k)
      rw [← htk] at hjs
      have hj1 := hjt.out k
      have hj2 := hjt.out (k + 1)
      have B3 := hid (below_trans B2.out HB.out)
      obtain ⟨jb, hjb⟩ : ∃ jb : ByteArray, jb = ⟨(joinL y (P.take k)).toArray⟩ := ⟨_, rfl⟩
      obtain ⟨jn, hjn⟩ : ∃ jn : ByteArray, jn = ⟨(joinL y (P.take (k + 1))).toArray⟩ := ⟨_, rfl⟩
      have zj : jb.size = (joinL y (P.take k)).length := by rw [hjb]; rfl
      have zn : jn.size = (joinL y (P.take (k + 1))).length := by rw [hjn]; rfl
      have zp : (⟨p.toArray⟩ : ByteArray).size = p.length := rfl
      rw [← hjb]
      have hjn2 := hid hjn
      have hpl0 : p.length ≤ 4194304 := Nat.le_trans (join_part y _ p (by rw [htk]; simp)) hj2
      have hcase : (k = 0 ∧ jb ++ (⟨p.toArray⟩ : ByteArray) = jn ∧ p.length ≤ 4194304) ∨ (∃ m, k = m + 1 ∧ jb ++ yb ++ (⟨p.toArray⟩ : ByteArray) = jn ∧ p.length ≤ 4194304) := by
        cases k with
        | zero =>
          left
          rw [List.take_zero, if_pos rfl] at hjs
          refine ⟨rfl, ?_, by rw [← hjs]; exact hj2⟩
          rw [hjb, hjn, bytes_app, hjs]
          rfl
        | succ m =>
          right
          have hne : P.take (m + 1) ≠ [] := by
            intro e
            have := congrArg List.length e
            rw [List.length_take, List.length_nil] at this
            omega
          rw [if_neg hne] at hjs
          refine ⟨m, rfl, ?_, ?_⟩
          · rw [hjb, hyb.out, hjn, bytes_app, bytes_app, hjs]
          · exact hpl0
      clear hjs htk hjb hjn hpm hp hj2
      generalize (joinL y (P.take k)).length = lj at *
      generalize (⟨p.toArray⟩ : ByteArray) = pb at *
      rcases hcase with ⟨rfl, hcat, hpl4⟩ | ⟨m, rfl, hcat, hpl4⟩
      · rw [Nat.add_zero] at hcell
        go_wp2_with fail
        go_roundw
        case rel => exact ⟨0 + 1, by go_num, by omega, by rw [hjn2.out], HB.out⟩
        case measure => simp [intOf]; omega
      · go_wp2_with fail
        go_roundw
        case rel => exact ⟨m + 1 + 1, by go_num, by omega, by rw [hjn2.out], HB.out⟩
        case measure => simp [intOf]; omega

set_option maxRecDepth 100000 in
set_option maxHeartbeats 12800000 in
theorem parts_cut (s y : List UInt8) (hy : y ≠ []) (w : World) (hs : s.length + 1 ≤ 1048576) (hyl : y.length + 1 ≤ 1048576) (hT : Tabs w) (hM : Mx w) :
    Calls Tryz.prog 9 #[.string ⟨s.toArray⟩, .string ⟨y.toArray⟩] w fun e w' => e = .returned (.bool true) ∧ Below w.heap.size w w' := by
  have CS := hid (law20_shown w hT hM)
  have hTw := hid hT
  have hMw := hid hM
  have C1 := fun W (hM : Mx W) => format_Split s y W (by omega) hM
  have hPl := split_lenP s y
  have hJ := join_splitP s y
  rw [if_neg hy] at hJ
  have hpl : ∀ p ∈ splitP s y, p.length ≤ 1048576 := by
    intro p hp
    have := join_part y _ p hp
    rw [hJ] at this
    omega
  have CQ : ∀ p ∈ splitP s y, ∀ W, Mx W → Calls Tryz.prog 14 #[.string ⟨p.toArray⟩, .string ⟨y.toArray⟩] W fun e w' => ∃ (a : Option Addr) (n cap : Nat), e = .returned (.slice a n cap) ∧ n ≤ 1 ∧ Below W.heap.size W w' := by
    intro p hp W hW
    refine (format_Split p y W (hpl p hp) hW).mono ?_
    rintro e w' ⟨a, cap, rfl, hb, _⟩
    exact ⟨a, _, cap, rfl, part_one hy p hp, hb⟩
  have hjt : Hid (∀ k, (joinL y ((splitP s y).take k)).length ≤ 4194304) := by
    intro k
    have := join_take y (splitP s y) k
    rw [hJ] at this
    have h2 := clean_len s
    omega
  have CL := fun W => format_Case s false W (by omega)
  have CU := fun W => format_Case (caseL false s) true W (by simp [caseL]; omega)
  have CD := fun W => format_Case (caseL true (caseL false s)) false W (by simp [caseL]; omega)
  rw [case_back] at CD
  have T1 := fun W => format_Trim (y ++ s) y true false W (by rw [List.length_append]; omega)
  have T2 := fun W => format_Trim (s ++ y) y false true W (by rw [List.length_append]; omega)
  rw [trim_ahead] at T1
  rw [trim_behind] at T2
  rw [← bytes_app] at T1 T2
  have zs : (⟨s.toArray⟩ : ByteArray).size = s.length := rfl
  have zy : (⟨y.toArray⟩ : ByteArray).size = y.length := rfl
  have hem : (⟨y.toArray⟩ : ByteArray).toList.isEmpty = false := not_empty hy
  generalize splitP s y = P at *
  generalize (⟨(caseL false s).toArray⟩ : ByteArray) = lb at *
  generalize (⟨(caseL true (caseL false s)).toArray⟩ : ByteArray) = ub at *
  obtain ⟨sb, hsb⟩ : ∃ sb : ByteArray, sb = ⟨s.toArray⟩ := ⟨_, rfl⟩
  obtain ⟨yb, hyb⟩ : ∃ yb : ByteArray, yb = ⟨y.toArray⟩ := ⟨_, rfl⟩
  rw [← hsb] at C1 CL T1 T2 zs ⊢
  rw [← hyb] at C1 T1 T2 zy hem CQ ⊢
  replace CQ := hid CQ
  replace hsb := hid hsb
  replace hyb := hid hyb
  replace C1 := hid C1
  replace CL := hid CL
  replace CU := hid CU
  replace CD := hid CD
  replace T1 := hid T1
  replace T2 := hid T2
  replace hJ := hid hJ
  clear hT hM hy
  go_enter Tryz.func9, Tryz.ntmps9
  go_wp2_with fail
  refine CS.out.mono ?_
  rintro e w1 ⟨rfl, hb⟩
  have B1 := hid hb
  clear hb CS
  go_wp2_with fail
  refine (C1.out _ (hMw.out.below B1.out)).mono ?_
  rintro e w2 ⟨aP, cP, rfl, hb, ho⟩
  obtain ⟨_, _, e3, hr, _⟩ := owns_row ho
  injection e3 with e3 _ e5
  subst e3 e5
  have B2 := hid (below_trans B1.out hb)
  have HR := hid hr
  clear hb ho hr C1 B1
  go_wp2_with fail
  go_loopw [7, 8] (fun v7 v8 wr => ∃ k : Nat, v8 = .int .i64 (k : Nat) ∧ k ≤ P.length ∧ v7 = .string ⟨(joinL y (P.take k)).toArray⟩ ∧ Below w2.heap.size w2 wr) (fun _ v8 _ => P.length - (intOf v8).toNat)
  case atStart => exact ⟨0, rfl, Nat.zero_le _, rfl, Below.refl _ _⟩
  case round =>
    obtain ⟨k, rfl, hk, rfl, hb⟩ := hrel
    have HB := hid hb
    clear hb
    by_cases hke : k = P.length
    · have hJe : Hid ((⟨(joinL y (P.take k)).toArray⟩ : ByteArray) = sb) := by
        show _ = _
        rw [hke, List.take_length]
        rw [hJ.out, hsb.out]
      have B3 := hid (below_trans B2.out HB.out)
      rw [hJe.out]
      subst hke
      go_wp2_with fail
      refine (CL.out _).mono ?_
      rintro e w4 ⟨rfl, hb⟩
      have B4 := hid (below_trans B3.out hb)
      clear hb
      go_wp2_with fail
      refine (CU.out _).mono ?_
      rintro e w5 ⟨rfl, hb⟩
      have B5 := hid (below_trans B4.out hb)
      clear hb
      go_wp2_with fail
      refine (CD.out _).mono ?_
      rintro e w6 ⟨rfl, hb⟩
      have B6 := hid (below_trans B5.out hb)
      clear hb
      go_wp2_with fail
      refine (T1.out _).mono ?_
      rintro e w7 ⟨rfl, hw⟩
      rw [hw]
      clear hw w7
      go_wp2_with fail
      refine (T2.out _).mono ?_
      rintro e w8 ⟨rfl, hw⟩
      rw [hw]
      clear hw w8
      go_wp2_with fail
      go_ret
      exact ⟨rfl, B6.out⟩
    · have hkl : k < P.length := by omega
      obtain ⟨p, hp⟩ : ∃ p, P[k]? = some p := ⟨_, List.getElem?_eq_getElem hkl⟩
      have hpm := List.mem_of_getElem? hp
      obtain ⟨bb, off, rfl, hcell⟩ := srow_at (HR.out.below HB.out) hp
      have htk : P.take (k + 1) = P.take k ++ [p] := by rw [List.take_add_one, hp]; rfl
      have hjs := join_snoc y p (P.take k)
      rw [← htk] at hjs
      have hj1 := hjt.out k
      have hj2 := hjt.out (k + 1)
      have B3 := hid (below_trans B2.out HB.out)
      have CQ1 := hid (CQ.out p hpm wr (hMw.out.below B3.out))
      obtain ⟨jb, hjb⟩ : ∃ jb : ByteArray, jb = ⟨(joinL y (P.take k)).toArray⟩ := ⟨_, rfl⟩
      obtain ⟨jn, hjn⟩ : ∃ jn : ByteArray, jn = ⟨(joinL y (P.take (k + 1))).toArray⟩ := ⟨_, rfl⟩
      have zj : jb.size = (joinL y (P.take k)).length := by rw [hjb]; rfl
      have zn : jn.size = (joinL y (P.take (k + 1))).length := by rw [hjn]; rfl
      have zp : (⟨p.toArray⟩ : ByteArray).size = p.length := rfl
      rw [← hjb]
      have hjn2 := hid hjn
      have hpl0 : p.length ≤ 4194304 := Nat.le_trans (join_part y _ p (by rw [htk]; simp)) hj2
      have hcase : (k = 0 ∧ jb ++ (⟨p.toArray⟩ : ByteArray) = jn ∧ p.length ≤ 4194304) ∨ (∃ m, k = m + 1 ∧ jb ++ yb ++ (⟨p.toArray⟩ : ByteArray) = jn ∧ p.length ≤ 4194304) := by
        cases k with
        | zero =>
          left
          rw [List.take_zero, if_pos rfl] at hjs
          refine ⟨rfl, ?_, by rw [← hjs]; exact hj2⟩
          rw [hjb, hjn, bytes_app, hjs]
          rfl
        | succ m =>
          right
          have hne : P.take (m + 1) ≠ [] := by
            intro e
            have := congrArg List.length e
            rw [List.length_take, List.length_nil] at this
            omega
          rw [if_neg hne] at hjs
          refine ⟨m, rfl, ?_, ?_⟩
          · rw [hjb, hyb.out, hjn, bytes_app, bytes_app, hjs]
          · exact hpl0
      clear hjs htk hjb hjn hpm hp hj2
      generalize (joinL y (P.take k)).length = lj at *
      generalize (⟨p.toArray⟩ : ByteArray) = pb at *
      rcases hcase with ⟨rfl, hcat, hpl4⟩ | ⟨m, rfl, hcat, hpl4⟩
      · rw [Nat.add_zero] at hcell
        go_wp2_with fail
        refine CQ1.out.mono ?_
        rintro e w3 ⟨aq, nq, cq, rfl, hq1, hb⟩
        have HB3 := hid (below_trans HB.out hb)
        have hq2 : (nq : Int) ≤ 1 := by omega
        clear hb
        go_wp2_with fail
        go_roundw
        case rel => exact ⟨0 + 1, by go_num, by omega, by rw [hjn2.out], HB3.out⟩
        case measure => simp [intOf]; omega
      · go_wp2_with fail
        refine CQ1.out.mono ?_
        rintro e w3 ⟨aq, nq, cq, rfl, hq1, hb⟩
        have HB3 := hid (below_trans HB.out hb)
        have hq2 : (nq : Int) ≤ 1 := by omega
        clear hb
        go_wp2_with fail
        go_roundw
        case rel => exact ⟨m + 1 + 1, by go_num, by omega, by rw [hjn2.out], HB3.out⟩
        case measure => simp [intOf]; omega

theorem law_FormatParts (s y : List UInt8) (w : World) (hs : s.length + 1 ≤ 1048576) (hyl : y.length + 1 ≤ 1048576) (hT : Tabs w) (hM : Mx w) :
    Calls Tryz.prog 9 #[.string ⟨s.toArray⟩, .string ⟨y.toArray⟩] w fun e w' => e = .returned (.bool true) ∧ Below w.heap.size w w' := by
  by_cases hy : y = []
  · exact parts_nil s y hy w hs hyl hT hM
  · exact parts_cut s y hy w hs hyl hT hM

end Go.Proofs.YtafeofgjmlhklaaGreatDoor
