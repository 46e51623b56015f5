/- The document's answer: may a value be? One level, over the levels below; all levels. -/
import Derived.Test.YtldhebpkplglcaaGreatDoorMr
import Derived.Test.YtldhebpkplglcaaGreatDoorMl
import Derived.Test.YtldhebpkplglcaaGreatDoorMp
namespace Go.Proofs.YtldhebpkplglcaaGreatDoor
open Go.RowKit

def FitsC (n : Nat) : Prop := ∀ (v : JV) (cs : List Value) (w : World), RdV w cs v → Calls Tryz.prog 49 #[.agg cs.toArray, .int .i64 n] w fun en w' => en = .returned (.bool (mayJ n v)) ∧ Below w.heap.size w w'

theorem box_here (w : World) (kind : Int) (g : Bool) (a : Option Addr) (n c : Nat) (e : Int) (s : ByteArray) (aa : Option Addr) (an ac : Nat) (oa : Option Addr) (on oc : Nat) :
    BoxV (w.alloc (.cells #[.int .i64 kind, .bool g, .slice a n c, .int .i64 e, .string s, .slice aa an ac, .slice oa on oc] 28)) w.heap.size kind g a n c e s aa an ac oa on oc :=
  ⟨by simp [go_sem], by simp [go_sem], by simp [go_sem], by simp [go_sem], by simp [go_sem], by simp [go_sem], by simp [go_sem]⟩
theorem str_nil (s : List UInt8) : s.isEmpty = true ↔ (⟨s.toArray⟩ : ByteArray).toList = [] := by
  rw [ByteArray.toList_eq, List.isEmpty_iff]

theorem bad_deep {bad : Bool} {p q r : Prop} {N : Nat} [Decidable (p ∧ q ∧ (r ∨ N ≠ 0))] (h : bad = !decide (p ∧ q ∧ (r ∨ N ≠ 0))) (hp : p) (hq : q) (hr : ¬ r) : bad = ((N : Int) == 0) := by
  rw [h]
  by_cases hn : N = 0
  · subst hn
    rw [decide_eq_false (fun k => k.2.2.elim hr (fun e => e rfl))]
    rfl
  · rw [decide_eq_true ⟨hp, hq, Or.inr hn⟩, beq_eq_false_iff_ne.2 (show (N : Int) ≠ 0 by omega)]
    rfl

set_option maxRecDepth 100000 in
set_option maxHeartbeats 16000000 in
theorem fits_walk (N : Nat) (hN : N ≤ 200) (IH : ∀ m, N = m + 1 → FitsC m) (v : JV) (a : Option Addr) (c : Nat) (aa : Option Addr) (ac : Nat) (oa : Option Addr) (oc : Nat) (w : World)
    (P : PartsV w (valCs v.kind v.g a v.ls.length c v.e v.s aa v.arr.length ac oa v.obj.length oc) v a c aa ac oa oc) :
    Calls Tryz.prog 49 #[valV v.kind v.g a v.ls.length c v.e v.s aa v.arr.length ac oa v.obj.length oc, .int .i64 (N : Int)] w fun en w' => en = .returned (.bool (mayJ N v)) ∧ Below w.heap.size w w' := by
  have hs := P.s
  have hA := hid P.arr
  have hO := hid P.obj
  have hU := P.u
  have hal : v.arr.length ≤ 9223372036854775807 := by have := P.ac; omega
  have hol : v.obj.length ≤ 9223372036854775807 := by have := P.oc; omega
  replace IH := hid IH
  clear P
  obtain ⟨R, hR⟩ : ∃ R, R = mayJ N v := ⟨_, rfl⟩
  rw [← hR]
  replace hR := hid hR
  have hNOT := hid (may_not (N := N) (v := v))
  have hLEAF := hid (may_leaf (N := N) (v := v))
  have hZ := hid (may_nought (v := v))
  have hD := hid fun n => may_down1 (n := n) (v := v)
  rw [← hR.out] at hNOT hLEAF
  obtain ⟨kind, g, ls, e, s, arr, obj⟩ := v
  have hnum : numB (JV.mk kind g ls e s arr obj) = if kind = 3 then mayB g ls e else (!g && ls.isEmpty && decide (e = 0)) := rfl
  have hstr : strB (JV.mk kind g ls e s arr obj) = if kind = 4 then soundB s else s.isEmpty := rfl
  rw [hnum, hstr] at hNOT hLEAF hD
  simp only [JV.kind, JV.g, JV.ls, JV.e, JV.s, JV.arr, JV.obj] at *
  clear hnum hstr
  by_cases hk : 0 ≤ kind ∧ kind ≤ 6
  rotate_left
  · obtain rfl : R = false := hNOT.out (fun h => hk h.1)
    exact fits_base kind g a ls c e s aa _ ac oa _ oc N w hk
  by_cases hnum : (if kind = 3 then mayB g ls e else (!g && ls.isEmpty && decide (e = 0))) = true
  rotate_left
  · obtain rfl : R = false := hNOT.out (fun h => hnum h.2.1)
    by_cases h3 : kind = 3
    · subst h3
      exact fits_num3 g a ls c e s aa _ ac oa _ oc N w hU (by simpa using hnum)
    · refine fits_num kind g a ls.length c e s aa _ ac oa _ oc N w hk.1 hk.2 h3 (fun h => hnum ?_)
      rw [if_neg h3, h.1, h.2.2, List.length_eq_zero_iff.1 h.2.1]
      rfl
  have hS := fun W => ref11_Sound s W hs
  have hse := str_nil s
  have hso : s.isEmpty = true → soundB s = true := fun h => by rw [List.isEmpty_iff.1 h]; exact sound_nil
  obtain ⟨str, hstr⟩ : ∃ str, str = (if kind = 4 then soundB s else s.isEmpty) := ⟨_, rfl⟩
  rw [hnum, ← hstr] at hNOT hLEAF hD
  have hN2 : Hid (¬ (str = true ∧ (kind = 5 ∨ arr.length = 0) ∧ (kind = 6 ∨ obj.length = 0)) → R = false) := fun h => hNOT.out (fun q => h q.2.2)
  have hL2 : Hid (str = true → (kind = 5 ∨ arr.length = 0) → (kind = 6 ∨ obj.length = 0) → kind < 5 → R = true) := fun h1 h2 h3 h4 => hLEAF.out ⟨hk, rfl, h1, h2, h3⟩ h4
  have hD2 : Hid (str = true → (kind = 5 ∨ arr.length = 0) → (kind = 6 ∨ obj.length = 0) → ∀ n, (mayJ (n + 1) (JV.mk kind g ls e s arr obj) = true ↔ (∀ x ∈ arr, mayJ n x = true) ∧ (∀ x ∈ obj, soundB x.1 = true ∧ mayJ n x.2 = true) ∧ (obj.map (·.1)).Nodup)) := fun h1 h2 h3 n => hD.out n ⟨hk, rfl, h1, h2, h3⟩
  clear hNOT hLEAF hD
  obtain ⟨hk0, hk6⟩ := hk
  have k0 : ¬ kind < 0 := by omega
  have k6 : ¬ 6 < kind := by omega
  clear hk0 hk6
  unfold valV strV
  generalize hsb : (⟨s.toArray⟩ : ByteArray) = sb at *
  generalize hso' : soundB s = so at *
  generalize hsE : s.isEmpty = se at *
  have HC : Hid (kind = 3 → ∀ W, Below w.heap.size w W → Calls Tryz.prog 78 #[.agg #[.bool g, .slice a ls.length c, .int .i64 e]] W fun en w' => en = .returned (.bool true) ∧ Below W.heap.size W w') := by
    intro h3 W hb
    rw [if_pos h3] at hnum
    have := ref2_May g a c e ls W (hU.below hb)
    rw [hnum] at this
    exact this
  have HQ : Hid (kind ≠ 3 → g = false ∧ ls.length = 0 ∧ e = 0) := by
    intro h3
    rw [if_neg h3] at hnum
    simp only [Bool.and_eq_true, Bool.not_eq_true', List.isEmpty_iff, decide_eq_true_eq] at hnum
    exact ⟨hnum.1.1, by rw [hnum.1.2]; rfl, hnum.2⟩
  generalize hll : ls.length = ln at *
  generalize hal' : arr.length = an at *
  generalize hol' : obj.length = on at *
  have HAL := hid hal'
  have HOL := hid hol'
  have HSB := hid hsb
  replace hS := hid hS
  replace hso := hid hso
  replace hstr := hid hstr
  have hX := box_here w kind g a ln c e sb aa an ac oa on oc
  have hB := (Below.refl w.heap.size w).alloc (Nat.le_refl _) (.cells #[.int .i64 kind, .bool g, .slice a ln c, .int .i64 e, .string sb, .slice aa an ac, .slice oa on oc] 28)
  obtain ⟨W, hW⟩ : ∃ W, W = w.alloc (.cells #[.int .i64 kind, .bool g, .slice a ln c, .int .i64 e, .string sb, .slice aa an ac, .slice oa on oc] 28) := ⟨_, rfl⟩
  rw [← hW] at hX hB
  have HX := hid hX
  have HB := hid hB
  replace hW := hid hW.symm
  clear hX hB hal' hol' hll hnum hU hsb hso' hsE
  replace hse := hid hse
  go_enter Tryz.func49, Tryz.ntmps49
  go_upto_region 1 with fail
  rw [hW.out]
  obtain ⟨B0, B1, B2, B3, B4, B5, B6⟩ := HX.out
  by_cases h3 : kind = 3
  · subst h3
    have C := hid (HC.out rfl)
    clear HC HQ hD2 hZ hR IH
    go_wp2_with fail
    refine (C.out _ HB.out).mono ?_
    rintro en w1 ⟨rfl, hb⟩
    replace HB := hid (below_trans HB.out hb)
    replace HX := hid (HX.out.stay hb)
    clear hb C hW
    clear B0 B1 B2 B3 B4 B5 B6
    obtain ⟨B0, B1, B2, B3, B4, B5, B6⟩ := HX.out

    cases se with
    | false =>
      have hsn : ¬ sb.toList = [] := fun h => by cases hse.out.2 h
      obtain rfl : R = false := hN2.out (fun h => by have := hstr.out; rw [h.1] at this; cases this)
      go_wp2_with fail
      go_ret
      exact ⟨rfl, HB.out⟩

    | true =>
      have hsn : sb.toList = [] := hse.out.1 rfl
      obtain rfl : str = true := hstr.out
      obtain rfl : so = true := hso.out rfl
      clear hstr hso
      go_wp2_with fail
      refine (hS.out _).mono ?_
      rintro en w2 ⟨rfl, hb⟩
      replace HB := hid (below_trans HB.out hb)
      replace HX := hid (HX.out.stay hb)
      clear hb
      clear B0 B1 B2 B3 B4 B5 B6
      obtain ⟨B0, B1, B2, B3, B4, B5, B6⟩ := HX.out

      by_cases ha : an = 0
      rotate_left
      · obtain rfl : R = false := hN2.out (fun h => by have := h.2.1; omega)
        have fa : (0 : Int) < (an : Int) := by omega
        clear ha
        go_wp2_with fail
        go_ret
        exact ⟨rfl, HB.out⟩

      by_cases ho : on = 0
      rotate_left
      · obtain rfl : R = false := hN2.out (fun h => by have := h.2.2; omega)
        have fo : (0 : Int) < (on : Int) := by omega
        subst ha
        clear ho
        go_wp2_with fail
        go_ret
        exact ⟨rfl, HB.out⟩

      subst ha ho
      obtain rfl : R = true := hL2.out (by trivial) (by simp) (by simp) (by decide)
      clear hN2 hL2
      go_upto_region 13 with fail
      go_loopw [5] (fun v5 wr => v5 = .int .i64 0 ∧ Below w.heap.size w wr ∧ BoxV wr w.heap.size 3 g a ln c e sb aa 0 ac oa 0 oc) (fun _ _ => 0)
      case atStart => exact ⟨rfl, HB.out, HX.out⟩
      case round =>
        obtain ⟨rfl, hb, hx⟩ := hrel
        obtain ⟨x0, x1, x2, x3, x4, x5, x6⟩ := hx
        go_upto_region 18 with fail
        go_loopw [6] (fun v6 w3 => v6 = .int .i64 0 ∧ Below w.heap.size w w3 ∧ BoxV w3 w.heap.size 3 g a ln c e sb aa 0 ac oa 0 oc) (fun _ _ => 0)
        case atStart => exact ⟨rfl, hb, ⟨x0, x1, x2, x3, x4, x5, x6⟩⟩
        case round =>
          obtain ⟨rfl, hb2, hx2⟩ := hrel
          obtain ⟨z0, z1, z2, z3, z4, z5, z6⟩ := hx2
          go_wp2_with fail
          go_ret
          exact ⟨rfl, hb2⟩
  obtain ⟨rfl, rfl, rfl⟩ := HQ.out h3
  have f3 : (kind == 3) = false := by rw [beq_eq_false_iff_ne]; exact h3
  clear HQ HC hW
  go_upto_region 8 with fail
  go_cut [4, 52] from 8 (fun v4 v52 w' => v4 = .bool false ∧ v52 = .bool (!str) ∧ Below w.heap.size w w' ∧ BoxV w' w.heap.size kind false a 0 c 0 sb aa an ac oa on oc)
  case first =>
    by_cases h4 : kind = 4
    · subst h4
      obtain rfl : str = so := hstr.out
      clear hstr hso
      go_wp2_with fail
      refine (hS.out _).mono ?_
      rintro en w2 ⟨rfl, hb⟩
      have HB2 := hid (below_trans HB.out hb)
      have HX2 := hid (HX.out.stay hb)
      clear hb
      go_wp2_with fail
      go_meet
      case rel => exact ⟨rfl, rfl, HB2.out, HX2.out⟩
    · have f4 : (kind != 4) = true := by rw [bne_iff_ne]; exact h4
      obtain rfl : str = se := by have := hstr.out; rw [if_neg h4] at this; exact this
      clear hstr h4
      cases str with
      | false =>
        have hsn : ¬ sb.toList = [] := fun h => by cases hse.out.2 h
        go_wp2_with fail
        go_meet
        case rel => exact ⟨rfl, rfl, HB.out, HX.out⟩
      | true =>
        have hsn : sb.toList = [] := hse.out.1 rfl
        obtain rfl : so = true := hso.out rfl
        clear hso
        go_wp2_with fail
        refine (hS.out _).mono ?_
        rintro en w2 ⟨rfl, hb⟩
        have HB2 := hid (below_trans HB.out hb)
        have HX2 := hid (HX.out.stay hb)
        clear hb
        go_wp2_with fail
        go_meet
        case rel => exact ⟨rfl, rfl, HB2.out, HX2.out⟩
  case rest =>
  obtain ⟨rfl, rfl, g0, g1⟩ := hcut
  clear HB HX B0 B1 B2 B3 B4 B5 B6 hS hso hse hstr f3
  have HB := hid g0
  have HX := hid g1
  clear g0 g1
  obtain ⟨B0, B1, B2, B3, B4, B5, B6⟩ := HX.out
  cases str with
  | false =>
    obtain rfl : R = false := hN2.out (fun h => by cases h.1)
    go_wp2_with fail
    go_ret
    exact ⟨rfl, HB.out⟩

  | true =>
  go_upto_region 10 with fail
  obtain ⟨bad, hbad⟩ : ∃ bad : Bool, bad = !decide ((kind = 5 ∨ an = 0) ∧ (kind = 6 ∨ on = 0) ∧ (kind < 5 ∨ N ≠ 0)) := ⟨_, rfl⟩
  replace hbad := hid hbad
  go_cut [4, 81] from 8 (fun v4 v81 w' => v4 = .bool false ∧ v81 = .bool bad ∧ Below w.heap.size w w' ∧ BoxV w' w.heap.size kind false a 0 c 0 sb aa an ac oa on oc)
  case first =>
    clear hN2 hL2 hD2 hZ hR IH
    by_cases ha : kind = 5 ∨ an = 0
    rotate_left
    · obtain rfl : bad = true := by rw [hbad.out]; simp [ha]
      have f5 : (kind != 5) = true := by rw [bne_iff_ne]; omega
      have fa : (0 : Int) < (an : Int) := by omega
      clear ha
      go_wp2_with fail
      go_meet
      case rel => exact ⟨rfl, rfl, HB.out, HX.out⟩
    by_cases ho : kind = 6 ∨ on = 0
    rotate_left
    · obtain rfl : bad = true := by rw [hbad.out]; simp [ho]
      have f6 : (kind != 6) = true := by rw [bne_iff_ne]; omega
      have fo : (0 : Int) < (on : Int) := by omega
      by_cases h5 : kind = 5
      · subst h5
        clear ha ho
        go_wp2_with fail
        go_meet
        case rel => exact ⟨rfl, rfl, HB.out, HX.out⟩
      · have f5 : (kind != 5) = true := by rw [bne_iff_ne]; omega
        obtain rfl : an = 0 := by omega
        clear ha ho h5
        go_wp2_with fail
        go_meet
        case rel => exact ⟨rfl, rfl, HB.out, HX.out⟩
    by_cases h5 : kind = 5
    · subst h5
      obtain rfl : on = 0 := by omega
      have hbn := hid (bad_deep hbad.out (by simp) (by simp) (by decide))
      clear ha ho hbad h3
      go_wp2_with fail
      go_meet
      case rel => exact ⟨rfl, by rw [hbn.out], HB.out, HX.out⟩
    · have f5 : (kind != 5) = true := by rw [bne_iff_ne]; omega
      obtain rfl : an = 0 := by omega
      by_cases h6 : kind = 6
      · subst h6
        have hbn := hid (bad_deep hbad.out (by simp) (by simp) (by decide))
        clear ha ho hbad h3 h5
        go_wp2_with fail
        go_meet
        case rel => exact ⟨rfl, by rw [hbn.out], HB.out, HX.out⟩
      · have f6 : (kind != 6) = true := by rw [bne_iff_ne]; omega
        obtain rfl : on = 0 := by omega
        have f4 : ¬ 4 < kind := by omega
        obtain rfl : bad = false := by rw [hbad.out]; simp; omega
        clear ha ho h6 h5 h3
        go_wp2_with fail
        go_meet
        case rel => exact ⟨rfl, rfl, HB.out, HX.out⟩
  case rest =>
  obtain ⟨rfl, rfl, g0, g1⟩ := hcut
  clear HB HX B0 B1 B2 B3 B4 B5 B6
  have HB := hid g0
  have HX := hid g1
  clear g0 g1
  obtain ⟨B0, B1, B2, B3, B4, B5, B6⟩ := HX.out
  cases bad with
  | true =>
    obtain rfl : R = false := by
      by_cases hh : (kind = 5 ∨ an = 0) ∧ (kind = 6 ∨ on = 0)
      · have hb := hbad.out
        have h1 : ¬ (kind < 5 ∨ N ≠ 0) := by
          intro h
          rw [decide_eq_true (show (kind = 5 ∨ an = 0) ∧ (kind = 6 ∨ on = 0) ∧ (kind < 5 ∨ N ≠ 0) from ⟨hh.1, hh.2, h⟩)] at hb
          cases hb
        have h2 : N = 0 := by omega
        rw [hR.out, h2]
        exact hZ.out (fun h => h1 (Or.inl h))
      · exact hN2.out (fun h => hh h.2)
    go_wp2_with fail
    go_ret
    exact ⟨rfl, HB.out⟩

  | false =>
  have hgood : (kind = 5 ∨ an = 0) ∧ (kind = 6 ∨ on = 0) ∧ (kind < 5 ∨ N ≠ 0) := by
    refine Classical.byContradiction fun h => ?_
    have := hbad.out
    rw [decide_eq_false h] at this
    cases this
  obtain ⟨ha, ho, hn⟩ := hgood
  clear hbad hN2
  by_cases hk5 : kind < 5
  · obtain rfl : R = true := hL2.out rfl ha ho hk5
    obtain rfl : an = 0 := by omega
    obtain rfl : on = 0 := by omega
    clear hL2 hD2 hZ hR IH ha ho hn h3 hk5
    go_upto_region 13 with fail
    go_loopw [5] (fun v5 wr => v5 = .int .i64 0 ∧ Below w.heap.size w wr ∧ BoxV wr w.heap.size kind false a 0 c 0 sb aa 0 ac oa 0 oc) (fun _ _ => 0)
    case atStart => exact ⟨rfl, HB.out, HX.out⟩
    case round =>
      obtain ⟨rfl, hb, hx⟩ := hrel
      obtain ⟨x0, x1, x2, x3, x4, x5, x6⟩ := hx
      go_upto_region 18 with fail
      go_loopw [6] (fun v6 w3 => v6 = .int .i64 0 ∧ Below w.heap.size w w3 ∧ BoxV w3 w.heap.size kind false a 0 c 0 sb aa 0 ac oa 0 oc) (fun _ _ => 0)
      case atStart => exact ⟨rfl, hb, ⟨x0, x1, x2, x3, x4, x5, x6⟩⟩
      case round =>
        obtain ⟨rfl, hb2, hx2⟩ := hrel
        obtain ⟨z0, z1, z2, z3, z4, z5, z6⟩ := hx2
        go_wp2_with fail
        go_ret
        exact ⟨rfl, hb2⟩

  obtain ⟨n, hn1⟩ : ∃ n, N = n + 1 := ⟨N - 1, by omega⟩
  have hIH := hid (IH.out n hn1)
  have hD3 := hid (hD2.out rfl ha ho n)
  have hRR : Hid (R = mayJ (n + 1) (JV.mk kind false ls 0 s arr obj)) := hid (hR.out.trans (by rw [hn1]))
  have hw1 : IntKind.i64.wrap ((N : Int) - 1) = (n : Int) := by rw [IntWalk.i64_in _ (by omega)]; omega
  clear hn hn1 hR hD2 IH hZ ha ho hL2 h3 hk5 k0 k6
  have hD4 := hD3
  have hNp : (N : Int) ≤ 200 := by omega
  go_upto_region 13 with fail
  clear B0 B1 B2 B3 B4 B5 B6
  go_loopw [5] (fun v5 wr => ∃ k : Nat, k ≤ an ∧ Hid (∀ x ∈ arr.take k, mayJ n x = true) ∧ v5 = .int .i64 k ∧ Below w.heap.size w wr ∧ BoxV wr w.heap.size kind false a 0 c 0 sb aa an ac oa on oc) (fun v5 _ => an - (intOf v5).toNat)
  case atStart => exact ⟨0, Nat.zero_le _, hid (by simp), rfl, HB.out, HX.out⟩
  case round =>
    clear HB HX
    obtain ⟨k, hk, hM, rfl, hb, hbx⟩ := hrel
    have HX := hid hbx
    obtain ⟨B0, B1, B2, B3, B4, B5, B6⟩ := hbx
    by_cases hlt : k < an
    · have hlt2 : (k : Int) < (an : Int) := by omega
      have hk1 : k < arr.length := by rw [HAL.out]; exact hlt
      obtain ⟨b, off, a1, c1, aa1, ac1, oa1, oc1, rfl, P1, C1⟩ := (hA.out.below hb).at hk1
      have rd := hid P1.rd
      clear P1
      unfold Cells7 strV at C1
      obtain ⟨x, hx⟩ : ∃ x, x = arr[k] := ⟨_, rfl⟩
      rw [← hx] at C1 rd
      obtain ⟨C10, C11, C12, C13, C14, C15, C16⟩ := C1
      have HXX := hid hx
      clear hx
      have C := hIH.out x _ _ rd.out
      obtain ⟨dx, hdx⟩ : ∃ dx, dx = mayJ n x := ⟨_, rfl⟩
      rw [← hdx] at C
      replace C := hid C
      have HDX := hid hdx
      clear hdx rd
      cases dx with
      | true =>
        go_wp2_with fail
        refine C.out.mono ?_
        rintro en w1 ⟨rfl, hb1⟩
        go_wp2
        go_roundw
        case rel => exact ⟨k + 1, by omega, hid (fun y hy => by
          rw [List.take_succ_eq_append_getElem hk1] at hy
          rcases List.mem_append.1 hy with h | h
          · exact hM.out y h
          · simp only [List.mem_singleton] at h
            rw [h, ← HXX.out]
            exact HDX.out.symm), by first | rfl | go_num, below_trans hb hb1, HX.out.stay hb1⟩
        case measure => simp [intOf]; omega
      | false =>
        obtain rfl : R = false := by
          rw [hRR.out, Bool.eq_false_iff]
          intro h
          have := (hD4.out.1 h).1 x (by rw [HXX.out]; exact List.getElem_mem hk1)
          rw [← HDX.out] at this
          cases this
        go_wp2_with fail
        refine C.out.mono ?_
        rintro en w1 ⟨rfl, hb1⟩
        go_wp2
        go_ret
        exact ⟨rfl, below_trans hb hb1⟩
    · obtain rfl : k = an := by omega
      have hlt2 : ¬ ((k : Nat) : Int) < (k : Int) := by omega
      have hArr : Hid (∀ x ∈ arr, mayJ n x = true) := by
        have := hM.out
        rw [List.take_of_length_le (by rw [HAL.out]; exact Nat.le_refl _)] at this
        exact this
      clear hM
      go_upto_region 18 with fail
      clear B0 B1 B2 B3 B4 B5 B6
      go_loopw [6] (fun v6 w3 => ∃ j : Nat, j ≤ on ∧ Hid (∀ x ∈ obj.take j, soundB x.1 = true ∧ mayJ n x.2 = true) ∧ Hid (((obj.take j).map (·.1)).Nodup) ∧ v6 = .int .i64 j ∧ Below w.heap.size w w3 ∧ BoxV w3 w.heap.size kind false a 0 c 0 sb aa k ac oa on oc) (fun v6 _ => on - (intOf v6).toNat)
      case atStart => exact ⟨0, Nat.zero_le _, hid (by simp), hid (by simp), rfl, hb, HX.out⟩
      case round =>
        clear HX hb
        obtain ⟨j, hj, hM2, hND, rfl, hb, hbx⟩ := hrel
        have HX := hid hbx
        obtain ⟨B0, B1, B2, B3, B4, B5, B6⟩ := hbx
        by_cases hlt3 : j < on
        · have hlt4 : (j : Int) < (on : Int) := by omega
          have hj1 : j < obj.length := by rw [HOL.out]; exact hlt3
          obtain ⟨b, off, a1, c1, aa1, ac1, oa1, oc1, rfl, hkl, P1, C1⟩ := (hO.out.below hb).at hj1
          have rd := hid P1.rd
          clear P1
          have C2 := C1
          unfold Cells8f strV at C1
          obtain ⟨x, hx⟩ : ∃ x, x = obj[j] := ⟨_, rfl⟩
          rw [← hx] at C1 C2 rd hkl
          have HXX := hid hx
          clear hx
          obtain ⟨key, x⟩ := x
          simp only at C1 C2 rd hkl
          have CS := hid fun W => ref11_Sound key W hkl
          have hmem : Hid ((key, x) ∈ obj) := hid (by rw [HXX.out]; exact List.getElem_mem hj1)
          have htk : Hid (obj.take (j + 1) = obj.take j ++ [(key, x)]) := hid (by rw [List.take_succ_eq_append_getElem hj1, ← HXX.out])
          obtain ⟨so, hso⟩ : ∃ so, so = soundB key := ⟨_, rfl⟩
          rw [← hso] at CS
          have HSO := hid hso
          obtain ⟨C10, C11, C12, C13, C14, C15, C16, C17⟩ := C1
          have HC2 := hid C2
          have HKL := hid hkl
          obtain ⟨kb, hkb⟩ : ∃ kb : ByteArray, kb = ⟨key.toArray⟩ := ⟨_, rfl⟩
          rw [← hkb] at C10 CS
          replace hkb := hid hkb
          clear hso C2 hkl
          cases so with
          | false =>
            obtain rfl : R = false := by
              rw [hRR.out, Bool.eq_false_iff]
              intro h
              have := ((hD4.out.1 h).2.1 _ hmem.out).1
              rw [← HSO.out] at this
              cases this
            go_wp2_with fail
            refine (CS.out _).mono ?_
            rintro en w1 ⟨rfl, hb1⟩
            go_wp2
            go_ret
            exact ⟨rfl, below_trans hb hb1⟩
          | true =>
          go_wp2_with fail
          refine (CS.out _).mono ?_
          rintro en w1 ⟨rfl, hb1⟩
          have HB1 := hid (below_trans hb hb1)
          have HX1 := hid (HX.out.stay hb1)
          have CC : Cells8f w1 b (off + j * 8) key x.kind x.g a1 x.ls.length c1 x.e x.s aa1 x.arr.length ac1 oa1 x.obj.length oc1 := by
            obtain ⟨h0, h1, h2, h3, h4, h5, h6, h7⟩ := HC2.out
            exact ⟨cell_stay h0 hb1, cell_stay h1 hb1, cell_stay h2 hb1, cell_stay h3 hb1, cell_stay h4 hb1, cell_stay h5 hb1, cell_stay h6 hb1, cell_stay h7 hb1⟩
          have C := hIH.out x _ _ (rd.out.stay hb1)
          clear B0 B1 B2 B3 B4 B5 B6 C10 C11 C12 C13 C14 C15 C16 C17 HC2 hb hb1 HX rd CS
          unfold Cells8f strV at CC
          rw [← hkb.out] at CC
          obtain ⟨C10, C11, C12, C13, C14, C15, C16, C17⟩ := CC
          obtain ⟨B0, B1, B2, B3, B4, B5, B6⟩ := HX1.out
          obtain ⟨my, hmy⟩ : ∃ my, my = mayJ n x := ⟨_, rfl⟩
          rw [← hmy] at C
          replace C := hid C
          replace hmy := hid hmy
          cases my with
          | false =>
            obtain rfl : R = false := by
              rw [hRR.out, Bool.eq_false_iff]
              intro h
              have := ((hD4.out.1 h).2.1 _ hmem.out).2
              rw [← hmy.out] at this
              cases this
            go_wp2_with fail
            refine C.out.mono ?_
            rintro en w2 ⟨rfl, hb2⟩
            go_wp2
            go_ret
            exact ⟨rfl, below_trans HB1.out hb2⟩
          | true =>
          go_wp2_with fail
          refine C.out.mono ?_
          rintro en w2 ⟨rfl, hb2⟩
          have HB2 := hid (below_trans HB1.out hb2)
          have HX2 := hid (HX1.out.stay hb2)
          clear B0 B1 B2 B3 B4 B5 B6 C10 C11 C12 C13 C14 C15 C16 C17 HB1 HX1 C hb2
          go_upto_region 23 with fail
          go_loopw [7] (fun v7 w4 => ∃ i : Nat, i ≤ j ∧ Hid (∀ p ∈ obj.take i, p.1 ≠ key) ∧ v7 = .int .i64 i ∧ Below w.heap.size w w4 ∧ BoxV w4 w.heap.size kind false a 0 c 0 sb aa k ac (some ⟨b, off, none⟩) on oc) (fun v7 _ => j - (intOf v7).toNat)
          case atStart => exact ⟨0, Nat.zero_le _, hid (by simp), rfl, HB2.out, HX2.out⟩
          case round =>
            clear HB2 HX2
            obtain ⟨i, hi, hM3, rfl, hb, hbx⟩ := hrel
            have HX := hid hbx
            obtain ⟨B0, B1, B2, B3, B4, B5, B6⟩ := hbx
            by_cases hlt5 : i < j
            · have hlt6 : (i : Int) < (j : Int) := by omega
              have hlt7 : (i : Int) < (on : Int) := by omega
              have hi1 : i < obj.length := by omega
              obtain ⟨b', off', a2, c2, aa2, ac2, oa2, oc2, he, hkl2, P2, D1⟩ := (hO.out.below hb).at hi1
              obtain ⟨b'', off'', a3, c3, aa3, ac3, oa3, oc3, he', hkl3, P3, D2⟩ := (hO.out.below hb).at hj1
              simp only [Option.some.injEq, Addr.mk.injEq, and_true] at he he'
              obtain ⟨rfl, rfl⟩ := he
              obtain ⟨rfl, rfl⟩ := he'
              have e1 := D1.1
              have e2 := D2.1
              rw [← HXX.out] at e2
              obtain ⟨y, hy⟩ : ∃ y, y = obj[i] := ⟨_, rfl⟩
              rw [← hy] at e1
              have HYY := hid hy
              clear hy P2 P3 D1 D2 hkl2 hkl3
              obtain ⟨ky, y⟩ := y
              simp only at e1 e2
              unfold strV at e1 e2
              have HE1 := hid e1
              have HE2 := hid e2
              by_cases hkk : ky = key
              · obtain rfl : R = false := by
                  rw [hRR.out, Bool.eq_false_iff]
                  intro h
                  have d3 := (hD4.out.1 h).2.2
                  have d5 := d3.sublist ((List.take_sublist (j + 1) obj).map (·.1))
                  rw [htk.out, List.map_append, List.nodup_append] at d5
                  refine d5.2.2 key ?_ key (by simp) rfl
                  rw [← hkk]
                  refine List.mem_map.2 ⟨(ky, y), ?_, rfl⟩
                  rw [HYY.out]
                  exact List.mem_take_iff_getElem.2 ⟨i, by omega, rfl⟩
                subst hkk
                generalize (⟨ky.toArray⟩ : ByteArray) = kc at *
                have qk : (kc.toList == kc.toList) = true := by simp
                clear HE1 HE2
                go_upto_region 25 with fail
                first | go_quiet (fail) | fail
                all_goals
                  go_wp2_with fail
                  go_ret
                  exact ⟨rfl, by first | exact below_drewN hb _ | exact hb⟩
              · have qk := str_ne hkk
                have HKK := hid hkk
                generalize (⟨ky.toArray⟩ : ByteArray) = kc at *
                generalize (⟨key.toArray⟩ : ByteArray) = kd at *
                clear hkk HE1 HE2
                go_upto_region 25 with fail
                first | go_quiet (fail) | fail
                all_goals
                  go_wp2_with fail
                  go_roundw
                  case rel => exact ⟨i + 1, by omega, hid (fun p hp => by
                    rw [List.take_succ_eq_append_getElem hi1] at hp
                    rcases List.mem_append.1 hp with h | h
                    · exact hM3.out p h
                    · simp only [List.mem_singleton] at h
                      rw [h, ← HYY.out]
                      exact HKK.out), by first | rfl | go_num, by first | exact below_drewN hb _ | exact hb, by first | exact HX.out.stay (below_drewN (Below.refl _ _) _) | exact HX.out⟩
                  case measure => simp [intOf]; omega
            · obtain rfl : i = j := by omega
              have hlt6 : ¬ ((i : Nat) : Int) < (i : Int) := by omega
              go_wp2_with fail
              go_roundw
              case rel => exact ⟨i + 1, by omega, hid (fun p hp => by
                rw [htk.out] at hp
                rcases List.mem_append.1 hp with h | h
                · exact hM2.out p h
                · simp only [List.mem_singleton] at h
                  rw [h]
                  exact ⟨HSO.out.symm, hmy.out.symm⟩), hid (by
                rw [htk.out, List.map_append, List.nodup_append]
                refine ⟨hND.out, by simp, fun q hq r hr => ?_⟩
                simp at hr
                rw [hr]
                obtain ⟨p, hp, rfl⟩ := List.mem_map.1 hq
                exact hM3.out p hp), by first | rfl | go_num, hb, HX.out⟩
              case measure => simp [intOf]; omega
        · obtain rfl : j = on := by omega
          have hlt4 : ¬ ((j : Nat) : Int) < (j : Int) := by omega
          obtain rfl : R = true := by
            have h1 := hM2.out
            have h2 := hND.out
            rw [List.take_of_length_le (by rw [HOL.out]; exact Nat.le_refl _)] at h1 h2
            rw [hRR.out]
            exact hD4.out.2 ⟨hArr.out, h1, h2⟩
          go_wp2_with fail
          go_ret
          exact ⟨rfl, hb⟩

end Go.Proofs.YtldhebpkplglcaaGreatDoor
