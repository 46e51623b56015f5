/- (*strings.Builder).WriteString over a builder whose row lies behind a later block. quote.short, quote.unit: the signs of a text in quotes. (*strings.Builder).WriteRune over a builder whose row lies behind a later block. -/
import Derived.Test.YtldhebpkplglcaaGreatDoorFb
import Derived.Test.YtldhebpkplglcaaGreatDoorEscP
namespace Go.Proofs.YtldhebpkplglcaaGreatDoor
open Go.RowKit

set_option maxRecDepth 100000 in
set_option maxHeartbeats 1600000 in
theorem WriteStringB (C b : Nat) (l t : List UInt8) (w : World) (h : Bld C b l w) (hlen : l.length + t.length ≤ 140737488355328) (hC : C ≤ w.heap.size) :
    Calls Tryz.prog 74 #[.pointer (some ⟨b, 0, none⟩), .string ⟨t.toArray⟩] w fun e w' => e = .returned (.tuple #[.int .i64 t.length, .nilIface]) ∧ (Bld C b (l ++ t) w' ∧ BelowX C b w w') := by
  obtain ⟨s, hs⟩ : ∃ s : ByteArray, s = ⟨t.toArray⟩ := ⟨_, rfl⟩
  have hsz : s.size = t.length := by rw [hs]; rfl
  have hsc : Lib.strCells s = Lib.byteCells t := by rw [hs]; rfl
  rw [← hs, ← hsz]
  rw [← hsz] at hlen
  replace hsz := hid hsz
  replace hsc := hid hsc
  clear hs
  obtain ⟨i0, hi, hz0, hz1, hz2⟩ := info_parts u8Slice.info
  have hcc := hid (copyCheckB C b l w h)
  go_enter Tryz.func74, Tryz.ntmps74
  go_wp2_with fail
  refine (hcc.out).mono ?_
  rintro e w1 ⟨rfl, h1, hb1, hz⟩
  have hz1' : C ≤ w1.heap.size := by omega
  clear hz
  obtain ⟨hbC, v, hbk, hown⟩ := h1
  have hne : v.ownBlock ≠ some b := (ownsRowF_from hown hbC).2
  have c0 : w1.cell? ⟨b, 0, none⟩ = some (.pointer (some ⟨b, 0, none⟩)) := by rw [Lib.cell_of_heap hbk]; rfl
  have c1 : w1.cell? ⟨b, 1, none⟩ = some v := by rw [Lib.cell_of_heap hbk]; rfl
  go_wp2_with (at_builtin; refine Lib.wpList_append_own_stringF _ rfl _ _ 77 9 rfl C 5 i0 Tryz.underlying77 Tryz.underlying9 hi hz0 hz1 hz2 _ _ _ rfl hown s rfl ?c3 ?c4 ?c5 ?_)
  case c3 => unfold maxLen; omega
  case c4 => omega
  case c5 => exact hz1'
  intro v' w2 hown' hgrow _
  have hlt : b < w1.heap.size := (Array.getElem?_eq_some_iff.1 hbk).1
  have hb2 : w2.heap[b]? = some (.cells #[.pointer (some ⟨b, 0, none⟩), v] 79 (0, 0)) := by
    rw [hgrow.block b hlt (fun e => hne e.symm)]
    exact hbk
  have d0 : w2.cell? ⟨b, 0, none⟩ = some (.pointer (some ⟨b, 0, none⟩)) := by rw [Lib.cell_of_heap hb2]; rfl
  have d1 : w2.cell? ⟨b, 1, none⟩ = some v := by rw [Lib.cell_of_heap hb2]; rfl
  have f1 : w2.frozen? ⟨b, 1, none⟩ = false := Lib.frozen_of_heap hb2 1
  obtain ⟨ao, n', cap, rfl⟩ : ∃ ao n' cap, v' = .slice ao n' cap := by
    rcases hown'.2 with ⟨hv, _⟩ | ⟨g, cap, cur, fz, hv, _⟩
    · exact ⟨_, _, _, hv⟩
    · exact ⟨_, _, _, hv⟩
  go_wp2
  go_ret2
  have hcells : Lib.byteCells (l ++ t) = Lib.byteCells l ++ Lib.strCells s := by rw [hsc.out]; exact Lib.byteCells_append l t
  have hown2 : w2.ownsRowF C 5 1 (.slice ao n' cap) (l ++ t).length (Lib.byteCells (l ++ t)) := by
    rw [hcells, List.length_append, ← hsz.out]; exact hown'
  refine ⟨rfl, ?_, ?_⟩
  · refine Or.inr ⟨hbC, _, ?_, hown2.kept (row := some b) ⟨rfl, rfl, rfl, by simp [World.setCell], fun k _ hk => Below.heap_setCell _ _ _ _ (fun e => hk (by simp [e]))⟩ (Or.inr (ownsRowF_from hown2 hbC).2)⟩
    simp [World.setCell, Array.getElem?_modify, hb2]
  · have hB : Below C w1 w2 := (Below.refl C w1).grown hgrow hz1' (fun k hk => (hown.lt k hk).1)
    exact (hb1.trans (BelowX.of hB fun k sb j _ hk => its_grown hown (Below.refl _ w1) hgrow k sb j hk)).setCell rfl _

end Go.Proofs.YtldhebpkplglcaaGreatDoor

namespace Go.Proofs.YtldhebpkplglcaaGreatDoor
open Go.RowKit

set_option maxRecDepth 100000 in
set_option maxHeartbeats 1600000 in
theorem quote_short (p : Nat) (w : World) : Calls Tryz.prog 216 #[.int .i64 p] w fun e w' => e = .returned (.int .u8 (UInt8.ofNat (shortN p)).toNat) ∧ w' = w := by
  by_cases h1 : p = 34
  · subst h1
    go_enter Tryz.func216, Tryz.ntmps216
    go_wp2
    go_ret
    exact ⟨rfl, rfl⟩
  by_cases h2 : p = 92
  · subst h2
    go_enter Tryz.func216, Tryz.ntmps216
    go_wp2
    go_ret
    exact ⟨rfl, rfl⟩
  by_cases h3 : p = 8
  · subst h3
    go_enter Tryz.func216, Tryz.ntmps216
    go_wp2
    go_ret
    exact ⟨rfl, rfl⟩
  by_cases h4 : p = 9
  · subst h4
    go_enter Tryz.func216, Tryz.ntmps216
    go_wp2
    go_ret
    exact ⟨rfl, rfl⟩
  by_cases h5 : p = 10
  · subst h5
    go_enter Tryz.func216, Tryz.ntmps216
    go_wp2
    go_ret
    exact ⟨rfl, rfl⟩
  by_cases h6 : p = 12
  · subst h6
    go_enter Tryz.func216, Tryz.ntmps216
    go_wp2
    go_ret
    exact ⟨rfl, rfl⟩
  by_cases h7 : p = 13
  · subst h7
    go_enter Tryz.func216, Tryz.ntmps216
    go_wp2
    go_ret
    exact ⟨rfl, rfl⟩
  have e1 : ((p : Int) == 34) = false := by rw [beq_eq_false_iff_ne]; omega
  have e2 : ((p : Int) == 92) = false := by rw [beq_eq_false_iff_ne]; omega
  have e3 : ((p : Int) == 8) = false := by rw [beq_eq_false_iff_ne]; omega
  have e4 : ((p : Int) == 9) = false := by rw [beq_eq_false_iff_ne]; omega
  have e5 : ((p : Int) == 10) = false := by rw [beq_eq_false_iff_ne]; omega
  have e6 : ((p : Int) == 12) = false := by rw [beq_eq_false_iff_ne]; omega
  have e7 : ((p : Int) == 13) = false := by rw [beq_eq_false_iff_ne]; omega
  have hs : shortN p = 0 := by unfold shortN; rw [if_neg (by omega), if_neg h3, if_neg h4, if_neg h5, if_neg h6, if_neg h7]
  replace hs := hid hs
  clear h1 h2 h3 h4 h5 h6 h7
  go_enter Tryz.func216, Tryz.ntmps216
  go_wp2
  go_ret
  exact ⟨by rw [hs.out]; rfl, rfl⟩

theorem hexs_at (i : Nat) (h : i < (⟨#[48, 49, 50, 51, 52, 53, 54, 55, 56, 57, 97, 98, 99, 100, 101, 102]⟩ : ByteArray).size) : (⟨#[48, 49, 50, 51, 52, 53, 54, 55, 56, 57, 97, 98, 99, 100, 101, 102]⟩ : ByteArray)[i]'h = hexL i := by
  have hz : (⟨#[48, 49, 50, 51, 52, 53, 54, 55, 56, 57, 97, 98, 99, 100, 101, 102]⟩ : ByteArray).size = 16 := rfl
  have key : ∀ j : Fin 16, (⟨#[48, 49, 50, 51, 52, 53, 54, 55, 56, 57, 97, 98, 99, 100, 101, 102]⟩ : ByteArray)[j.val]'(by rw [show (⟨#[48, 49, 50, 51, 52, 53, 54, 55, 56, 57, 97, 98, 99, 100, 101, 102]⟩ : ByteArray).size = 16 from rfl]; exact j.isLt) = hexL j.val := by decide +kernel
  exact key ⟨i, by rw [hz] at h; exact h⟩

theorem wraps_i64 (n : Int) (h₀ : 0 ≤ n) (h₁ : n < 2 ^ 62) : IntKind.i64.wrap n = n := by rw [IntKind.wrap_i64]; omega

set_option maxRecDepth 100000 in
set_option maxHeartbeats 1600000 in
theorem quote_unit (C b : Nat) (l : List UInt8) (h : Nat) (w : World) (hh : h < 65536) (hb : Bld C b l w) (hlen : l.length + 6 ≤ 140737488355328) (hC : C ≤ w.heap.size) :
    Calls Tryz.prog 217 #[.pointer (some ⟨b, 0, none⟩), .int .i64 h] w fun e w' => e = .returned (.tuple #[]) ∧ (Bld C b (l ++ 92 :: 117 :: hex4 h) w' ∧ BelowX C b w w') := by
  have CS := hid (WriteStringB C b l [92, 117] w hb (by simp; omega) hC)
  go_enter Tryz.func217, Tryz.ntmps217
  go_wp2_with fail
  refine CS.out.mono ?_
  rintro e w1 ⟨rfl, hb1, hx1⟩
  have HB1 := hid hb1
  have HX1 := hid hx1
  have hC1 := hid (Nat.le_trans hC hx1.size)
  clear hb1 hx1 CS
  go_upto_region 2 with fail
  go_loopw [4] (fun v4 wr => ∃ k : Nat, k ≤ 4 ∧ v4 = .int .i64 (12 - 4 * (k : Int)) ∧ Hid (Bld C b ((l ++ [92, 117]) ++ (hex4 h).take k) wr) ∧ Hid (BelowX C b w wr)) (fun v4 _ => (intOf v4 + 4).toNat)
  case atStart => exact ⟨0, by omega, rfl, hid (by simpa using HB1.out), HX1⟩
  case round =>
    obtain ⟨k, hk, rfl, hbk, hxk⟩ := hrel
    have h0 : (0 : Int) ≤ h := by omega
    obtain rfl | rfl | rfl | rfl | rfl : k = 0 ∨ k = 1 ∨ k = 2 ∨ k = 3 ∨ k = 4 := by omega
    · have hB : bits BinOp.and .i64 ((h : Int) / 4096) 15 = ((h / 4096 % 16 : Nat) : Int) := by
        have := bits_mask .i64 62 (by decide) wraps_i64 4 (by decide) ((h : Int) / 4096) (by omega) (by omega)
        rw [show ((2 : Int) ^ 4 - 1) = 15 from rfl] at this
        rw [this]; omega
      have hB1 : (0 : Int) ≤ ((h / 4096 % 16 : Nat) : Int) := by omega
      have hB2 : ((h / 4096 % 16 : Nat) : Int) < 16 := by omega
      have CW := hid (WriteByte C b ((l ++ [92, 117]) ++ (hex4 h).take 0) (hexL (h / 4096 % 16)) wr hbk.out (by simp [hex4]; omega) (Nat.le_trans hC hxk.out.size))
      clear hbk
      go_wp2_with fail
      · rw [hexs_at]
        refine CW.out.mono ?_
        rintro e w2 ⟨rfl, hb2, hx2⟩
        have HB2 := hid hb2
        have HX2 := hid (hxk.out.trans hx2)
        clear hb2 hx2 CW
        go_wp2_with fail
        go_roundw
        case rel => exact ⟨1, by omega, by first | rfl | go_num, hid (by simpa [hex4] using HB2.out), HX2⟩
        case measure => simp [intOf]
    · have hB : bits BinOp.and .i64 ((h : Int) / 256) 15 = ((h / 256 % 16 : Nat) : Int) := by
        have := bits_mask .i64 62 (by decide) wraps_i64 4 (by decide) ((h : Int) / 256) (by omega) (by omega)
        rw [show ((2 : Int) ^ 4 - 1) = 15 from rfl] at this
        rw [this]; omega
      have hB1 : (0 : Int) ≤ ((h / 256 % 16 : Nat) : Int) := by omega
      have hB2 : ((h / 256 % 16 : Nat) : Int) < 16 := by omega
      have CW := hid (WriteByte C b ((l ++ [92, 117]) ++ (hex4 h).take 1) (hexL (h / 256 % 16)) wr hbk.out (by simp [hex4]; omega) (Nat.le_trans hC hxk.out.size))
      clear hbk
      go_wp2_with fail
      · rw [hexs_at]
        refine CW.out.mono ?_
        rintro e w2 ⟨rfl, hb2, hx2⟩
        have HB2 := hid hb2
        have HX2 := hid (hxk.out.trans hx2)
        clear hb2 hx2 CW
        go_wp2_with fail
        go_roundw
        case rel => exact ⟨2, by omega, by first | rfl | go_num, hid (by simpa [hex4] using HB2.out), HX2⟩
        case measure => simp [intOf]
    · have hB : bits BinOp.and .i64 ((h : Int) / 16) 15 = ((h / 16 % 16 : Nat) : Int) := by
        have := bits_mask .i64 62 (by decide) wraps_i64 4 (by decide) ((h : Int) / 16) (by omega) (by omega)
        rw [show ((2 : Int) ^ 4 - 1) = 15 from rfl] at this
        rw [this]; omega
      have hB1 : (0 : Int) ≤ ((h / 16 % 16 : Nat) : Int) := by omega
      have hB2 : ((h / 16 % 16 : Nat) : Int) < 16 := by omega
      have CW := hid (WriteByte C b ((l ++ [92, 117]) ++ (hex4 h).take 2) (hexL (h / 16 % 16)) wr hbk.out (by simp [hex4]; omega) (Nat.le_trans hC hxk.out.size))
      clear hbk
      go_wp2_with fail
      · rw [hexs_at]
        refine CW.out.mono ?_
        rintro e w2 ⟨rfl, hb2, hx2⟩
        have HB2 := hid hb2
        have HX2 := hid (hxk.out.trans hx2)
        clear hb2 hx2 CW
        go_wp2_with fail
        go_roundw
        case rel => exact ⟨3, by omega, by first | rfl | go_num, hid (by simpa [hex4] using HB2.out), HX2⟩
        case measure => simp [intOf]
    · have hB : bits BinOp.and .i64 ((h : Int)) 15 = ((h % 16 : Nat) : Int) := by
        have := bits_mask .i64 62 (by decide) wraps_i64 4 (by decide) ((h : Int)) (by omega) (by omega)
        rw [show ((2 : Int) ^ 4 - 1) = 15 from rfl] at this
        rw [this]; omega
      have hB1 : (0 : Int) ≤ ((h % 16 : Nat) : Int) := by omega
      have hB2 : ((h % 16 : Nat) : Int) < 16 := by omega
      have CW := hid (WriteByte C b ((l ++ [92, 117]) ++ (hex4 h).take 3) (hexL (h % 16)) wr hbk.out (by simp [hex4]; omega) (Nat.le_trans hC hxk.out.size))
      clear hbk
      go_wp2_with fail
      · rw [hexs_at]
        refine CW.out.mono ?_
        rintro e w2 ⟨rfl, hb2, hx2⟩
        have HB2 := hid hb2
        have HX2 := hid (hxk.out.trans hx2)
        clear hb2 hx2 CW
        go_wp2_with fail
        go_roundw
        case rel => exact ⟨4, by omega, by first | rfl | go_num, hid (by simpa [hex4] using HB2.out), HX2⟩
        case measure => simp [intOf]
    · have hF := hid hbk.out
      clear hbk
      go_wp2_with fail
      refine bodyPost_end (v := .tuple #[]) (by simp [results, Tryz.results217]) rfl ?_
      exact ⟨rfl, by simpa [hex4] using hF.out, hxk.out⟩

end Go.Proofs.YtldhebpkplglcaaGreatDoor

namespace Go.Proofs.YtldhebpkplglcaaGreatDoor
open Go.RowKit

set_option maxRecDepth 100000 in
set_option maxHeartbeats 4000000 in
theorem WriteRune (C b : Nat) (l : List UInt8) (r : Int) (hr0 : -2147483648 ≤ r) (hr1 : r ≤ 2147483647) (w : World) (h : Bld C b l w) (hlen : l.length + 4 ≤ 140737488355328) (hC : C ≤ w.heap.size) :
    Calls Tryz.prog 44 #[.pointer (some ⟨b, 0, none⟩), .int .i32 r] w fun e w' => ∃ n : Int, e = .returned (.tuple #[.int .i64 n, .nilIface]) ∧ (Bld C b (l ++ Lib.encodeRune r) w' ∧ BelowX C b w w') := by
  have hcc := hid (copyCheckB C b l w h)
  have hk4 := Lib.runeCells_le r
  go_enter Tryz.func44, Tryz.ntmps44
  go_wp2_with fail
  refine (hcc.out).mono ?_
  rintro e w1 ⟨rfl, h1, hb1, hz⟩
  have hz1' : C ≤ w1.heap.size := by omega
  clear hz
  obtain ⟨hbC, v, hbk, hown⟩ := h1
  obtain ⟨ao, cap, rfl⟩ : ∃ ao cap, v = .slice ao l.length cap := by
    rcases hown.2 with ⟨hv, h0⟩ | ⟨g, cap, cur, fz, hv, _⟩
    · exact ⟨none, 0, by rw [hv, h0]⟩
    · exact ⟨_, _, hv⟩
  have hne : (Value.slice ao l.length cap).ownBlock ≠ some b := (ownsRowF_from hown hbC).2
  have c0 : w1.cell? ⟨b, 0, none⟩ = some (.pointer (some ⟨b, 0, none⟩)) := by rw [Lib.cell_of_heap hbk]; rfl
  have c1 : w1.cell? ⟨b, 1, none⟩ = some (.slice ao l.length cap) := by rw [Lib.cell_of_heap hbk]; rfl
  have CA := hid (Tryz.utf8_AppendRune_row C _ l.length (Lib.byteCells l) r hr0 hr1 w1 hown hlen hz1')
  go_wp2_with fail
  refine CA.out.mono ?_
  rintro e w2 ⟨v', rfl, hown', o, hgrow⟩
  have hlt : b < w1.heap.size := (Array.getElem?_eq_some_iff.1 hbk).1
  have hb2 : w2.heap[b]? = some (.cells #[.pointer (some ⟨b, 0, none⟩), .slice ao l.length cap] 79 (0, 0)) := by
    rw [hgrow.block b (by simp; omega) (fun e => hne e.symm), Lib.alloc_old w1 _ b hlt]
    exact hbk
  have d0 : w2.cell? ⟨b, 0, none⟩ = some (.pointer (some ⟨b, 0, none⟩)) := by rw [Lib.cell_of_heap hb2]; rfl
  have d1 : w2.cell? ⟨b, 1, none⟩ = some (.slice ao l.length cap) := by rw [Lib.cell_of_heap hb2]; rfl
  have f1 : w2.frozen? ⟨b, 1, none⟩ = false := Lib.frozen_of_heap hb2 1
  obtain ⟨ao', cap', rfl⟩ : ∃ ao' cap', v' = .slice ao' (l.length + (Lib.runeCells r).length) cap' := by
    rcases hown'.2 with ⟨hv, h0⟩ | ⟨g, cap, cur, fz, hv, _⟩
    · exact ⟨none, 0, by rw [hv, h0]⟩
    · exact ⟨_, _, hv⟩
  have hcells : Lib.byteCells (l ++ Lib.encodeRune r) = Lib.byteCells l ++ Lib.runeCells r := by rw [Lib.byteCells_append, Lib.byteCells_encodeRune]
  have hlen2 : (l ++ Lib.encodeRune r).length = l.length + (Lib.runeCells r).length := by rw [List.length_append, Lib.runeCells_length]
  have hown2 : Hid (w2.ownsRowF C 5 1 (.slice ao' (l.length + (Lib.runeCells r).length) cap') (l ++ Lib.encodeRune r).length (Lib.byteCells (l ++ Lib.encodeRune r))) := by
    show w2.ownsRowF _ _ _ _ _ _
    rw [hcells, hlen2]; exact hown'
  have hB : Hid (Below C w1 w2) := ((Below.refl C w1).alloc hz1' _).grown hgrow (by simp; omega) (fun k hk => (hown.lt k hk).1)
  have HI : Hid (∀ k sb j, k ≠ b → w1.heap[k]? = some (.stringIter sb j) → w2.heap[k]? = some (.stringIter sb j)) := fun k sb j _ hk => its_grown hown ((Below.refl _ w1).alloc (Nat.le_refl _) _) hgrow k sb j hk
  have HX1 := hid hb1
  have hnw : IntKind.i64.wrap (((l.length + (Lib.runeCells r).length : Nat) : Int) - (l.length : Nat)) = ((Lib.runeCells r).length : Nat) := by rw [IntWalk.i64_in _ (by omega)]; omega
  clear hcells hown hown' hgrow hb1 hne hcc
  generalize (Lib.runeCells r).length = nr at *
  generalize l.length = nl at *
  go_wp2_with fail
  go_ret2
  refine ⟨_, rfl, Or.inr ⟨hbC, _, ?_, hown2.out.kept (row := some b) ⟨rfl, rfl, rfl, by simp [World.setCell], fun k _ hk => Below.heap_setCell _ _ _ _ (fun e => hk (by simp [e]))⟩ (Or.inr (ownsRowF_from hown2.out hbC).2)⟩, (HX1.out.trans (BelowX.of hB.out HI.out)).setCell rfl _⟩
  simp [World.setCell, Array.getElem?_modify, hb2]

end Go.Proofs.YtldhebpkplglcaaGreatDoor
