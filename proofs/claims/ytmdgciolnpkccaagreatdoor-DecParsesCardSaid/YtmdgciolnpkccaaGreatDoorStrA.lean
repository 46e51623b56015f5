/- strconv.FormatUint in decimal, out of the shelf's contracts of what it calls. -/
import Derived.Test.YtmdgciolnpkccaaGreatDoorShelf
import Derived.Test.YtmdgciolnpkccaaGreatDoorChecked
import Derived.Test.YtmdgciolnpkccaaGreatDoorBase
import Derived.Lib.AppendIntMem
import Derived.Deep.QuietTactic
import Derived.BigQuiet
namespace Go.Proofs.YtmdgciolnpkccaaGreatDoor
open Go.RowKit Go.Sort Go.Lib

/-- The library's table of powers of ten holds what its text lays. -/
def Pow (w : World) : Prop := Lib.TabIs Tryz.prog w "internal/strconv.uint64pow10" .u64 Lib.pow10Tab
theorem gPow : Tryz.prog.globalNamed "internal/strconv.uint64pow10" = some 2 := by kernel_rfl
theorem Pow.below {B : Nat} {w w' : World} (h : Pow w) (hb : Below B w w') (hB : 2 < B) : Pow w' := var?_below hb gPow hB h
theorem Pow.lt {w : World} (h : Pow w) : 2 < w.heap.size := by
  have := (show Lib.TabIs Tryz.prog w _ _ _ from h).cell gPow 0 (by decide)
  exact cell_lt this
theorem Pow.next {w w' : World} (h : Pow w) (hb : Below w.heap.size w w') : Pow w' := h.below hb h.lt
theorem Pow.alloc {w : World} (h : Pow w) (o : Obj) : Pow (w.alloc o) := h.next ((Below.refl _ _).alloc (Nat.le_refl _) o)

theorem below_grow (w : World) (k : Nat) (os : Array Obj) : Below w.heap.size w (grow (w.drewN k) os) := by
  refine ⟨rfl, rfl, rfl, ?_, fun j hj => ?_⟩
  · show w.heap.size ≤ (w.heap ++ os).size; simp
  · show (w.heap ++ os)[j]? = _
    rw [Array.getElem?_append_left hj]

set_option maxRecDepth 100000 in
set_option maxHeartbeats 1000000 in
theorem inner_FormatUint (u : Nat) (hu : u ≤ 18446744073709551615) (w : World) (htab : Pow w) :
    Calls Tryz.prog 195 #[.int .u64 u, .int .i64 10] w fun e w' => e = .returned (.string ⟨(Lib.decDigits u).toArray⟩) ∧ Below w.heap.size w w' := by
  by_cases hs : u < 100
  · have C := fun W => Tryz.internal_strconv_small u hs W
    have C := hid C
    go_enter Tryz.func195, Tryz.ntmps195
    go_wp2_with (go_at_call 230; refine (C.out _).mono ?_; rintro e w' ⟨rfl, rfl⟩)
    go_ret
    exact ⟨rfl, Below.refl _ _⟩
  · have hu1 : 1 ≤ u := by omega
    have hu64 : u < 18446744073709551616 := by omega
    have hnd20 : Lib.nDigits u ≤ 20 := by have := Lib.numDigits_eq u hu1 hu64; split at this <;> omega
    have hal : Tryz.prog.arrayLen 221 = 24 := by simp [Program.arrayLen, Tryz.underlying221]
    have hsl1 : ∀ W, (Instr.sliceAt 221 (.pointer (some ⟨w.heap.size, 0, none⟩)) none (some (.int .i64 ((Lib.nDigits u : Int)))) none).run Tryz.prog W = .ok (.slice (some ⟨w.heap.size, 0, none⟩) (Lib.nDigits u) 24) W := fun W => by
      rw [run_sliceAt_array_h W 221 ⟨w.heap.size, 0, none⟩ (by simp [Program.arrayLen, Program.elem, Tryz.underlying221]) .i64 ((Lib.nDigits u : Int)) (by omega) (by rw [hal]; omega)]
      go_simp
    have hH0 := Lib.holds_zero0 w 221 (Lib.nDigits u) (by omega)
    have hfmt := Tryz.internal_strconv_formatBase10 w.heap.size 0 24 u (Array.replicate (Lib.nDigits u) 0) (w.alloc (.cells Lib.zeros24 221)) hH0 (by rw [Array.size_replicate]; exact Lib.lt_pow_nDigits u) hu64 (by rw [Array.size_replicate]; omega)
    rw [Array.size_replicate] at hfmt
    have HH0 := hid hH0
    have HF := hid hfmt
    have C := hid (Tryz.internal_strconv_numDigits u hu1 hu64 _ (htab.alloc (.cells Lib.zeros24 221)))
    have HT := hid htab
    clear hH0 hal hfmt htab
    clear hu64
    go_enter Tryz.func195, Tryz.ntmps195
    go_wp2_with fail
    refine C.out.mono ?_
    rintro e w' ⟨rfl, rfl⟩
    go_wp2_with fail
    refine HF.out.mono ?_
    rintro e w' ⟨rfl, k, v', dk, rfl, hF⟩
    obtain ⟨Wf, hWf⟩ : ∃ Wf, Wf = (putRow (fun (b : UInt8) => Value.int .u8 (b.toNat : Int)) (w.alloc (.cells Lib.zeros24 221)) w.heap.size 0 dk).drewN k := ⟨_, rfl⟩
    have hcv : (convert 82 9 (.slice (some ⟨w.heap.size, 0, none⟩) (Lib.nDigits u) 24)).run Tryz.prog Wf = .ok (.string ⟨(Lib.decDigits u).toArray⟩) Wf := by
      rw [hWf]
      have h := run_convert_bytes_back (P := Tryz.prog) ((putRow (fun (b : UInt8) => Value.int .u8 (b.toNat : Int)) (w.alloc (.cells Lib.zeros24 221)) w.heap.size 0 dk).drewN k) 82 9 5 ⟨w.heap.size, 0, none⟩ 24 (Lib.decDigits u) Tryz.underlying82 Tryz.underlying5 Tryz.underlying9 (fun j hj => by
        rw [Lib.row_is_numeral hF j hj, Lib.add_plain, World.cell?_drewN]
        exact cell?_putRow (fun (b : UInt8) => Value.int .u8 (b.toNat : Int)) _ w.heap.size 0 _ dk HH0.out (by rw [hF.size, Array.size_replicate]) j (by rw [hF.size]; rw [Lib.decDigits_length] at hj; exact hj))
      rw [Lib.decDigits_length] at h
      exact h
    rw [← hWf]
    have hbe : Below w.heap.size w Wf := by
      obtain ⟨os, eo⟩ := Lib.fin_at w (.cells Lib.zeros24 221) dk k 0
      rw [hWf, eo]; exact below_grow w k os
    have HBE := hid hbe
    clear hWf hbe hF
    go_wp2
    go_ret
    exact ⟨rfl, HBE.out⟩

theorem strconv_FormatUint (u : Nat) (hu : u ≤ 18446744073709551615) (w : World) (htab : Pow w) :
    Calls Tryz.prog 149 #[.int .u64 u, .int .i64 10] w fun e w' => e = .returned (.string ⟨(Lib.decDigits u).toArray⟩) ∧ Below w.heap.size w w' := by
  have C := hid (inner_FormatUint u hu w htab)
  clear hu htab
  go_enter Tryz.func149, Tryz.ntmps149
  go_wp2_with fail
  refine C.out.mono ?_
  rintro e w' ⟨rfl, hb⟩
  go_wp2
  go_ret
  exact ⟨rfl, hb⟩

end Go.Proofs.YtmdgciolnpkccaaGreatDoor
