/- strconv.FormatUint in decimal, out of the shelf's contracts of what it calls. (*strings.Builder).WriteString, after the shelf's text for dumps of another lay. Decimal digits as text: plain laws. Nothing of the program. Layer 1, ninth part: Digits, Text. Layer 1, tenth part: Parse. -/
import Derived.Test.YtldhebpkplglcaaGreatDoorShelf
import Derived.Test.YtldhebpkplglcaaGreatDoorChecked
import Derived.Test.YtldhebpkplglcaaGreatDoorNB
import Derived.Test.YtldhebpkplglcaaGreatDoorMa
import Derived.Lib.AppendIntMem
import Derived.Deep.QuietTactic
import Derived.BigQuiet
import Derived.Lib.Builder
import Derived.Lib.AppendStr
import Derived.Lib.UnsafeStr
import Derived.Lib.MakeNoZero
import Derived.Laws.Externs
import Derived.Lib.ItoaNum
import Derived.Lib.Repeat
namespace Go.Proofs.YtldhebpkplglcaaGreatDoor
open Go.RowKit Go.Sort Go.Lib

/-- The library's table of powers of ten holds what its text lays. -/
def Pow (w : World) : Prop := Lib.TabIs Tryz.prog w "internal/strconv.uint64pow10" .u64 Lib.pow10Tab
theorem gPow : Tryz.prog.globalNamed "internal/strconv.uint64pow10" = some 4 := by kernel_rfl
theorem Pow.below {B : Nat} {w w' : World} (h : Pow w) (hb : Below B w w') (hB : 4 < B) : Pow w' := var?_below hb gPow hB h
theorem Pow.lt {w : World} (h : Pow w) : 4 < w.heap.size := by
  have := (show Lib.TabIs Tryz.prog w _ _ _ from h).cell gPow 0 (by decide)
  exact cell_lt this
theorem Pow.next {w w' : World} (h : Pow w) (hb : Below w.heap.size w w') : Pow w' := h.below hb h.lt
theorem Pow.alloc {w : World} (h : Pow w) (o : Obj) : Pow (w.alloc o) := h.next ((Below.refl _ _).alloc (Nat.le_refl _) o)

theorem below_grow (w : World) (k : Nat) (os : Array Obj) : Below w.heap.size w (grow (w.drewN k) os) := by
  refine ⟨rfl, rfl, rfl, ?_, fun j hj => ?_⟩
  · show w.heap.size ≤ (w.heap ++ os).size; simp
  · show (w.heap ++ os)[j]? = _
    rw [Array.getElem?_append_left hj]

set_option maxRecDepth 100000 in
set_option maxHeartbeats 1000000 in
theorem inner_FormatUint (u : Nat) (hu : u ≤ 18446744073709551615) (w : World) (htab : Pow w) :
    Calls Tryz.prog 215 #[.int .u64 u, .int .i64 10] w fun e w' => e = .returned (.string ⟨(Lib.decDigits u).toArray⟩) ∧ Below w.heap.size w w' := by
  by_cases hs : u < 100
  · have C := fun W => Tryz.internal_strconv_small u hs W
    have C := hid C
    go_enter Tryz.func215, Tryz.ntmps215
    go_wp2_with (go_at_call 234; refine (C.out _).mono ?_; rintro e w' ⟨rfl, rfl⟩)
    go_ret
    exact ⟨rfl, Below.refl _ _⟩
  · have hu1 : 1 ≤ u := by omega
    have hu64 : u < 18446744073709551616 := by omega
    have hnd20 : Lib.nDigits u ≤ 20 := by have := Lib.numDigits_eq u hu1 hu64; split at this <;> omega
    have hal : Tryz.prog.arrayLen 267 = 24 := by simp [Program.arrayLen, Tryz.underlying267]
    have hsl1 : ∀ W, (Instr.sliceAt 267 (.pointer (some ⟨w.heap.size, 0, none⟩)) none (some (.int .i64 ((Lib.nDigits u : Int)))) none).run Tryz.prog W = .ok (.slice (some ⟨w.heap.size, 0, none⟩) (Lib.nDigits u) 24) W := fun W => by
      rw [run_sliceAt_array_h W 267 ⟨w.heap.size, 0, none⟩ (by simp [Program.arrayLen, Program.elem, Tryz.underlying267]) .i64 ((Lib.nDigits u : Int)) (by omega) (by rw [hal]; omega)]
      go_simp
    have hH0 := Lib.holds_zero0 w 267 (Lib.nDigits u) (by omega)
    have hfmt := Tryz.internal_strconv_formatBase10 w.heap.size 0 24 u (Array.replicate (Lib.nDigits u) 0) (w.alloc (.cells Lib.zeros24 267)) hH0 (by rw [Array.size_replicate]; exact Lib.lt_pow_nDigits u) hu64 (by rw [Array.size_replicate]; omega)
    rw [Array.size_replicate] at hfmt
    have HH0 := hid hH0
    have HF := hid hfmt
    have C := hid (Tryz.internal_strconv_numDigits u hu1 hu64 _ (htab.alloc (.cells Lib.zeros24 267)))
    have HT := hid htab
    clear hH0 hal hfmt htab
    clear hu64
    go_enter Tryz.func215, Tryz.ntmps215
    go_wp2_with fail
    refine C.out.mono ?_
    rintro e w' ⟨rfl, rfl⟩
    go_wp2_with fail
    refine HF.out.mono ?_
    rintro e w' ⟨rfl, k, v', dk, rfl, hF⟩
    obtain ⟨Wf, hWf⟩ : ∃ Wf, Wf = (putRow (fun (b : UInt8) => Value.int .u8 (b.toNat : Int)) (w.alloc (.cells Lib.zeros24 267)) w.heap.size 0 dk).drewN k := ⟨_, rfl⟩
    have hcv : (convert 77 9 (.slice (some ⟨w.heap.size, 0, none⟩) (Lib.nDigits u) 24)).run Tryz.prog Wf = .ok (.string ⟨(Lib.decDigits u).toArray⟩) Wf := by
      rw [hWf]
      have h := run_convert_bytes_back (P := Tryz.prog) ((putRow (fun (b : UInt8) => Value.int .u8 (b.toNat : Int)) (w.alloc (.cells Lib.zeros24 267)) w.heap.size 0 dk).drewN k) 77 9 5 ⟨w.heap.size, 0, none⟩ 24 (Lib.decDigits u) Tryz.underlying77 Tryz.underlying5 Tryz.underlying9 (fun j hj => by
        rw [Lib.row_is_numeral hF j hj, Lib.add_plain, World.cell?_drewN]
        exact cell?_putRow (fun (b : UInt8) => Value.int .u8 (b.toNat : Int)) _ w.heap.size 0 _ dk HH0.out (by rw [hF.size, Array.size_replicate]) j (by rw [hF.size]; rw [Lib.decDigits_length] at hj; exact hj))
      rw [Lib.decDigits_length] at h
      exact h
    rw [← hWf]
    have hbe : Below w.heap.size w Wf := by
      obtain ⟨os, eo⟩ := Lib.fin_at w (.cells Lib.zeros24 267) dk k 0
      rw [hWf, eo]; exact below_grow w k os
    have HBE := hid hbe
    clear hWf hbe hF
    go_wp2
    go_ret
    exact ⟨rfl, HBE.out⟩

theorem strconv_FormatUint (u : Nat) (hu : u ≤ 18446744073709551615) (w : World) (htab : Pow w) :
    Calls Tryz.prog 181 #[.int .u64 u, .int .i64 10] w fun e w' => e = .returned (.string ⟨(Lib.decDigits u).toArray⟩) ∧ Below w.heap.size w w' := by
  have C := hid (inner_FormatUint u hu w htab)
  clear hu htab
  go_enter Tryz.func181, Tryz.ntmps181
  go_wp2_with fail
  refine C.out.mono ?_
  rintro e w' ⟨rfl, hb⟩
  go_wp2
  go_ret
  exact ⟨rfl, hb⟩

end Go.Proofs.YtldhebpkplglcaaGreatDoor

namespace Go.Proofs.YtldhebpkplglcaaGreatDoor
open Go.RowKit

theorem sizeBuilder : (Tryz.prog.info? 79).map (·.size) = some 2 := by kernel_rfl
theorem liesBuilder : liesAt Tryz.prog Tryz.prog.depth 79 (2 / Tryz.prog.cellsOf 79) 0 79 1 = true := by kernel_rfl
theorem u8Slice : SliceOf Tryz.prog 77 5 (.int .u8 0) 1 := ⟨Tryz.underlying77, by kernel_rfl, rfl⟩

set_option maxRecDepth 100000 in
theorem copyCheck_used (b : Nat) (w : World) (h0 : w.cell? ⟨b, 0, none⟩ = some (.pointer (some ⟨b, 0, none⟩))) :
    Calls Tryz.prog 66 #[.pointer (some ⟨b, 0, none⟩)] w fun e w' => e = .returned (.tuple #[]) ∧ w' = w := by
  obtain ⟨j, hj, _⟩ := Option.map_eq_some_iff.1 sizeBuilder
  go_enter Tryz.func66, Tryz.ntmps66
  go_wp2
  rw [Lib.run_neq_ptr_same w _ Tryz.underlying76 hj]
  go_wp2
  go_end0
  exact ⟨rfl, rfl⟩

set_option maxRecDepth 100000 in
theorem copyCheck_fresh (b : Nat) (w : World) (h0 : w.cell? ⟨b, 0, none⟩ = some (.pointer none)) (hsh : w.shape? b = some (79, 2)) (hfz : w.frozen? ⟨b, 0, none⟩ = false) :
    Calls Tryz.prog 66 #[.pointer (some ⟨b, 0, none⟩)] w fun e w' => e = .returned (.tuple #[]) ∧ w' = w.setCell ⟨b, 0, none⟩ (.pointer (some ⟨b, 0, none⟩)) := by
  obtain ⟨j, hj, hjs⟩ := Option.map_eq_some_iff.1 sizeBuilder
  go_enter Tryz.func66, Tryz.ntmps66
  go_wp2
  rw [Lib.run_to_unsafe w ⟨b, 0, none⟩ Tryz.underlying76 Tryz.underlying161 hj (by rw [hjs]; decide) hsh (Nat.zero_lt_succ 1)]
  simp only [Result.andThen]
  rw [Oper.upon_value]
  go_wp2
  rw [run_callFunc_extern Tryz.func109 (by kernel_rfl) (by kernel_rfl) (by kernel_rfl) (e := Extern.AbiNoEscape.same) (by kernel_rfl)]
  rw [Lib.run_noEscape]
  simp only [Result.andThen]
  rw [Oper.upon_value]
  go_wp2
  rw [Lib.run_from_unsafe w ⟨b, 0, none⟩ Tryz.underlying161 Tryz.underlying76 hj hsh liesBuilder]
  simp only [Result.andThen]
  rw [Oper.upon_value]
  go_wp2
  go_end0
  exact ⟨rfl, rfl⟩

theorem copyCheck (B b : Nat) (bs : List Value) (w : World) (h : Lib.IsBuilder 79 5 B b bs w) :
    Calls Tryz.prog 66 #[.pointer (some ⟨b, 0, none⟩)] w fun e w' => e = .returned (.tuple #[]) ∧ (Lib.BuilderAt 79 5 B b (.pointer (some ⟨b, 0, none⟩)) bs w' ∧ Below B w w') := by
  rcases h with h | h
  · refine (copyCheck_fresh b w h.cell0 h.shape h.frozen0).mono ?_
    rintro e w' ⟨rfl, rfl⟩
    exact ⟨rfl, h.used _, (Below.refl B w).setCell (p := ⟨b, 0, none⟩) h.1 _⟩
  · refine (copyCheck_used b w h.cell0).mono ?_
    rintro e w' ⟨rfl, rfl⟩
    exact ⟨rfl, h, Below.refl B _⟩

set_option maxRecDepth 100000 in
set_option maxHeartbeats 1000000 in
theorem WriteString (B b : Nat) (bs : List Value) (s : ByteArray) (w : World) (h : Lib.IsBuilder 79 5 B b bs w) (hlen : bs.length + s.size ≤ 140737488355328) (hBw : B ≤ w.heap.size) :
    Calls Tryz.prog 74 #[.pointer (some ⟨b, 0, none⟩), .string s] w fun e w' => e = .returned (.tuple #[.int .i64 s.size, .nilIface]) ∧ (Lib.BuilderAt 79 5 B b (.pointer (some ⟨b, 0, none⟩)) (bs ++ Lib.strCells s) w' ∧ Below B w w') := by
  obtain ⟨i0, hi, hz0, hz1, hz2⟩ := info_parts u8Slice.info
  go_enter Tryz.func74, Tryz.ntmps74
  go_wp2_with fail
  refine (copyCheck B b bs _ h).mono ?_
  rintro e w1 ⟨rfl, h1, hb1⟩
  obtain ⟨hB, v, hbk, hown, hne⟩ := h1
  have c0 : w1.cell? ⟨b, 0, none⟩ = some (.pointer (some ⟨b, 0, none⟩)) := by rw [Lib.cell_of_heap hbk]; rfl
  have c1 : w1.cell? ⟨b, 1, none⟩ = some v := by rw [Lib.cell_of_heap hbk]; rfl
  go_wp2_with (at_builtin; refine Lib.wpList_append_own_string _ rfl _ _ 77 9 rfl B 5 i0 Tryz.underlying77 Tryz.underlying9 hi hz0 hz1 hz2 _ _ _ rfl hown s rfl ?c3 ?c4 ?c5 ?_)
  case c3 => unfold maxLen; omega
  case c4 => omega
  case c5 => have := hb1.size; omega
  intro v' w2 hown' hgrow _
  have hlt : b < w1.heap.size := by
    rcases Nat.lt_or_ge b w1.heap.size with h' | h'
    · exact h'
    · simp [Array.getElem?_eq_none h'] at hbk
  have hb2 : w2.heap[b]? = some (.cells #[.pointer (some ⟨b, 0, none⟩), v] 79 (0, 0)) := by
    rw [hgrow.block b hlt (fun e => hne e.symm)]
    exact hbk
  have d0 : w2.cell? ⟨b, 0, none⟩ = some (.pointer (some ⟨b, 0, none⟩)) := by rw [Lib.cell_of_heap hb2]; rfl
  have d1 : w2.cell? ⟨b, 1, none⟩ = some v := by rw [Lib.cell_of_heap hb2]; rfl
  have f1 : w2.frozen? ⟨b, 1, none⟩ = false := Lib.frozen_of_heap hb2 1
  obtain ⟨ao, n', cap, rfl⟩ : ∃ ao n' cap, v' = .slice ao n' cap := by
    rcases hown'.2 with ⟨hv, _⟩ | ⟨g, cap, cur, hv, _⟩
    · exact ⟨_, _, _, hv⟩
    · exact ⟨_, _, _, hv⟩
  go_wp2
  go_ret2
  refine ⟨rfl, ?_, ?_⟩
  · exact Lib.BuilderAt.put (T := 79) (e := 5) hB hb2 (bs' := bs ++ Lib.strCells s) (by simpa [Lib.strCells_length] using hown') (by decide)
  · exact (hb1.grown hgrow (by have := hb1.size; omega) (fun k hk => (hown.lt k hk).1)).setCell (p := ⟨b, 1, none⟩) hB _

theorem builder_below {T e : TypeId} {B b : Nat} {p : Value} {bs : List Value} {w w' : World} (h : Lib.BuilderAt T e B b p bs w) (hb : Below w.heap.size w w') : Lib.BuilderAt T e B b p bs w' := by
  obtain ⟨hB, v, hbk, hown, hne⟩ := h
  have hlt : b < w.heap.size := by
    rcases Nat.lt_or_ge b w.heap.size with h' | h'
    · exact h'
    · simp [Array.getElem?_eq_none h'] at hbk
  exact ⟨hB, v, by rw [hb.block b hlt]; exact hbk, owns_below hown hb, hne⟩
theorem isBuilder_below {T e : TypeId} {B b : Nat} {bs : List Value} {w w' : World} (h : Lib.IsBuilder T e B b bs w) (hb : Below w.heap.size w w') : Lib.IsBuilder T e B b bs w' :=
  h.imp (fun h => builder_below h hb) (fun h => builder_below h hb)

end Go.Proofs.YtldhebpkplglcaaGreatDoor

namespace Go.Proofs.YtldhebpkplglcaaGreatDoor.Num
open Go Go.Lib

theorem digs_last {b : Nat} (hb : 2 ≤ b) (n : Nat) (hn : n ≠ 0) : ∃ zs y, digs b n = zs ++ [y] ∧ y ≠ 0 := by
  induction n using digs_ind hb with
  | h0 => exact absurd rfl hn
  | h1 n hn ih =>
    rw [digs_pos hb hn]
    by_cases h0 : n / b = 0
    · refine ⟨[], n % b, by rw [h0, digs_zero]; rfl, ?_⟩
      have := Nat.mod_add_div n b
      rw [h0] at this; omega
    · obtain ⟨zs, y, e, hy⟩ := ih h0
      exact ⟨n % b :: zs, y, by rw [e]; rfl, hy⟩
theorem digs_append {b : Nat} (hb : 2 ≤ b) (xs : List Nat) (hx : ∀ x ∈ xs, x < b) {h : Nat} (hh : h ≠ 0) : digs b (val b xs + b ^ xs.length * h) = xs ++ digs b h := by
  obtain ⟨zs, y, e, hy⟩ := digs_last hb h hh
  have hy9 : y < b := digs_lt hb h y (by rw [e]; simp)
  have hz : ∀ x ∈ xs ++ zs, x < b := fun x hx' => by
    rcases List.mem_append.1 hx' with h1 | h1
    · exact hx x h1
    · exact digs_lt hb h x (by rw [e]; simp [h1])
  have k := digs_snoc hb (xs ++ zs) y hz hy9 hy
  rw [List.append_assoc, ← e, val_append, val_digs hb] at k
  exact k

/-- The sign of a digit. -/
def chr (d : Nat) : UInt8 := UInt8.ofNat (48 + d)
theorem decDigits_digs (n : Nat) (hn : n ≠ 0) : decDigits n = ((digs 10 n).map chr).reverse := by
  induction n using digs_ind (b := 10) (by decide) with
  | h0 => exact absurd rfl hn
  | h1 n hn ih =>
    rw [decDigits, digs_pos (by decide) hn]
    by_cases h : n < 10
    · rw [dif_pos h, Nat.div_eq_of_lt h, Nat.mod_eq_of_lt h, digs_zero]; rfl
    · rw [dif_neg h, ih (by omega)]; simp [chr]
theorem decDigits_zero : decDigits 0 = [48] := by rw [decDigits]; rfl
/-- Digits filled up with noughts to k places. -/
def padT (k n : Nat) : List UInt8 := List.replicate (k - (decDigits n).length) 48 ++ decDigits n
def padL (k n : Nat) : List Nat := digs 10 n ++ List.replicate (k - (digs 10 n).length) 0
theorem decDigits_len (n : Nat) (hn : n ≠ 0) : (decDigits n).length = (digs 10 n).length := by rw [decDigits_digs n hn]; simp
theorem padT_eq (k n : Nat) (hk : 1 ≤ k) : padT k n = ((padL k n).map chr).reverse := by
  unfold padT padL
  by_cases hn : n = 0
  · subst hn
    rw [decDigits_zero, digs_zero]
    simp [chr]
    rw [← List.replicate_succ', show k - 1 + 1 = k by omega]
  · rw [decDigits_len n hn, decDigits_digs n hn]
    simp [chr]
theorem padL_length (k n : Nat) (h : n < 10 ^ k) : (padL k n).length = k := by
  have := (digs_length_le (b := 10) (by decide)).2 h
  simp [padL]; omega
theorem val_padL (k n : Nat) : val 10 (padL k n) = n := by
  unfold padL; rw [val_append, val_replicate, val_digs (by decide)]; simp
theorem padL_lt (k n : Nat) : ∀ x ∈ padL k n, x < 10 := fun x hx => by
  rcases List.mem_append.1 hx with h | h
  · exact digs_lt (by decide) n x h
  · have := List.eq_of_mem_replicate h; omega
/-- A number in front of k more digits. -/
theorem digs_join (h l k : Nat) (hh : h ≠ 0) (hl : l < 10 ^ k) : digs 10 (l + 10 ^ k * h) = padL k l ++ digs 10 h := by
  have := digs_append (b := 10) (by decide) (padL k l) (padL_lt k l) hh
  rwa [val_padL, padL_length k l hl] at this
theorem decDigits_join (h l k : Nat) (hh : h ≠ 0) (hl : l < 10 ^ k) (hk : 1 ≤ k) : decDigits (l + 10 ^ k * h) = decDigits h ++ padT k l := by
  have h0 : l + 10 ^ k * h ≠ 0 := by
    have := Nat.mul_pos (Nat.pow_pos (n := k) (show 0 < 10 by decide)) (Nat.pos_of_ne_zero hh); omega
  rw [decDigits_digs _ h0, digs_join h l k hh hl, decDigits_digs h hh, padT_eq k l hk]
  simp
theorem digs_length_join (h l k : Nat) (hh : h ≠ 0) (hl : l < 10 ^ k) : (digs 10 (l + 10 ^ k * h)).length = k + (digs 10 h).length := by
  rw [digs_join h l k hh hl, List.length_append, padL_length k l hl]
theorem decDigits_le (n k : Nat) (hk : 1 ≤ k) (h : n < 10 ^ k) : (decDigits n).length ≤ k := by
  by_cases hn : n = 0
  · subst hn; rw [decDigits_zero]; simpa using hk
  · rw [decDigits_len n hn]; exact (digs_length_le (by decide)).2 h
theorem decDigits_pos (n : Nat) : 1 ≤ (decDigits n).length := by
  by_cases hn : n = 0
  · subst hn; rw [decDigits_zero]; simp
  · rw [decDigits_len n hn]; exact length_pos (by decide) hn
theorem repeatL_one (c : UInt8) (n : Nat) : repeatL [c] n = List.replicate n c := by
  induction n with
  | zero => rfl
  | succ n ih => rw [repeatL, ih, List.replicate_succ]; rfl

end Go.Proofs.YtldhebpkplglcaaGreatDoor.Num

namespace Go.Proofs.YtldhebpkplglcaaGreatDoor
open Go.RowKit

/-- The limbs of a number that isn't 0, the highest apart. -/
theorem limbs_top (n : Nat) (hn : n ≠ 0) : (Num.limbs n).getD ((Num.limbs n).length - 1) 0 ≠ 0 := by
  obtain ⟨zs, y, e, hy⟩ := Num.digs_last Num.two_le_B9 n hn
  unfold Num.limbs
  rw [e]; simpa using hy
theorem worth_drop_last (X : List Nat) (n : Nat) (hl : X.length = n + 1) : Num.worth (X.drop n) = X.getD n 0 := by
  rw [Num.drop_getD (by omega), List.drop_of_length_le (by omega)]; simp [Num.worth, Num.val]
theorem worth_drop (X : List Nat) (m : Nat) (hm : m < X.length) : Num.worth (X.drop m) = X.getD m 0 + 10 ^ 9 * Num.worth (X.drop (m + 1)) := by
  rw [Num.drop_getD hm]; rfl

theorem digits_math (X : List Nat) (h9 : ∀ x ∈ X, x < 1000000000) (n : Nat) (hl : X.length = n + 1) (h0 : X.getD n 0 ≠ 0) :
    ∀ k, k ≤ n → (Num.digs 10 (Num.worth (X.drop (n - k)))).length = 9 * k + (Num.digs 10 (X.getD n 0)).length ∧ Num.worth (X.drop (n - k)) ≠ 0
  | 0, _ => by rw [Nat.sub_zero, worth_drop_last X n hl]; exact ⟨by omega, h0⟩
  | k + 1, hk => by
    obtain ⟨ih, ih0⟩ := digits_math X h9 n hl h0 k (by omega)
    have e := worth_drop X (n - (k + 1)) (by omega)
    rw [show n - (k + 1) + 1 = n - k by omega] at e
    have hx : X.getD (n - (k + 1)) 0 < 10 ^ 9 := h9 _ (by rw [List.getD_eq_getElem?_getD, List.getElem?_eq_getElem (by omega)]; simp)
    rw [e]
    refine ⟨by rw [Num.digs_length_join _ _ 9 ih0 hx, ih]; omega, ?_⟩
    omega

set_option maxRecDepth 100000 in
set_option maxHeartbeats 400000 in
theorem limb_Digits (a : Option Addr) (cap : Nat) (xs : List Nat) (w : World) (h : U32 w a xs) (hl : xs.length ≤ 100000000) (htab : Pow w) :
    Calls Tryz.prog 172 #[.slice a xs.length cap] w fun e w' => e = .returned (.int .i64 ((Num.digs 10 (Num.worth xs)).length : Nat)) ∧ Below w.heap.size w w' := by
  have l1 := worth_lt h.lt (Nat.le_refl _)
  have CN := limb_Norm a cap xs w h (by omega)
  obtain ⟨X, hX⟩ : ∃ X, X = Num.limbs (Num.worth xs) := ⟨_, rfl⟩
  have h9 : ∀ x ∈ X, x < 1000000000 := by rw [hX]; exact Num.limbs_lt _
  have hXX : Num.worth xs = Num.worth X := by rw [hX, Num.worth_limbs]
  have htop : Num.worth xs ≠ 0 → X.getD (X.length - 1) 0 ≠ 0 := fun h0 => by rw [hX]; exact limbs_top _ h0
  have hz : X ≠ [] → Num.worth xs ≠ 0 := fun h1 h2 => h1 (by rw [hX, h2]; rfl)
  rw [← hX] at CN l1
  rw [hXX] at htop hz ⊢
  have CN := hid CN
  have H9 := hid h9
  have HTOP := hid htop
  have HTAB := hid htab
  have HZ := hid hz
  clear h hX h9 hXX htop htab hz
  go_enter Tryz.func172, Tryz.ntmps172
  go_wp2_with fail
  refine CN.out.mono ?_
  rintro e w1 ⟨a1, c1, rfl, hb1, ho1⟩
  have HB1 := hid hb1
  have HO1 := hid ho1
  clear hb1 ho1 CN
  by_cases h0 : X = []
  · subst h0
    go_wp2
    go_ret
    exact ⟨ret_int (by simp [Num.worth, Num.val, Num.digs_zero]), HB1.out⟩
  · obtain ⟨b, off, rfl⟩ := (owned_row HO1.out).isSome (by intro e; exact h0 (by simpa [u32s] using e))
    have hX1 : 1 ≤ X.length := by have : X.length ≠ 0 := fun e => h0 (List.length_eq_zero_iff.1 e); omega
    have hX2 : ((X.length : Int) == 0) = false := by rw [beq_eq_false_iff_ne]; omega
    have hc := (owned_row HO1.out).u32 (j := X.length - 1) (by omega)
    obtain ⟨x, hxe⟩ : ∃ x, x = X.getD (X.length - 1) 0 := ⟨_, rfl⟩
    have hx0 : x ≠ 0 := by rw [hxe]; exact HTOP.out (HZ.out h0)
    have hx9 : x < 1000000000 := by rw [hxe]; exact H9.out _ (by rw [List.getD_eq_getElem?_getD, List.getElem?_eq_getElem (by omega)]; simp)
    have hmath := (digits_math X H9.out (X.length - 1) (by omega) (by rw [← hxe]; exact hx0) (X.length - 1) (Nat.le_refl _)).1
    rw [← hxe] at hc hmath
    rw [Nat.sub_self, List.drop_zero] at hmath
    have CF := hid (strconv_FormatUint x (by omega) w1 (HTAB.out.next HB1.out))
    rw [← Num.decDigits_len x hx0] at hmath
    obtain ⟨D, hD⟩ : ∃ D, D = Lib.decDigits x := ⟨_, rfl⟩
    rw [← hD] at CF hmath
    have hD9 : D.length ≤ 9 := by rw [hD]; exact Num.decDigits_le x 9 (by decide) hx9
    have HM := hid hmath
    clear hmath hD hxe hx0 h0
    go_wp2_with (go_at_call 181; refine CF.out.mono ?_; rintro e w2 ⟨rfl, hb2⟩)
    go_ret
    exact ⟨ret_int (by rw [HM.out]; omega), below_trans HB1.out hb2⟩

theorem decDigits_drop (X : List Nat) (h9 : ∀ x ∈ X, x < 1000000000) (m : Nat) (hm : m + 1 < X.length) (h0 : X.getD (X.length - 1) 0 ≠ 0) :
    Lib.decDigits (Num.worth (X.drop (m + 1))) ++ Num.padT 9 (X.getD m 0) = Lib.decDigits (Num.worth (X.drop m)) := by
  have hx : X.getD m 0 < 10 ^ 9 := h9 _ (by rw [List.getD_eq_getElem?_getD, List.getElem?_eq_getElem (by omega)]; simp)
  have hne := (digits_math X h9 (X.length - 1) (by omega) h0 (X.length - 1 - (m + 1)) (by omega)).2
  rw [show X.length - 1 - (X.length - 1 - (m + 1)) = m + 1 by omega] at hne
  rw [worth_drop X m (by omega), Num.decDigits_join _ _ 9 hne hx (by decide)]

set_option maxRecDepth 100000 in
set_option maxHeartbeats 800000 in
theorem limb_Text (a : Option Addr) (cap : Nat) (xs : List Nat) (w : World) (h : U32 w a xs) (hl : xs.length ≤ 100000000) (htab : Pow w) :
    Calls Tryz.prog 144 #[.slice a xs.length cap] w fun e w' => e = .returned (.string ⟨(Lib.decDigits (Num.worth xs)).toArray⟩) ∧ Below w.heap.size w w' := by
  have l1 := worth_lt h.lt (Nat.le_refl _)
  have CN := limb_Norm a cap xs w h (by omega)
  obtain ⟨X, hX⟩ : ∃ X, X = Num.limbs (Num.worth xs) := ⟨_, rfl⟩
  have h9 : ∀ x ∈ X, x < 1000000000 := by rw [hX]; exact Num.limbs_lt _
  have hXX : Num.worth xs = Num.worth X := by rw [hX, Num.worth_limbs]
  have htop : Num.worth xs ≠ 0 → X.getD (X.length - 1) 0 ≠ 0 := fun h0 => by rw [hX]; exact limbs_top _ h0
  have hz : X ≠ [] → Num.worth xs ≠ 0 := fun h1 h2 => h1 (by rw [hX, h2]; rfl)
  rw [← hX] at CN l1
  rw [hXX] at htop hz ⊢
  have CN := hid CN
  have H9 := hid h9
  have HTOP := hid htop
  have HTAB := hid htab
  have HZ := hid hz
  clear h hX h9 hXX htop htab hz
  go_enter Tryz.func144, Tryz.ntmps144
  go_wp2_with fail
  refine CN.out.mono ?_
  rintro e w1 ⟨a1, c1, rfl, hb1, ho1⟩
  have HB1 := hid hb1
  have HO1 := hid ho1
  clear hb1 ho1 CN
  by_cases h0 : X = []
  · subst h0
    go_wp2
    go_ret
    exact ⟨by simp [Num.worth, Num.val, Num.decDigits_zero], HB1.out⟩
  · obtain ⟨b, off, rfl⟩ := (owned_row HO1.out).isSome (by intro e; exact h0 (by simpa [u32s] using e))
    have hX1 : 1 ≤ X.length := by have : X.length ≠ 0 := fun e => h0 (List.length_eq_zero_iff.1 e); omega
    have hX2 : ((X.length : Int) == 0) = false := by rw [beq_eq_false_iff_ne]; omega
    have hc := (owned_row HO1.out).u32 (j := X.length - 1) (by omega)
    obtain ⟨x, hxe⟩ : ∃ x, x = X.getD (X.length - 1) 0 := ⟨_, rfl⟩
    have hT := HTOP.out (HZ.out h0)
    have hx9 : x < 1000000000 := by rw [hxe]; exact H9.out _ (by rw [List.getD_eq_getElem?_getD, List.getElem?_eq_getElem (by omega)]; simp)
    rw [← hxe] at hc
    have hwl : Num.worth (X.drop (X.length - 1)) = x := by rw [hxe]; exact worth_drop_last X _ (by omega)
    have CF := fun W (hb : Below w1.heap.size w1 W) => strconv_FormatUint x (by omega) W ((HTAB.out.next HB1.out).next hb)
    obtain ⟨D, hD⟩ : ∃ D, D = Lib.decDigits x := ⟨_, rfl⟩
    rw [← hD] at CF
    have hD9 : D.length ≤ 9 := by rw [hD]; exact Num.decDigits_le x 9 (by decide) hx9
    rw [← hwl] at hD
    have hbl := cell_lt hc
    have CF := hid CF
    have HD := hid hD
    have HT := hid hT
    clear hD hxe h0 hwl hT
    go_wp2_with fail
    refine (CF.out _ ((Below.refl _ _).alloc (Nat.le_refl _) _)).mono ?_
    rintro e w2 ⟨rfl, hb2⟩
    have hbu := isBuilder_below (Lib.fresh_isBuilder 79 5 w1) hb2
    have HB2 := hid (below_alloc hb2)
    have hsz2 := HB2.out.size
    clear hb2 CF
    go_wp2_with fail
    refine (WriteString w1.heap.size w1.heap.size [] ⟨D.toArray⟩ w2 hbu (by simp [ByteArray.size]; omega) hsz2).mono ?_
    rintro e w3 ⟨rfl, hbu3, hb3⟩
    have HBU := hid (show Lib.BuilderAt 79 5 w1.heap.size w1.heap.size (.pointer (some ⟨w1.heap.size, 0, none⟩)) (Lib.byteCells D) w3 by simpa [Lib.strCells_eq] using hbu3)
    have HB3 := hid (HB2.out.trans hb3)
    clear hbu hbu3 hb3 hsz2
    go_wp2_with fail
    go_loopw [5] (fun i wr => ∃ (k : Nat) (S : List UInt8), 1 ≤ k + 1 ∧ k + 1 ≤ X.length ∧ i = .int .i64 ((k : Int) - 1) ∧ S = Lib.decDigits (Num.worth (X.drop k)) ∧ S.length ≤ 9 * (X.length - k) ∧
        Lib.BuilderAt 79 5 w1.heap.size w1.heap.size (.pointer (some ⟨w1.heap.size, 0, none⟩)) (Lib.byteCells S) wr ∧ Below w1.heap.size w1 wr) (fun i _ => (intOf i + 1).toNat)
    case atStart => exact ⟨X.length - 1, D, by omega, by omega, by go_num, HD.out, by omega, HBU.out, HB3.out⟩
    case round =>
      clear HBU HB3 HB2 HD hc hbl hx9 hD9
      obtain ⟨k, S, _, hk, rfl, hS, hSl, hbu, hb⟩ := hrel
      have HS := hid hS
      have HBU := hid hbu
      have HB := hid hb
      clear hS hbu hb
      by_cases hk0 : k = 0
      · subst hk0
        go_wp2_with fail
        refine (Tryz.Builder_String_any w1.heap.size w1.heap.size S wr (Or.inr HBU.out) HB.out.size).mono ?_
        rintro e w4 ⟨rfl, hb4⟩
        have HB4 := hid (below_trans HB1.out (HB.out.trans hb4))
        have HS' := hid (show S = Lib.decDigits (Num.worth X) by simpa using HS.out)
        clear hb4
        go_wp2
        go_ret
        exact ⟨by rw [HS'.out]; rfl, HB4.out⟩
      · obtain ⟨m, rfl⟩ : ∃ m, k = m + 1 := ⟨k - 1, by omega⟩
        have e1 : ((m + 1 : Nat) : Int) - 1 = (m : Int) := by omega
        rw [e1]
        have hm : m < X.length := by omega
        obtain ⟨x, hxe⟩ : ∃ x, x = X.getD m 0 := ⟨_, rfl⟩
        have hx9 : x < 1000000000 := by rw [hxe]; exact H9.out _ (by rw [List.getD_eq_getElem?_getD, List.getElem?_eq_getElem hm]; simp)
        have g0 := (owned_row HO1.out).u32 hm
        have hc : wr.cell? ⟨b, off + m, none⟩ = some (.int .u32 (x : Int)) := by rw [hxe]; exact (HB.out.cell (cell_lt g0)).trans g0
        obtain ⟨E, hE⟩ : ∃ E, E = Lib.decDigits x := ⟨_, rfl⟩
        have hE9 : E.length ≤ 9 := by rw [hE]; exact Num.decDigits_le x 9 (by decide) hx9
        have CF := strconv_FormatUint x (by omega) wr ((HTAB.out.next HB1.out).next HB.out)
        rw [← hE] at CF
        have HST : Hid (S ++ (List.replicate (9 - E.length) 48 ++ E) = Lib.decDigits (Num.worth (X.drop m))) := by
          have := decDigits_drop X H9.out m (by omega) HT.out
          rw [← hxe, ← HS.out] at this
          rw [← this, hE]; rfl
        have CF := hid CF
        clear hE hxe g0 e1 HS
        go_wp2_with fail
        refine CF.out.mono ?_
        rintro e w4 ⟨rfl, hb4⟩
        have HBU4 := hid (builder_below HBU.out hb4)
        have HB4 := hid (below_trans HB.out hb4)
        clear hb4 HBU HB CF
        have hrep : (9 : Int) - (E.length : Int) = ((9 - E.length : Nat) : Int) := by omega
        have CR := Tryz.strings_Repeat ⟨#[48]⟩ (9 - E.length) w4 (by omega) (by simp [ByteArray.size]; omega)
        rw [← hrep] at CR
        have CR := hid CR
        clear hrep
        go_wp2_with fail
        refine CR.out.mono ?_
        rintro e w5 ⟨rfl, hb5⟩
        have HBU5 := hid (builder_below HBU4.out hb5)
        have HB5 := hid (below_trans HB4.out hb5)
        clear hb5 HBU4 HB4 CR
        go_wp2_with fail
        refine (WriteString w1.heap.size w1.heap.size (Lib.byteCells S) _ w5 (Or.inr HBU5.out) (by simp [ByteArray.size, Lib.byteCells_length, Lib.repeatL_length]; omega) HB5.out.size).mono ?_
        rintro e w6 ⟨rfl, hbu6, hb6⟩
        have HBU6 := hid hbu6
        have HB6 := hid (HB5.out.trans hb6)
        clear hbu6 hb6 HBU5 HB5
        go_wp2_with fail
        refine (WriteString w1.heap.size w1.heap.size _ _ w6 (Or.inr HBU6.out) (by simp [ByteArray.size, Lib.byteCells_length, Lib.strCells_length, Lib.repeatL_length]; omega) HB6.out.size).mono ?_
        rintro e w7 ⟨rfl, hbu7, hb7⟩
        have HBU7 := hid hbu7
        have HB7 := hid (HB6.out.trans hb7)
        clear hbu7 hb7 HBU6 HB6
        go_wp2
        go_roundw
        case rel =>
          refine ⟨m, S ++ (List.replicate (9 - E.length) 48 ++ E), by omega, by omega, by go_num, HST.out, by simp; omega, ?_, HB7.out⟩
          have := HBU7.out
          simpa [Lib.strCells_eq, Lib.byteCells, Num.repeatL_one] using this
        case measure => simp [intOf]

end Go.Proofs.YtldhebpkplglcaaGreatDoor

namespace Go.Proofs.YtldhebpkplglcaaGreatDoor
open Go.RowKit

/-- What digits are worth, the highest first. -/
def num10 : List UInt8 → Nat → Nat
  | [], n => n
  | c :: l, n => num10 l (10 * n + (c.toNat - 48))
theorem num10_append (a b : List UInt8) (n : Nat) : num10 (a ++ b) n = num10 b (num10 a n) := by
  induction a generalizing n with
  | nil => rfl
  | cons c a ih => exact ih _
theorem num10_start (l : List UInt8) (n : Nat) : num10 l n = n * 10 ^ l.length + num10 l 0 := by
  induction l generalizing n with
  | nil => simp [num10]
  | cons c l ih =>
    simp only [num10, List.length_cons]
    rw [ih (10 * n + (c.toNat - 48)), ih (10 * 0 + (c.toNat - 48)), Nat.pow_succ]
    have : (10 * n + (c.toNat - 48)) * 10 ^ l.length = n * (10 ^ l.length * 10) + (10 * 0 + (c.toNat - 48)) * 10 ^ l.length := by
      rw [Nat.mul_zero, Nat.zero_add, Nat.add_mul]; congr 1; ac_rfl
    omega
/-- All are digits. -/
def Digs (l : List UInt8) : Prop := ∀ c ∈ l, 48 ≤ c.toNat ∧ c.toNat ≤ 57
theorem num10_lt (l : List UInt8) (h : Digs l) : num10 l 0 < 10 ^ l.length := by
  induction l with
  | nil => simp [num10]
  | cons c l ih =>
    have h1 := h c (by simp)
    have h2 := ih (fun d hd => h d (by simp [hd]))
    have : num10 (c :: l) 0 = num10 l (c.toNat - 48) := by simp [num10]
    rw [this, num10_start, List.length_cons, Nat.pow_succ]
    have h3 : (c.toNat - 48) * 10 ^ l.length ≤ 9 * 10 ^ l.length := Nat.mul_le_mul_right _ (by omega)
    omega

/-- What holds at the head of a round of 'Parse': the last k chunks of nine digits are laid down. -/
def Par (w : World) (l : List UInt8) (k : Nat) (v : Value) (wr : World) : Prop :=
  ∃ out : List Nat, out.length = k ∧ (∀ x ∈ out, x < 1000000000) ∧ Num.worth out = num10 (l.drop (l.length - 9 * k)) 0 ∧ wr.ownsRow w.heap.size 62 1 v k (u32s out) ∧ Below w.heap.size w wr

theorem chunk_math (l : List UInt8) (k e f : Nat) (_hd : Digs l) (he : e = l.length - 9 * k) (hf : f = e - 9) (he0 : 0 < e) (out : List Nat) (hl : out.length = k) (hw : Num.worth out = num10 (l.drop e) 0) :
    Num.worth (out ++ [num10 ((l.drop f).take (e - f)) 0]) = num10 (l.drop f) 0 := by
  have e1 : l.drop f = (l.drop f).take (e - f) ++ l.drop e := by
    have := (List.take_append_drop (e - f) (l.drop f)).symm
    rw [List.drop_drop, show f + (e - f) = e by omega] at this
    exact this
  have hlen : (l.drop e).length = 9 * k := by rw [List.length_drop]; omega
  conv => rhs; rw [e1, num10_append, num10_start, hlen]
  unfold Num.worth at hw ⊢
  rw [Num.val_snoc, hw, hl, Nat.pow_mul, show (10 : Nat) ^ 9 = Num.B9 from rfl, Nat.mul_comm, Nat.add_comm]

theorem byte_get (s : ByteArray) (h : Digs s.data.toList) (i : Nat) (hi : i < s.size) : 48 ≤ (s[i]).toNat ∧ (s[i]).toNat ≤ 57 :=
  h _ (List.getElem_mem (l := s.data.toList) (by exact hi))
theorem digs_get (l : List UInt8) (h : Digs l) (i : Nat) (hi : i < l.length) : 48 ≤ l[i].toNat ∧ l[i].toNat ≤ 57 := h _ (List.getElem_mem hi)

end Go.Proofs.YtldhebpkplglcaaGreatDoor
