/- The document's answer, second part: digits. -/
import Derived.Test.YtldhebpkplglcaaGreatDoorMd
namespace Go.Proofs.YtldhebpkplglcaaGreatDoor
open Go.RowKit

def u8s (ds : List Nat) : List Value := ds.map fun (d : Nat) => Value.int .u8 (d : Int)
/-- Digits, the lowest first, in memory. -/
structure U8 (w : World) (a : Option Addr) (ds : List Nat) : Prop where
  row : Row w a (u8s ds)
  lt : ∀ d ∈ ds, d < 10
theorem U8.below {w w' : World} {a : Option Addr} {ds : List Nat} (h : U8 w a ds) (hb : Below w.heap.size w w') : U8 w' a ds := ⟨h.row.below hb, h.lt⟩
theorem U8.isSome {w : World} {a : Option Addr} {ds : List Nat} (h : U8 w a ds) (hn : ds ≠ []) : ∃ b off, a = some ⟨b, off, none⟩ := h.row.isSome (by intro e; exact hn (by simpa [u8s] using e))
theorem U8.getD_lt {w : World} {a : Option Addr} {ds : List Nat} (h : U8 w a ds) (i : Nat) : ds.getD i 0 < 10 := by
  by_cases hi : i < ds.length
  · have := h.lt (ds.getD i 0) (by simp [hi])
    exact this
  · simp [List.getElem?_eq_none (show ds.length ≤ i by omega)]
theorem Row.u8 {w : World} {b off : Nat} {ds : List Nat} (h : Row w (some ⟨b, off, none⟩) (u8s ds)) {j : Nat} (hj : j < ds.length) : w.cell? ⟨b, off + j, none⟩ = some (.int .u8 ((ds.getD j 0 : Nat) : Int)) := by
  have := h.cellAt (j := j) (by simpa [u8s] using hj)
  rw [this]
  simp [u8s, hj]
/-- Digits in memory of the call's own. -/
def OutN (w : World) (ds : List Nat) (e : Ending) (w' : World) : Prop :=
  ∃ a cap, e = .returned (.slice a ds.length cap) ∧ Below w.heap.size w w' ∧ w'.ownsRow w.heap.size 5 1 (.slice a ds.length cap) ds.length (u8s ds)
theorem u8_of {w : World} {base m cap : Nat} {a : Option Addr} {ds : List Nat} (h : w.ownsRow base 5 1 (.slice a m cap) m (u8s ds)) (hd : ∀ d ∈ ds, d < 10) : U8 w a ds := ⟨owned_row h, hd⟩
theorem numSlice : SliceOf Tryz.prog 166 5 (.int .u8 0) 1 := ⟨Tryz.underlying166, by kernel_rfl, rfl⟩

theorem ref1_digit_in (b off n cap i : Nat) (x : Int) (w : World) (hi : i < n) (_hn : n ≤ 9223372036854775807) (hc : w.cell? ⟨b, off + i, none⟩ = some (.int .u8 x)) (h0 : 0 ≤ x) (h1 : x < 256) :
    Calls Tryz.prog 231 #[.slice (some ⟨b, off, none⟩) n cap, .int .i64 i] w fun e w' => e = .returned (.int .i64 x) ∧ w = w' := by
  go_enter Tryz.func231, Tryz.ntmps231
  go_wp2
  go_ret
  exact ⟨by simp; try omega, rfl⟩
theorem ref1_digit_out (a : Option Addr) (n cap i : Nat) (w : World) (hi : n ≤ i) :
    Calls Tryz.prog 231 #[.slice a n cap, .int .i64 i] w fun e w' => e = .returned (.int .i64 0) ∧ w = w' := by
  go_enter Tryz.func231, Tryz.ntmps231
  go_wp2
  go_ret
  exact ⟨rfl, rfl⟩
theorem ref1_digit (a : Option Addr) (cap i : Nat) (ds : List Nat) (w : World) (h : U8 w a ds) (hn : ds.length ≤ 9223372036854775807) :
    Calls Tryz.prog 231 #[.slice a ds.length cap, .int .i64 i] w fun e w' => e = .returned (.int .i64 ((ds.getD i 0 : Nat) : Int)) ∧ w = w' := by
  by_cases hi : i < ds.length
  · obtain ⟨b, off, rfl⟩ := h.isSome (by intro e; subst e; simp at hi)
    have := h.getD_lt i
    exact ref1_digit_in b off _ cap i _ w hi hn (h.row.u8 hi) (by omega) (by omega)
  · rw [show ds.getD i 0 = 0 by simp [List.getElem?_eq_none (show ds.length ≤ i by omega)]]
    exact ref1_digit_out a _ cap i w (by omega)

set_option maxRecDepth 100000 in
set_option maxHeartbeats 400000 in
theorem ref1_Small (n : Nat) (w : World) (hn : n ≤ 18446744073709551615) :
    Calls Tryz.prog 167 #[.int .u64 n] w (OutN w (Num.digs 10 n)) := by
  have HL : Hid ((Num.digs 10 n).length ≤ 20) := (Num.digs_length_le (by decide)).2 (Nat.lt_of_le_of_lt hn (by decide))
  go_enter Tryz.func167, Tryz.ntmps167
  go_wp2
  go_loopw [0, 3] (fun i v wr => ∃ (m : Nat) (out : List Nat), m ≤ n ∧ i = .int .u64 m ∧ Num.digs 10 n = out ++ Num.digs 10 m ∧ wr.ownsRow w.heap.size 5 1 v out.length (u8s out) ∧ Below w.heap.size w wr) (fun i _ _ => (intOf i).toNat)
  case atStart => exact ⟨n, [], Nat.le_refl _, rfl, rfl, World.ownsRow_nil _ _ _ _, Below.refl _ _⟩
  case round =>
    obtain ⟨m, out, hm, rfl, hd, hown, hb⟩ := hrel
    by_cases h0 : m = 0
    · subst h0
      have HD := hid (show Num.digs 10 n = out by rw [hd, Num.digs_zero, List.append_nil])
      have HO := hid hown
      have HB := hid hb
      clear hd hown hb
      go_wp2
      go_ret
      obtain ⟨a, cap, rfl, _, _⟩ := owns_row HO.out
      refine ⟨a, cap, by rw [HD.out]; rfl, HB.out, ?_⟩
      rw [HD.out]; exact HO.out
    · have e := Num.digs_pos (b := 10) (by decide) h0
      have hlen : out.length + 1 ≤ 20 := by
        have := HL.out
        rw [hd, e, List.length_append, List.length_cons] at this; omega
      have HD := hid (show Num.digs 10 n = (out ++ [m % 10]) ++ Num.digs 10 (m / 10) by rw [hd, e]; simp)
      have hsz := hb.size
      have HB := hid hb
      have hpos : (0 : Int) < (m : Int) := by omega
      clear hd e hb
      go_wp2_with (at_builtin; refine wpList_push numSlice rfl _ _ rfl w.heap.size (w0 := wr) hown rfl rfl rfl (by unfold maxLen; omega) (by omega) hsz ?_; intro v' w3 hown' hb')
      have HOW := hid (show w3.ownsRow w.heap.size 5 1 v' (out ++ [m % 10]).length (u8s (out ++ [m % 10])) by simpa [u8s] using hown')
      have HB3 := hid (HB.out.trans hb')
      have hlt : m / 10 < m := by omega
      clear hown' hb' hown HB
      go_wp2
      go_roundw
      case rel => exact ⟨m / 10, out ++ [m % 10], by omega, by go_num, HD.out, HOW.out, HB3.out⟩
      case measure => simp [intOf]; omega

end Go.Proofs.YtldhebpkplglcaaGreatDoor
