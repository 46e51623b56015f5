/- The document's answer, twelfth part: texts. -/
import Derived.Test.YtphdncifcljmpaaGreatDoorRefK
import Derived.Test.YtphdncifcljmpaaGreatDoorRefKb
import Derived.Laws.BytesString
namespace Go.Proofs.YtphdncifcljmpaaGreatDoor
open Go.RowKit

/-- Bytes as they lie in cells. -/
def bys (l : List UInt8) : List Value := l.map fun c => Value.int .u8 c.toNat
@[simp] theorem length_bys (l : List UInt8) : (bys l).length = l.length := by simp [bys]
theorem bys_get (l : List UInt8) (j : Nat) (hj : j < l.length) : (bys l)[j]? = some (.int .u8 (l[j].toNat : Int)) := by simp [bys, hj]
theorem byteSlice : SliceOf Tryz.prog 60 5 (.int .u8 0) 1 := ⟨Tryz.underlying60, by kernel_rfl, rfl⟩
/-- What is laid down of a text, from its end on. -/
def txtL (ds : List Nat) (n k : Nat) : List UInt8 := List.replicate (n - k) 0 ++ ((ds.take k).map Num.chr).reverse
theorem txtL_length (ds : List Nat) (n k : Nat) (hk : k ≤ n) (hn : ds.length = n) : (txtL ds n k).length = n := by simp [txtL]; omega
theorem txtL_set (ds : List Nat) (n k : Nat) (hk : k < n) (hn : ds.length = n) : (txtL ds n k).set (n - 1 - k) (Num.chr (ds.getD k 0)) = txtL ds n (k + 1) := by
  unfold txtL
  have e1 : List.replicate (n - k) (0 : UInt8) = List.replicate (n - (k + 1)) 0 ++ [0] := by
    rw [show n - k = (n - (k + 1)) + 1 by omega, List.replicate_succ']
  have e2 : ds.take (k + 1) = ds.take k ++ [ds.getD k 0] := by
    rw [List.take_add_one, List.getElem?_eq_getElem (by omega)]
    simp [show k < ds.length by omega]
  rw [e1, e2]
  simp only [List.map_append, List.reverse_append, List.map_cons, List.map_nil, List.reverse_cons, List.reverse_nil, List.nil_append, List.append_assoc]
  rw [List.set_append_right _ _ (by simp; omega)]
  have : n - 1 - k - (List.replicate (n - (k + 1)) (0 : UInt8)).length = 0 := by simp; omega
  rw [this]
  rfl

set_option maxRecDepth 100000 in
set_option maxHeartbeats 1600000 in
theorem r_Text_some (b off n cap m : Nat) (w : World) (hn : (Num.digs 10 m).length = n) (h0 : m ≠ 0) (h : U8 w (some ⟨b, off, none⟩) (Num.digs 10 m)) (hl : n ≤ 1000000) :
    Calls Tryz.prog 46 #[.slice (some ⟨b, off, none⟩) n cap] w fun e w' => e = .returned (.string ⟨(Lib.decDigits m).toArray⟩) ∧ Below w.heap.size w w' := by
  have hT : Lib.decDigits m = ((Num.digs 10 m).map Num.chr).reverse := Num.decDigits_digs m h0
  rw [hT]
  have hpos : 0 < n := by rw [← hn]; exact Num.length_pos (by decide) h0
  obtain ⟨ds, hds⟩ : ∃ ds, ds = Num.digs 10 m := ⟨_, rfl⟩
  rw [← hds] at h hn ⊢
  have C1 := fun j (hj : j < n) => h.row.u8 (j := j) (by omega)
  have BX := fun k => h.getD_lt k
  have HN := hid hn
  replace C1 := hid C1
  replace BX := hid BX
  have hz : ((n : Int) == 0) = false := by rw [beq_eq_false_iff_ne]; omega
  have HCV : Hid (∀ W (l : List UInt8), l.length = n → (∀ j (hj : j < l.length), W.cell? ⟨w.heap.size, j, none⟩ = some (.int .u8 (l[j].toNat : Int))) → (convert 60 9 (.slice (some ⟨w.heap.size, 0, none⟩) n n)).run Tryz.prog W = .ok (.string ⟨l.toArray⟩) W) := by
    intro W l hl hc
    have := run_convert_bytes_back (P := Tryz.prog) W 60 9 5 ⟨w.heap.size, 0, none⟩ n l Tryz.underlying60 Tryz.underlying5 Tryz.underlying9 (fun j hj => by rw [Addr.add_lit, Nat.zero_add]; exact hc j hj)
    rw [hl] at this; exact this
  clear h hn hds hT h0
  go_enter Tryz.func46, Tryz.ntmps46
  go_wp2_with (at_make; refine wpList_full byteSlice rfl _ _ rfl n rfl rfl rfl rfl (by omega) (by unfold maxLen; omega) ?_; intro w1 hown hb1)
  have HO := hid hown
  have HB1 := hid hb1
  clear hown hb1
  go_loopw [4] (fun i wr => ∃ k : Nat, k ≤ n ∧ i = .int .i64 k ∧ wr.ownsRow w.heap.size 5 1 (.slice (some ⟨w.heap.size, 0, none⟩) n n) n (bys (txtL ds n k)) ∧ Below w.heap.size w wr) (fun i _ => n - (intOf i).toNat)
  case atStart => exact ⟨0, Nat.zero_le _, rfl, by simpa [txtL, bys] using HO.out, HB1.out⟩
  case round =>
    clear HO HB1
    obtain ⟨k, hk, rfl, hown, hb⟩ := hrel
    have HO := hid hown
    have HB := hid hb
    clear hown hb
    by_cases hlt : k < n
    · have g0 := C1.out k hlt
      have bx := BX.out k
      have hst := txtL_set ds n k hlt HN.out
      have hlen := txtL_length ds n k hk HN.out
      obtain ⟨x, hx⟩ : ∃ x, x = ds.getD k 0 := ⟨_, rfl⟩
      rw [← hx] at hst bx
      have g1 : wr.cell? ⟨b, off + k, none⟩ = some (.int .u8 (x : Int)) := by rw [hx]; exact (HB.out.cell (cell_lt g0)).trans g0
      have hs := HO.out.stored (n - 1 - k) (.int .u8 (48 + (x : Int)))
      have hf := HO.out.frozenAt (n - 1 - k)
      have hc := HO.out.cellAt (n - 1 - k) (by omega)
      have hold : ∃ u, wr.cell? ⟨w.heap.size, n - 1 - k, none⟩ = some (.int .u8 u) := by
        rw [hc]
        exact ⟨((txtL ds n k)[n - 1 - k]'(by omega)).toNat, by simp [bys, show n - 1 - k < (txtL ds n k).length by omega]⟩
      obtain ⟨u, hold⟩ := hold
      have hset : (bys (txtL ds n k)).set (n - 1 - k) (.int .u8 (48 + (x : Int))) = bys (txtL ds n (k + 1)) := by
        rw [← hst]
        unfold bys
        rw [List.map_set]
        congr 1
        unfold Num.chr
        simp
        omega
      rw [hset] at hs
      have HS := hid hs
      have w1 : ((n : Int) - 1 - k) = ((n - 1 - k : Nat) : Int) := by omega
      have hp : n - 1 - k < n := by omega
      obtain ⟨p, hpe⟩ : ∃ p, p = n - 1 - k := ⟨_, rfl⟩
      rw [← hpe] at w1 hp hold hf HS
      clear hx hst hlen g0 hs hc hset hpe
      go_wp2_with fail
      go_roundw
      case rel => exact ⟨k + 1, by omega, by go_num, HS.out.1, HB.out.grown HS.out.2 HB.out.size (fun j hj => by injection hj with hj; omega)⟩
      case measure => simp [intOf]; omega
    · obtain rfl : n = k := by omega
      have hT : txtL ds n n = (ds.map Num.chr).reverse := by
        unfold txtL; rw [Nat.sub_self, List.take_of_length_le (by have := HN.out; omega)]; simp
      have hlen := txtL_length ds n n (Nat.le_refl _) HN.out
      rw [hT] at hlen
      have ho := HO.out
      rw [hT] at ho
      have hconv := HCV.out wr (ds.map Num.chr).reverse hlen (fun j hj => by
        rw [ho.cellAt j (by omega)]
        exact bys_get _ _ hj)
      clear ho
      clear hlt hT hlen
      go_wp2
      go_ret
      exact ⟨rfl, HB.out⟩

theorem ref1_Text (a : Option Addr) (cap m : Nat) (w : World) (h : U8 w a (Num.digs 10 m)) (hl : (Num.digs 10 m).length ≤ 1000000) :
    Calls Tryz.prog 46 #[.slice a (Num.digs 10 m).length cap] w fun e w' => e = .returned (.string ⟨(Lib.decDigits m).toArray⟩) ∧ Below w.heap.size w w' := by
  by_cases h0 : m = 0
  · subst h0
    rw [Num.decDigits_zero]
    show Calls Tryz.prog 46 #[.slice a 0 cap] w _
    clear h hl
    go_enter Tryz.func46, Tryz.ntmps46
    go_wp2
    go_ret
    exact ⟨rfl, Below.refl _ _⟩
  · obtain ⟨b, off, rfl⟩ := h.isSome (fun e => h0 ((Num.digs_eq_nil (by decide)).1 e))
    exact r_Text_some b off _ cap m w rfl h0 h hl

/-- So many noughts. -/
theorem ref2_noughts (n : Nat) (w : World) (hn : n ≤ 1000000) :
    Calls Tryz.prog 48 #[.int .i64 n] w fun e w' => e = .returned (.string ⟨(List.replicate n 48).toArray⟩) ∧ w = w' := by
  go_enter Tryz.func48, Tryz.ntmps48
  go_wp2
  go_loop [3, 4] (fun s i => ∃ k : Nat, k ≤ n ∧ i = .int .i64 k ∧ ∃ t : ByteArray, s = .string t ∧ t.data.toList = List.replicate k 48) (fun _ i => n - (intOf i).toNat)
  case atStart => exact ⟨0, Nat.zero_le _, rfl, _, rfl, rfl⟩
  case round =>
    obtain ⟨k, hk, rfl, t, rfl, ht⟩ := hrel
    have HT := hid ht
    clear ht
    have hsz : t.size ≤ 1000000 := by rw [size_eq HT.out]; simp; omega
    by_cases hlt : k < n
    · go_wp2
      go_round
      case rel => exact ⟨k + 1, by omega, by go_num, _, rfl, by rw [append_data, HT.out, List.replicate_succ']⟩
      case measure => simp [intOf]; omega
    · obtain rfl : n = k := by omega
      go_wp2
      go_ret
      exact ⟨ret_str HT.out, rfl⟩

end Go.Proofs.YtphdncifcljmpaaGreatDoor
