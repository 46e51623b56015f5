/- The document's answer, seventeenth part: Cut. -/
import Derived.Test.YtmdgciolnpkccaaGreatDoorRefO
import Derived.Deep.CutBlock
namespace Go.Proofs.YtmdgciolnpkccaaGreatDoor
open Go.RowKit

/-- Block K holds the parts of a literal. -/
def Lit5 (W : World) (K : Nat) (n : Bool) (A B C : ByteArray) (d : Bool) : Prop := ∃ T, W.heap[K]? = some (.cells #[.bool n, .string A, .string B, .string C, .bool d] T)
theorem Lit5.cells {W : World} {K : Nat} {n d : Bool} {A B C : ByteArray} (h : Lit5 W K n A B C d) : W.cell? ⟨K, 0, none⟩ = some (.bool n) ∧ W.cell? ⟨K, 1, none⟩ = some (.string A) ∧ W.cell? ⟨K, 2, none⟩ = some (.string B) ∧ W.cell? ⟨K, 3, none⟩ = some (.string C) ∧ W.cell? ⟨K, 4, none⟩ = some (.bool d) := by
  obtain ⟨T, h⟩ := h
  exact ⟨blk_cell h 0, blk_cell h 1, blk_cell h 2, blk_cell h 3, blk_cell h 4⟩
theorem Lit5.free {W : World} {K : Nat} {n d : Bool} {A B C : ByteArray} (h : Lit5 W K n A B C d) : W.frozen? ⟨K, 0, none⟩ = false ∧ W.frozen? ⟨K, 1, none⟩ = false ∧ W.frozen? ⟨K, 2, none⟩ = false ∧ W.frozen? ⟨K, 3, none⟩ = false ∧ W.frozen? ⟨K, 4, none⟩ = false := by
  obtain ⟨T, h⟩ := h
  exact ⟨blk_frozen h 0, blk_frozen h 1, blk_frozen h 2, blk_frozen h 3, blk_frozen h 4⟩
theorem Lit5.lt {W : World} {K : Nat} {n d : Bool} {A B C : ByteArray} (h : Lit5 W K n A B C d) : K < W.heap.size := by obtain ⟨T, h⟩ := h; exact blk_lt h
theorem Lit5.other {W : World} {K R : Nat} {n d : Bool} {A B C : ByteArray} (h : Lit5 W K n A B C d) (hK : K ≠ R) (o : Nat) (v : Value) : Lit5 (W.setCell ⟨R, o, none⟩ v) K n A B C d := by
  obtain ⟨T, h⟩ := h
  exact ⟨T, by rw [Below.heap_setCell _ _ _ _ hK]; exact h⟩
theorem Lit5.set0 {W : World} {K : Nat} {n d : Bool} {A B C : ByteArray} (h : Lit5 W K n A B C d) (x : Bool) : Lit5 (W.setCell ⟨K, 0, none⟩ (.bool x)) K x A B C d := by
  obtain ⟨T, h⟩ := h; exact ⟨T, by simp [World.setCell, Array.getElem?_modify, h]⟩
theorem Lit5.set1 {W : World} {K : Nat} {n d : Bool} {A B C : ByteArray} (h : Lit5 W K n A B C d) (x : ByteArray) : Lit5 (W.setCell ⟨K, 1, none⟩ (.string x)) K n x B C d := by
  obtain ⟨T, h⟩ := h; exact ⟨T, by simp [World.setCell, Array.getElem?_modify, h]⟩
theorem Lit5.set2 {W : World} {K : Nat} {n d : Bool} {A B C : ByteArray} (h : Lit5 W K n A B C d) (x : ByteArray) : Lit5 (W.setCell ⟨K, 2, none⟩ (.string x)) K n A x C d := by
  obtain ⟨T, h⟩ := h; exact ⟨T, by simp [World.setCell, Array.getElem?_modify, h]⟩
theorem Lit5.set3 {W : World} {K : Nat} {n d : Bool} {A B C : ByteArray} (h : Lit5 W K n A B C d) (x : ByteArray) : Lit5 (W.setCell ⟨K, 3, none⟩ (.string x)) K n A B x d := by
  obtain ⟨T, h⟩ := h; exact ⟨T, by simp [World.setCell, Array.getElem?_modify, h]⟩
theorem Lit5.set4 {W : World} {K : Nat} {n d : Bool} {A B C : ByteArray} (h : Lit5 W K n A B C d) (x : Bool) : Lit5 (W.setCell ⟨K, 4, none⟩ (.bool x)) K n A B C x := by
  obtain ⟨T, h⟩ := h; exact ⟨T, by simp [World.setCell, Array.getElem?_modify, h]⟩

/-- What is known between two statements of Cut: the two blocks, and where the text is read on. -/
structure CutAt (w W : World) (s : ByteArray) (p : Nat) (R : List UInt8) (n : Bool) (A B C : ByteArray) (d : Bool) : Prop where
  res : Lit5 W w.heap.size false ⟨#[]⟩ ⟨#[]⟩ ⟨#[]⟩ false
  lit : Lit5 W (w.heap.size + 1) n A B C d
  bel : Below w.heap.size w W
  rest : s.data.toList.drop p = R
  le : p ≤ s.size
theorem CutAt.len {w W : World} {s : ByteArray} {p : Nat} {R : List UInt8} {n d : Bool} {A B C : ByteArray} (h : CutAt w W s p R n A B C d) : R.length + p = s.size := by
  have h1 : s.data.toList.length = s.size := rfl
  have := h.le
  rw [← h.rest, List.length_drop]; omega
/-- The byte that stands at p. -/
theorem CutAt.byte {w W : World} {s : ByteArray} {p : Nat} {c : UInt8} {R : List UInt8} {n d : Bool} {A B C : ByteArray} (h : CutAt w W s p (c :: R) n A B C d) (V : World) : (Instr.index 9 (.string s) (.int .i64 (p : Int))).run Tryz.prog V = .ok (.int .u8 (c.toNat : Int)) V := by
  obtain ⟨hlt, hb⟩ := byte_at h.rest (n := 0) (by simp)
  exact index_byte (i := p + 0) (by omega) hlt (by rw [hb]; rfl) V
/-- What Cut yields. -/
def OutCut (w : World) (l : List UInt8) (e : Ending) (w' : World) : Prop :=
  ∃ n A B C d ok, e = .returned (.tuple #[.agg #[.bool n, .string A, .string B, .string C, .bool d], .bool ok]) ∧ Below w.heap.size w w' ∧
    (if ok = true then cutL l = some (n, A.data.toList, B.data.toList, C.data.toList, d) else cutL l = none)

theorem pre_cases (l : List UInt8) (b : UInt8) : (∃ r, l = b :: r ∧ Lib.hasPrefix l [b] = true ∧ Lib.trimPrefix l [b] = r) ∨ ((l = [] ∨ ∃ c r, l = c :: r ∧ c ≠ b) ∧ Lib.hasPrefix l [b] = false ∧ Lib.trimPrefix l [b] = l) := by
  cases l with
  | nil => exact .inr ⟨.inl rfl, rfl, rfl⟩
  | cons c r =>
    by_cases h : c = b
    · subst h
      exact .inl ⟨r, rfl, by simp [Lib.hasPrefix], by simp [Lib.trimPrefix, Lib.hasPrefix]⟩
    · have hb : (b == c) = false := by rw [beq_eq_false_iff_ne]; exact Ne.symm h
      have e1 : Lib.hasPrefix (c :: r) [b] = false := by simp [Lib.hasPrefix, List.isPrefixOf, hb]
      exact .inr ⟨.inr ⟨c, r, rfl, h⟩, e1, by unfold Lib.trimPrefix; rw [if_neg (by rw [e1]; simp)]⟩

/-- The parts found on the way, once the sign and the digits ahead of the point are known. -/
theorem cut_bad {l r0 : List UInt8} (h0 : Lib.trimPrefix l [45] = r0) (h : r0.takeWhile isD = [] ∨ (1 < (r0.takeWhile isD).length ∧ (r0.takeWhile isD).head? = some 48)) : cutL l = none := by
  unfold cutL; simp only [h0]; rw [if_pos h]
theorem cut_point {l r0 r : List UInt8} (h0 : Lib.trimPrefix l [45] = r0) (h : ¬ (r0.takeWhile isD = [] ∨ (1 < (r0.takeWhile isD).length ∧ (r0.takeWhile isD).head? = some 48))) (h1 : r0.dropWhile isD = 46 :: r) :
    cutL l = if r.takeWhile isD = [] then none else (ctailL (r.dropWhile isD)).map fun x => (Lib.hasPrefix l [45], r0.takeWhile isD, r.takeWhile isD, x.1, x.2) := by
  have e1 : Lib.hasPrefix (46 :: r) [46] = true := by simp [Lib.hasPrefix]
  have e2 : Lib.trimPrefix (46 :: r) [46] = r := by simp [Lib.trimPrefix, Lib.hasPrefix]
  unfold cutL; simp only [h0, h1, e1, e2]; rw [if_neg h]; simp only [if_true]
theorem cut_plain {l r0 : List UInt8} (h0 : Lib.trimPrefix l [45] = r0) (h : ¬ (r0.takeWhile isD = [] ∨ (1 < (r0.takeWhile isD).length ∧ (r0.takeWhile isD).head? = some 48))) (h1 : Lib.hasPrefix (r0.dropWhile isD) [46] = false) :
    cutL l = (ctailL (r0.dropWhile isD)).map fun x => (Lib.hasPrefix l [45], r0.takeWhile isD, [], x.1, x.2) := by
  unfold cutL; simp only [h0, h1]; rw [if_neg h, if_neg (by simp)]

theorem split_at {A B R : List UInt8} (e : A ++ B = R) : R.drop A.length = B ∧ R.take A.length = A := by subst e; simp
/-- Reading on behind the digits. -/
theorem drop_digits {s : ByteArray} {p : Nat} {R : List UInt8} (h : s.data.toList.drop p = R) : s.data.toList.drop (p + (R.takeWhile isD).length) = R.dropWhile isD := by
  rw [← List.drop_drop, h]
  exact (split_at List.takeWhile_append_dropWhile).1
theorem take_digits {s : ByteArray} {p : Nat} {R : List UInt8} (h : s.data.toList.drop p = R) : (s.extract p (p + (R.takeWhile isD).length)).data.toList = R.takeWhile isD := by
  rw [Lib.extract_data, h, Nat.add_sub_cancel_left]
  exact (split_at List.takeWhile_append_dropWhile).2

end Go.Proofs.YtmdgciolnpkccaaGreatDoor
