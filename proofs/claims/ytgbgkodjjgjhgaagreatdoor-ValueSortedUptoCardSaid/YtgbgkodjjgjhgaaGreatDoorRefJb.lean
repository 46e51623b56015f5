/- Words for the document's answer: bounds of what was taken, a store of one cell. -/
import Derived.Test.YtgbgkodjjgjhgaaGreatDoorMg
namespace Go.Proofs.YtgbgkodjjgjhgaaGreatDoor
open Go.RowKit

theorem taken_bounds {g : Bool} {xs : List Nat} {e : Int} (_h : ∀ x ∈ xs, x < 4294967296) : (Num.digs 10 (takenD g xs.length (Num.worth xs) e).m).length ≤ 400 ∧ -10400 ≤ (takenD g xs.length (Num.worth xs) e).e ∧ (takenD g xs.length (Num.worth xs) e).e ≤ 10001 := by
  have := (tk_taken g xs.length (Num.worth xs) e).good
  exact plain_bounds this.1 this.2
theorem HasR.rec {W : World} {N c : Nat} {d : D} {b : Option Addr} (h : HasR W N d b c) : Rec W N := by obtain ⟨T, h⟩ := h; exact ⟨_, _, _, _, _, T, h⟩
theorem Rec.set1 {W : World} {R K : Nat} (h : Rec W R) (hK : R ≠ K) (o : Nat) (v : Value) : Rec (W.setCell ⟨K, o, none⟩ v) R := by
  obtain ⟨g, a, n, c, e, T, h⟩ := h
  exact ⟨g, a, n, c, e, T, by rw [Below.heap_setCell _ _ _ _ hK]; exact h⟩
theorem U8.set1 {W : World} {b : Option Addr} {ds : List Nat} {R : Nat} (h : U8 W b ds) (r : Rec W R) (o : Nat) (v : Value) : U8 (W.setCell ⟨R, o, none⟩ v) b ds := by
  refine ⟨fun j x hx => ?_, h.lt⟩
  obtain ⟨bk, off, rfl, hc⟩ := h.row j x hx
  refine ⟨bk, off, rfl, ?_⟩
  have hne : bk ≠ R := by
    rintro rfl
    obtain ⟨g0, a0, n0, c0, e0, T, hr⟩ := r
    rw [blk_cell hr] at hc
    obtain ⟨y, _, rfl⟩ : ∃ y, y ∈ ds ∧ x = .int .u8 ((y : Nat) : Int) := by
      have := List.mem_of_getElem? hx
      obtain ⟨y, hy, rfl⟩ := List.mem_map.1 (show x ∈ ds.map _ from this)
      exact ⟨y, hy, rfl⟩
    generalize off + j = k at hc
    match k, hc with
    | 0, hc => simp at hc
    | 1, hc => simp at hc
    | 2, hc => simp at hc
    | k + 3, hc => simp at hc
  rw [← hc]
  exact World.cell?_of_block (Below.heap_setCell _ _ _ _ hne)

end Go.Proofs.YtgbgkodjjgjhgaaGreatDoor
