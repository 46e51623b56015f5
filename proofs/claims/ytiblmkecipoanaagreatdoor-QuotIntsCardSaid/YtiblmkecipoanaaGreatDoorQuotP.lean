/- Words for QuotBetween: a number that is stored in a region that draws its order. -/
import Derived.Test.YtiblmkecipoanaaGreatDoorQuotO
namespace Go.Proofs.YtiblmkecipoanaaGreatDoor
open Go.RowKit

theorem keepQ3 {w W w1 : World} {N : Nat} {x y z : Value} (h : W.cell? ⟨N, 0, none⟩ = some x ∧ W.cell? ⟨N, 1, none⟩ = some y ∧ W.cell? ⟨N, 2, none⟩ = some z ∧ Below w.heap.size w W) (hb : Below W.heap.size W w1) :
    w1.cell? ⟨N, 0, none⟩ = some x ∧ w1.cell? ⟨N, 1, none⟩ = some y ∧ w1.cell? ⟨N, 2, none⟩ = some z ∧ Below w.heap.size w w1 :=
  ⟨((bcell hb).1 _ _ (cell_lt h.1)).trans h.1, ((bcell hb).1 _ _ (cell_lt h.2.1)).trans h.2.1, ((bcell hb).1 _ _ (cell_lt h.2.2.1)).trans h.2.2.1, below_trans h.2.2.2 hb⟩

theorem keepQ3a {w W : World} {o o' : Obj} {N : Nat} {x y z : Value} (h : (W.alloc o).cell? ⟨N, 0, none⟩ = some x ∧ (W.alloc o).cell? ⟨N, 1, none⟩ = some y ∧ (W.alloc o).cell? ⟨N, 2, none⟩ = some z ∧ Below w.heap.size w (W.alloc o)) (hN : N < W.heap.size) (hs : w.heap.size ≤ W.heap.size) :
    (W.alloc o').cell? ⟨N, 0, none⟩ = some x ∧ (W.alloc o').cell? ⟨N, 1, none⟩ = some y ∧ (W.alloc o').cell? ⟨N, 2, none⟩ = some z ∧ Below w.heap.size w (W.alloc o') := by
  have hb : ∀ k, k < W.heap.size → (W.alloc o').heap[k]? = (W.alloc o).heap[k]? := fun k hk => by rw [Below.heap_alloc _ _ _ hk, Below.heap_alloc _ _ _ hk]
  have hc : ∀ j, (W.alloc o').cell? ⟨N, j, none⟩ = (W.alloc o).cell? ⟨N, j, none⟩ := fun j => World.cell?_of_block (hb N hN)
  obtain ⟨h0, h1, h2, h4⟩ := h
  exact ⟨(hc 0).trans h0, (hc 1).trans h1, (hc 2).trans h2, ⟨h4.os, h4.tape, h4.output, by simp; omega, fun k hk => (hb k (by omega)).trans (h4.block k hk)⟩⟩
theorem keepQ3s {w W : World} {N M : Nat} {x y z : Value} (h : W.cell? ⟨N, 0, none⟩ = some x ∧ W.cell? ⟨N, 1, none⟩ = some y ∧ W.cell? ⟨N, 2, none⟩ = some z ∧ Below w.heap.size w W) (g : Bool) (a : Option Addr) (n c : Nat) (e : Int) (hN : N ≠ M) (hB : w.heap.size ≤ M) (w1 : World) (hw : w1 = put3 W M g a n c e) :
    w1.cell? ⟨N, 0, none⟩ = some x ∧ w1.cell? ⟨N, 1, none⟩ = some y ∧ w1.cell? ⟨N, 2, none⟩ = some z ∧ Below w.heap.size w w1 := by
  subst hw
  obtain ⟨h0, h1, h2, h4⟩ := h
  have hc : ∀ j, (put3 W M g a n c e).cell? ⟨N, j, none⟩ = W.cell? ⟨N, j, none⟩ := fun j => World.cell?_of_block (put3_other hN _ _ _ _ _)
  exact ⟨(hc 0).trans h0, (hc 1).trans h1, (hc 2).trans h2, below_put h4 hB _ _ _ _ _⟩
/-- Block R is a number's. -/
def RecD (W : World) (R : Nat) : Prop := ∃ g a n c e, W.heap[R]? = some (.cells #[.bool g, .slice a n c, .int .i64 e] 24)
theorem RecD.rec {W : World} {R : Nat} (h : RecD W R) : Rec W R := by
  obtain ⟨g, a, n, c, e, h⟩ := h
  exact ⟨g, a, n, c, e, _, h⟩
theorem RecD.below {W W' : World} {R : Nat} (h : RecD W R) (hb : Below W.heap.size W W') : RecD W' R := by
  obtain ⟨g, a, n, c, e, h⟩ := h
  exact ⟨g, a, n, c, e, blk_below h hb⟩
theorem U32.put {W : World} {b : Option Addr} {ds : List Nat} {R : Nat} (h : U32 W b ds) (r : Rec W R) (g : Bool) (a : Option Addr) (n c : Nat) (e : Int) : U32 (put3 W R g a n c e) b ds := by
  refine ⟨fun j x hx => ?_, h.lt⟩
  obtain ⟨bk, off, rfl, hc⟩ := h.row j x hx
  refine ⟨bk, off, rfl, ?_⟩
  have hne : bk ≠ R := by
    rintro rfl
    obtain ⟨g0, a0, n0, c0, e0, T, hr⟩ := r
    rw [blk_cell hr] at hc
    obtain ⟨y, _, rfl⟩ : ∃ y, y ∈ ds ∧ x = .int .u32 ((y : Nat) : Int) := by
      have := List.mem_of_getElem? hx
      obtain ⟨y, hy, rfl⟩ := List.mem_map.1 (show x ∈ ds.map _ from this)
      exact ⟨y, hy, rfl⟩
    generalize off + j = k at hc
    match k, hc with
    | 0, hc => simp at hc
    | 1, hc => simp at hc
    | 2, hc => simp at hc
    | k + 3, hc => simp at hc
  rw [← hc]
  exact World.cell?_of_block (put3_other hne _ _ _ _ _)
theorem HasD.of_put {W : World} {R : Nat} (h : RecD W R) (d : D) (b : Option Addr) (c : Nat) (u : U32 W b (Num.limbs d.m)) : HasD (put3 W R d.neg b (Num.limbs d.m).length c d.e) R d.neg (Num.limbs d.m) d.e b c := by
  refine ⟨?_, u.put h.rec _ _ _ _ _⟩
  obtain ⟨g0, a0, n0, c0, e0, h⟩ := h
  simp [put3, World.setCell, Array.getElem?_modify, h]

end Go.Proofs.YtiblmkecipoanaaGreatDoor
